/-
  The walk of matrix.steps.
-/
import Derived.Test.YtbnfnijjldimkabMmul
namespace Go.Proofs.Ytbnfnijjldimkab
open Go.RowKit
set_option linter.unusedVariables false
set_option linter.unusedSimpArgs false
/-- a matrix as a table -/
def tb (c : Nat) (M : Nat → Nat → BitVec 8) (j : Nat) : BitVec 8 := M (j / c) (j % c)
theorem tb_at {c : Nat} (M : Nat → Nat → BitVec 8) (i j : Nat) (h : j < c) : tb c M (i * c + j) = M i j := by unfold tb; rw [idx_div i j h, idx_mod i j h]
theorem tb_cells (r c : Nat) (M : Nat → Nat → BitVec 8) : (mat r c M).cells = tab (r * c) (tb c M) := rfl
theorem in_row {c i j : Nat} (hc : 1 ≤ c) : (i * c ≤ j ∧ j < i * c + c) ↔ j / c = i := by
  constructor
  · rintro ⟨h1, h2⟩
    obtain ⟨m, rfl⟩ : ∃ m, j = i * c + m := ⟨j - i * c, by omega⟩
    exact idx_div i m (by omega)
  · rintro rfl
    have h1 := Nat.div_add_mod j c
    have h2 := Nat.mod_lt j (show 0 < c by omega)
    rw [Nat.mul_comm] at h1
    omega
theorem tb_addRow {c : Nat} (M : Nat → Nat → BitVec 8) (t s : Nat) (a : BitVec 8) (hc : 1 ≤ c) : addF (tb c M) (t * c) c a (M s) = tb c (addRow M t s a) := by
  funext j
  show (if t * c ≤ j ∧ j < t * c + c then M (j / c) (j % c) ^^^ gm a (M s (j - t * c)) else M (j / c) (j % c)) = (if j / c = t then M t (j % c) ^^^ gm a (M s (j % c)) else M (j / c) (j % c))
  by_cases h : j / c = t
  · have h2 := (in_row hc).2 h
    rw [if_pos h2, if_pos h, h]
    obtain ⟨m, rfl⟩ : ∃ m, j = t * c + m := ⟨j - t * c, by omega⟩
    rw [idx_mod t m (by omega), show t * c + m - t * c = m from by omega]
  · rw [if_neg (fun h2 => h ((in_row hc).1 h2)), if_neg h]
theorem bv_one : bv 1 = 1#8 := by rw [show (1 : Int) = nv 1#8 from nv_one.symm, bv_nv]
theorem ker_refl_iff {r c : Nat} {M : Nat → Nat → BitVec 8} : ∀ x, Ker r c M x ↔ Ker r c M x := fun _ => Iff.rfl
/-- rows below i cleared by row k's step in column j -/
def clearedTo (M : Nat → Nat → BitVec 8) (k j i : Nat) (a c : Nat) : BitVec 8 := if a < i ∧ a ≠ k then M a c ^^^ gm (M a j) (M k c) else M a c
theorem clearedTo_zero (M : Nat → Nat → BitVec 8) (k j : Nat) : clearedTo M k j 0 = M := by
  funext a c; unfold clearedTo; rw [if_neg (fun h => Nat.not_lt_zero _ h.1)]
theorem clearedTo_skip (M : Nat → Nat → BitVec 8) (k j i : Nat) (h : i = k ∨ M i j = 0#8) : clearedTo M k j (i + 1) = clearedTo M k j i := by
  funext a c
  unfold clearedTo
  by_cases e : a = i
  · subst e
    have hR : ¬ (a < a ∧ a ≠ k) := fun h => Nat.lt_irrefl _ h.1
    rw [if_neg hR]
    by_cases e2 : a = k
    · rw [if_neg (fun h => h.2 e2)]
    · rw [if_pos ⟨Nat.lt_succ_self a, e2⟩, h.resolve_left e2, gm_zero_left]; simp
  · by_cases h2 : a < i ∧ a ≠ k
    · rw [if_pos h2, if_pos ⟨by omega, h2.2⟩]
    · rw [if_neg h2, if_neg (by omega)]
theorem clearedTo_row (M : Nat → Nat → BitVec 8) (k j i a c : Nat) (h : i ≤ a) : clearedTo M k j i a c = M a c := by unfold clearedTo; rw [if_neg (by omega)]
theorem clearedTo_k (M : Nat → Nat → BitVec 8) (k j i c : Nat) : clearedTo M k j i k c = M k c := by unfold clearedTo; rw [if_neg (by omega)]
theorem clearedTo_step (M : Nat → Nat → BitVec 8) (k j i : Nat) (h : i ≠ k) : addRow (clearedTo M k j i) i k (M i j) = clearedTo M k j (i + 1) := by
  funext a c
  unfold addRow
  by_cases e : a = i
  · subst e
    rw [if_pos rfl, clearedTo_row _ _ _ _ _ _ (Nat.le_refl _), clearedTo_k]
    unfold clearedTo
    rw [if_pos ⟨Nat.lt_succ_self a, h⟩]
  · rw [if_neg e]
    unfold clearedTo
    by_cases h2 : a < i ∧ a ≠ k
    · rw [if_pos h2, if_pos ⟨by omega, h2.2⟩]
    · rw [if_neg h2, if_neg (by omega)]
/-- a step's row made ready: nothing else has changed, nothing ahead of the step, the step is not nought, the kernel is the same -/
structure Piv (r c : Nat) (M' M1 : Nat → Nat → BitVec 8) (j k : Nat) : Prop where
  up : ∀ i x, i < k → M1 i x = M' i x
  low : ∀ i x, k ≤ i → i < r → x < j → M1 i x = 0#8
  ne : M1 k j ≠ 0#8
  ker : ∀ x, Ker r c M1 x ↔ Ker r c M' x
theorem piv_same {r c j k : Nat} {M' : Nat → Nat → BitVec 8} {p : Nat → Nat} (g : Good r M' j k p) (hp : M' k j ≠ 0#8) : Piv r c M' M' j k :=
  ⟨fun _ _ _ => rfl, fun i x h1 h2 h3 => g.below i x h1 h2 h3, hp, fun _ => Iff.rfl⟩
theorem piv_add {r c j k m : Nat} {M' : Nat → Nat → BitVec 8} {p : Nat → Nat} (g : Good r M' j k p) (hk : k < r) (hm : m < r) (hkm : k < m) (hz : M' k j = 0#8) (hp : M' m j ≠ 0#8) : Piv r c M' (addRow M' k m 1#8) j k := by
  refine ⟨fun i x h => ?_, fun i x h1 h2 h3 => ?_, ?_, fun x => ?_⟩
  · unfold addRow; rw [if_neg (by omega)]
  · unfold addRow
    by_cases e : i = k
    · rw [if_pos e, g.below k x (Nat.le_refl _) hk h3, g.below m x (by omega) hm h3, gm_zero_right]; simp
    · rw [if_neg e, g.below i x h1 h2 h3]
  · unfold addRow
    rw [if_pos rfl, hz, gm_one_left]; simpa using hp
  · exact ker_addRow hm hk (Or.inl (by omega)) x
/-- .. and scaled to 1 -/
theorem piv_scale {r c j k : Nat} {M' M1 : Nat → Nat → BitVec 8} (h : Piv r c M' M1 j k) (hk : k < r) : Piv r c M' (addRow M1 k k (ivv (M1 k j) ^^^ 1#8)) j k ∧ addRow M1 k k (ivv (M1 k j) ^^^ 1#8) k j = 1#8 := by
  have hiv : ivv (M1 k j) = iv (M1 k j) := by unfold ivv; rw [if_neg h.ne]
  have h1 : addRow M1 k k (ivv (M1 k j) ^^^ 1#8) k j = 1#8 := by
    unfold addRow
    rw [if_pos rfl, gm_xor_left, gm_one_left, hiv, gm_comm, gm_iv _ h.ne, ← BitVec.xor_assoc, BitVec.xor_comm (M1 k j), BitVec.xor_assoc, BitVec.xor_self, BitVec.xor_zero]
  refine ⟨⟨fun i x hi => ?_, fun i x h2 h3 h4 => ?_, by rw [h1]; decide, fun x => ?_⟩, h1⟩
  · rw [← h.up i x hi]; unfold addRow; rw [if_neg (by omega)]
  · unfold addRow
    by_cases e : i = k
    · rw [if_pos e, h.low k x (Nat.le_refl _) hk h4, gm_zero_right]; simp
    · rw [if_neg e, h.low i x h2 h3 h4]
  · rw [ker_addRow hk hk (Or.inr ?_) x, h.ker x]
    intro e
    have h9 : ivv (M1 k j) = 0#8 := by
      have := congrArg (fun y => y ^^^ 1#8) e
      simpa [BitVec.xor_assoc] using this
    rw [hiv] at h9
    exact inv_ne _ h.ne h9
theorem piv_next {r c j k : Nat} {M M' M2 : Nat → Nat → BitVec 8} {p : Nat → Nat} (g : Good r M' j k p) (h : Piv r c M' M2 j k) (hk : k < r) (h1 : M2 k j = 1#8) : Good r (clearedTo M2 k j r) (j + 1) (k + 1) (fun t => if t = k then j else p t) := by
  refine good_step g hk h.up h.low h1 (fun i x hi => ?_)
  unfold clearedTo
  by_cases e : i = k
  · rw [if_neg (fun h => h.2 e), if_pos e, e]
  · rw [if_pos ⟨hi, e⟩, if_neg e]
theorem rows_apart {c i k q1 q2 : Nat} (h : i ≠ k) (h1 : q1 = i * c) (h2 : q2 = k * c) : q1 ≤ q2 ∨ q2 + c ≤ q1 := by
  rcases Nat.lt_or_gt_of_ne h with h8 | h8
  · left; rw [h1, h2]; exact Nat.mul_le_mul_right c (by omega)
  · right
    have := Nat.mul_le_mul_right c (show k + 1 ≤ i by omega)
    rw [Nat.add_mul] at this
    omega
/-- what steps holds: the box, the block, nothing else changed -/
structure StpS (w0 : World) (g N : Nat) (LX : List Value) (sp : List Value) (f : Nat → BitVec 8) (w : World) : Prop where
  box : Row w w0.heap.size 71 LX
  row : Row w g 5 (ncells (tab N f) ++ sp)
  fr : Fr [g] w0 w
section
variable {w0 w w' : World} {g N : Nat} {LX sp : List Value} {f f' : Nat → BitVec 8}
theorem StpS.after (h : StpS w0 g N LX sp f w) (hb : Below w.heap.size w w') : StpS w0 g N LX sp f w' := ⟨h.box.after hb, h.row.after hb, h.fr.trans (Fr.of_below (L := []) hb) (by simp)⟩
theorem StpS.add (h : StpS w0 g N LX sp f w) (hr : Row w' g 5 (ncells (tab N f') ++ sp)) (hf : Fr [g] w w') : StpS w0 g N LX sp f' w' :=
  ⟨h.box.fr hf (by simp only [List.mem_singleton]; exact h.box.ne h.row (by decide)), hr, h.fr.trans hf (fun i hi _ => hi)⟩
end
set_option maxRecDepth 100000 in
set_option maxHeartbeats 3200000 in
theorem steps_any (r c cols g cap N : Nat) (M : Nat → Nat → BitVec 8) (sp : List Value) (w : World) (r1 : 1 ≤ r) (r2 : r ≤ 255) (c1 : 1 ≤ c) (c2 : c ≤ 510) (hN : N = r * c) (hcap : N ≤ cap) (hcap2 : cap ≤ 9223372036854775807) (hcols : cols ≤ c) (hrow : Row w g 5 (ncells (tab N (tb c M)) ++ sp)) :
    Calls Try.prog 55 #[.agg #[.int .i64 r, .int .i64 c, .slice (some ⟨g, 0, none⟩) N cap], .int .i64 cols] w fun e w' => ∃ k M' j p, e = .returned (.int .i64 (k : Nat)) ∧ Row w' g 5 (ncells (tab N (tb c M')) ++ sp) ∧ Fr [g] w w' ∧ Good r M' j k p ∧ j ≤ cols ∧ (j = cols ∨ k = r) ∧ (∀ x, Ker r c M' x ↔ Ker r c M x) := by
  have q1 : N ≤ 255 * 510 := by rw [hN]; exact Nat.mul_le_mul r2 c2
  have S0 : Hid (StpS w g N [.int .i64 r, .int .i64 c, .slice (some ⟨g, 0, none⟩) N cap] sp (tb c M) (w.alloc (.cells #[.int .i64 r, .int .i64 c, .slice (some ⟨g, 0, none⟩) N cap] 71))) :=
    Lib.hid ⟨Row.new _ _ _, hrow.alloc _, (Fr.refl _ _).alloc _⟩
  have gl := hrow.lt
  have HN := Lib.hid hN
  clear hN hrow
  go_enter Try.func55, Try.ntmps55
  go_wp2
  go_loopw [5, 6] (fun at_ jj wr => ∃ (k j : Nat) (M' : Nat → Nat → BitVec 8) (p : Nat → Nat), at_ = .int .i64 k ∧ jj = .int .i64 j ∧ j ≤ cols ∧ Good r M' j k p ∧ (∀ x, Ker r c M' x ↔ Ker r c M x) ∧ StpS w g N [.int .i64 r, .int .i64 c, .slice (some ⟨g, 0, none⟩) N cap] sp (tb c M') wr) (fun _ jj _ => cols - (intOf jj).toNat)
  case atStart => exact ⟨0, 0, M, fun _ => 0, rfl, rfl, by omega, good_start r M _, ker_refl_iff, S0.out⟩
  case round =>
    clear S0
    obtain ⟨k, j, M', p, rfl, rfl, hj, hgood, hker, hs⟩ := hrel
    have hkr := hgood.le
    have HG := Lib.hid hgood
    have HK := Lib.hid hker
    obtain ⟨x0, x1, x2⟩ := box3 hs.box
    have S1 := Lib.hid hs
    clear hgood hker hs
    by_cases hlt : j < cols ∧ k < r
    · obtain ⟨hlt1, hlt2⟩ := hlt
      go_wp2
      obtain ⟨wo, rfl⟩ : ∃ wo : World, wo = wr := ⟨_, rfl⟩
      go_loopw [7] (fun rr wr => ∃ m : Nat, rr = .int .i64 m ∧ k ≤ m ∧ m ≤ r ∧ (∀ i, k ≤ i → i < m → M' i j = 0#8) ∧ StpS w g N [.int .i64 r, .int .i64 c, .slice (some ⟨g, 0, none⟩) N cap] sp (tb c M') wr) (fun rr _ => r - (intOf rr).toNat)
      case atStart => exact ⟨k, rfl, Nat.le_refl _, hkr, fun i h1 h2 => by omega, S1.out⟩
      case round =>
        clear S1 x0 x1 x2
        obtain ⟨m, rfl, hkm, hmr, hz, hs⟩ := hrel
        obtain ⟨x0, x1, x2⟩ := box3 hs.box
        have HZ := Lib.hid hz
        have S2 := Lib.hid hs
        clear hz hs
        by_cases hm : m < r
        · by_cases hpv : nv (M' m j) = 0
          · have hb0 : (nv (M' m j) == 0) = true := by simpa using hpv
            have HPV := Lib.hid hpv
            clear hpv
            go_wp2_with (go_at_call 54; have h9 := S2.out; clear S2; refine (row0_any r c m g N cap _ hm r2 c1 c2 HN.out hcap hcap2).mono ?_; rintro e w2 ⟨q, hqe, hqn, rfl, hb⟩; have hm9 := h9.after hb; have c0 := tab_cell (i := q + j) hm9.row (by omega); rw [hqe, tb_at M' m j (by omega), ← hqe] at c0; have S3 := Lib.hid hm9; have HQ := Lib.hid hqe; clear h9 hb hm9 hqe x0 x1 x2)
            go_roundw
            case measure => simp [intOf]; omega
            case rel => exact ⟨m + 1, by go_num, by omega, by omega, fun i h1 h2 => by
              by_cases e : i = m
              · rw [e]; exact (nv_eq_zero _).1 HPV.out
              · exact HZ.out i h1 (by omega), S3.out⟩
          · have hb0 : (nv (M' m j) == 0) = false := by simpa using hpv
            have HPV := Lib.hid hpv
            clear hpv
            by_cases hmk : m = k
            · have e1 : ((m : Int) == (r : Int)) = false := by simp; omega
              have e2 : ((m : Int) != (k : Int)) = false := by simp [hmk]
              have hP0 := piv_same (c := c) HG.out (by rw [← hmk]; exact fun e => HPV.out ((nv_eq_zero _).2 e))
              obtain ⟨M1, hM1⟩ : ∃ M1, M1 = M' := ⟨_, rfl⟩
              have hP1 : Piv r c M' M1 j k := by rw [hM1]; exact hP0
              clear hP0
              obtain ⟨X, hX⟩ : ∃ X, X = M1 k j := ⟨_, rfl⟩
              have HM1 := Lib.hid hM1
              have HP1 := Lib.hid hP1
              have HXX := Lib.hid hX
              have HMK := Lib.hid hmk
              clear hM1 hP1 hX hmk
              by_cases hx1 : nv X = 1
              · have hxb : (nv X != 1) = false := by simp [hx1]
                have HX1 := Lib.hid hx1
                clear hx1
                go_wp2_with (first
                  | (go_at_call 54; have h9 := S2.out; clear S2; refine (row0_any r c m g N cap _ hm r2 c1 c2 HN.out hcap hcap2).mono ?_; rintro e w2 ⟨q2, hqe, hqnq2, rfl, hb⟩; have hm9 := h9.after hb; have cq2 := tab_cell (i := q2 + j) hm9.row (by omega); rw [hqe, tb_at M' m j (by omega), ← hqe] at cq2; obtain ⟨k03, k13, k23⟩ := box3 hm9.box; have S3 := Lib.hid hm9; have Hq2 := Lib.hid hqe; clear h9 hb hm9 hqe x0 x1 x2)
                  | (go_at_call 54; have h9 := S3.out; rw [← HM1.out] at h9; clear S3; refine (row0_any r c k g N cap _ hlt2 r2 c1 c2 HN.out hcap hcap2).mono ?_; rintro e w4 ⟨q4, hqe, hqnq4, rfl, hb⟩; have hm9 := h9.after hb; have cq4 := tab_cell (i := q4 + j) hm9.row (by omega); rw [hqe, tb_at M1 k j (by omega), ← hqe] at cq4; rw [← HXX.out] at cq4; obtain ⟨k04, k14, k24⟩ := box3 hm9.box; have S4 := Lib.hid hm9; have Hq4 := Lib.hid hqe; clear h9 hb hm9 hqe))
                obtain ⟨M2, hM2⟩ : ∃ M2, M2 = M1 := ⟨_, rfl⟩
                have HP2 : Hid (Piv r c M' M2 j k ∧ M2 k j = 1#8) := by
                  rw [hM2]
                  exact Lib.hid ⟨HP1.out, by rw [← HXX.out]; exact nv_inj (HX1.out.trans nv_one.symm)⟩
                have SL : Hid (StpS w g N [.int .i64 r, .int .i64 c, .slice (some ⟨g, 0, none⟩) N cap] sp (tb c M2) w4) := by rw [hM2]; exact S4
                clear hM2
                go_loopw [78] (fun ii wr => ∃ i : Nat, ii = .int .i64 i ∧ i ≤ r ∧ (∀ x, Ker r c (clearedTo M2 k j i) x ↔ Ker r c M x) ∧ StpS w g N [.int .i64 r, .int .i64 c, .slice (some ⟨g, 0, none⟩) N cap] sp (tb c (clearedTo M2 k j i)) wr) (fun ii _ => r - (intOf ii).toNat)
                case atStart => exact ⟨0, rfl, by omega, fun x => by rw [clearedTo_zero]; exact (HP2.out.1.ker x).trans (HK.out x), by rw [clearedTo_zero]; exact SL.out⟩
                case round =>
                  clear SL
                  obtain ⟨i, rfl, hi, hker, hs⟩ := hrel
                  obtain ⟨x0, x1, x2⟩ := box3 hs.box
                  have HKI := Lib.hid hker
                  have S6 := Lib.hid hs
                  clear hker hs
                  by_cases hir : i < r
                  · by_cases hik : i = k
                    · have hib : ((i : Int) != (k : Int)) = false := by simp [hik]
                      have HIK := Lib.hid hik
                      clear hik
                      go_wp2_with (go_at_call 54; have h9 := S6.out; clear S6; refine (row0_any r c i g N cap _ hir r2 c1 c2 HN.out hcap hcap2).mono ?_; rintro e w6 ⟨q6, hqe, hqnq6, rfl, hb⟩; have hm9 := h9.after hb; have cq6 := tab_cell (i := q6 + j) hm9.row (by omega); rw [hqe, tb_at (clearedTo M2 k j i) i j (by omega), ← hqe] at cq6; have S7 := Lib.hid hm9; have Hq6 := Lib.hid hqe; clear h9 hb hm9 hqe x0 x1 x2)
                      go_roundw
                      case measure => simp [intOf]; omega
                      case rel => exact ⟨i + 1, by go_num, by omega, by rw [clearedTo_skip M2 k j i (Or.inl HIK.out)]; exact HKI.out, by rw [clearedTo_skip M2 k j i (Or.inl HIK.out)]; exact S7.out⟩
                    · have hib : ((i : Int) != (k : Int)) = true := by simp; omega
                      have hrow : clearedTo M2 k j i i j = M2 i j := clearedTo_row M2 k j i i j (Nat.le_refl _)
                      obtain ⟨Y, hY⟩ : ∃ Y, Y = M2 i j := ⟨_, rfl⟩
                      by_cases hx0 : nv Y = 0
                      · have hxb : (nv Y != 0) = false := by simp [hx0]
                        have HX0 := Lib.hid hx0
                        have HROW := Lib.hid (hrow.trans hY.symm)
                        have HY := Lib.hid hY
                        clear hx0 hrow hY
                        go_wp2_with (go_at_call 54; have h9 := S6.out; clear S6; refine (row0_any r c i g N cap _ hir r2 c1 c2 HN.out hcap hcap2).mono ?_; rintro e w6 ⟨q6, hqe, hqnq6, rfl, hb⟩; have hm9 := h9.after hb; have cq6 := tab_cell (i := q6 + j) hm9.row (by omega); rw [hqe, tb_at (clearedTo M2 k j i) i j (by omega), ← hqe] at cq6; rw [HROW.out] at cq6; have S7 := Lib.hid hm9; have Hq6 := Lib.hid hqe; clear h9 hb hm9 hqe x0 x1 x2)
                        go_roundw
                        case measure => simp [intOf]; omega
                        case rel => exact ⟨i + 1, by go_num, by omega, by rw [clearedTo_skip M2 k j i (Or.inr (HY.out.symm.trans ((nv_eq_zero _).1 HX0.out)))]; exact HKI.out, by rw [clearedTo_skip M2 k j i (Or.inr (HY.out.symm.trans ((nv_eq_zero _).1 HX0.out)))]; exact S7.out⟩
                      · have hxb : (nv Y != 0) = true := by simpa using hx0
                        have HX0 := Lib.hid hx0
                        have HROW := Lib.hid (hrow.trans hY.symm)
                        have HY := Lib.hid hY
                        have HIK := Lib.hid hik
                        clear hx0 hrow hY
                        go_wp2_with (go_at_call 54; have h9 := S6.out; clear S6; refine (row0_any r c i g N cap _ hir r2 c1 c2 HN.out hcap hcap2).mono ?_; rintro e w6 ⟨q6, hqe, hqnq6, rfl, hb⟩; have hm9 := h9.after hb; have cq6 := tab_cell (i := q6 + j) hm9.row (by omega); rw [hqe, tb_at (clearedTo M2 k j i) i j (by omega), ← hqe] at cq6; rw [HROW.out] at cq6; obtain ⟨k06, k16, k26⟩ := box3 hm9.box; have S7 := Lib.hid hm9; have Hq6 := Lib.hid hqe; clear h9 hb hm9 hqe x0 x1 x2)
                        go_region_held3 (fun w' => w'.cell? ⟨w.heap.size, 0, none⟩ = some (.int .i64 r) ∧ w'.cell? ⟨w.heap.size, 1, none⟩ = some (.int .i64 c) ∧ w'.cell? ⟨w.heap.size, 2, none⟩ = some (.slice (some ⟨g, 0, none⟩) N cap)) (first | exact ⟨by assumption, by assumption, by assumption⟩)
                          (first
                          | (go_at_call 54; have h9 := S7.out; clear S7; refine (row0_any r c i g N cap _ hir r2 c1 c2 HN.out hcap hcap2).mono ?_; rintro e we1 ⟨qe1, hqe, hqne1, rfl, hb⟩; have hm9 := (h9.after (Below.refl _ _).drew).after hb; obtain ⟨k0e1, k1e1, k2e1⟩ := box3 hm9.box; have S7x := Lib.hid hm9; have HQe1 := Lib.hid hqe; clear h9 hb hm9 hqe)
                          | (go_at_call 54; have h9 := S7x.out; clear S7x; refine (row0_any r c k g N cap _ hlt2 r2 c1 c2 HN.out hcap hcap2).mono ?_; rintro e we2 ⟨qe2, hqe, hqne2, rfl, hb⟩; have hm9 := h9.after hb; obtain ⟨k0e2, k1e2, k2e2⟩ := box3 hm9.box; have S7y := Lib.hid hm9; have HQe2 := Lib.hid hqe; clear h9 hb hm9 hqe)
                          | (go_at_call 71; have h9 := S7y.out; clear S7y; refine (add_any g qe1 c _ g qe2 c _ N (tb c (clearedTo M2 k j i)) ((clearedTo M2 k j i) k) sp (nv Y) _ (nv_lo _) (nv_hi _) h9.row (by omega) (Nat.le_refl _) (by omega) (fun i hi => by rw [tab_cell (i := qe2 + i) h9.row (by omega), HQe2.out, tb_at _ _ _ hi]) (Or.inr (rows_apart HIK.out HQe1.out HQe2.out))).mono ?_; rintro e we3 ⟨rfl, hr, hf⟩; rw [bv_nv, HQe1.out, tb_addRow _ _ _ _ c1] at hr; have hm9 := h9.add hr hf; obtain ⟨k0e3, k1e3, k2e3⟩ := box3 hm9.box; have S8 := Lib.hid hm9; clear h9 hr hf hm9))
                        go_wp2
                        go_roundw
                        case measure => simp [intOf]; omega
                        case rel =>
                          have hst := clearedTo_step M2 k j i HIK.out
                          exact ⟨i + 1, by go_num, by omega, fun x => by rw [← hst, ker_addRow hlt2 hir (Or.inl (fun h => HIK.out h.symm))]; exact HKI.out x, by rw [← hst, ← HY.out]; exact S8.out⟩
                  · obtain rfl : i = r := by omega
                    go_wp2
                    go_roundw
                    case measure => simp [intOf]; omega
                    case rel => exact ⟨k + 1, j + 1, clearedTo M2 k j i, fun t => if t = k then j else p t, by go_num, by go_num, by omega, piv_next (M := M') HG.out HP2.out.1 hlt2 HP2.out.2, HKI.out, S6.out⟩
              · have hxb : (nv X != 1) = true := by simpa using hx1
                have HX1 := Lib.hid hx1
                clear hx1
                go_wp2_with (first
                  | (go_at_call 54; have h9 := S2.out; clear S2; refine (row0_any r c m g N cap _ hm r2 c1 c2 HN.out hcap hcap2).mono ?_; rintro e w2 ⟨q2, hqe, hqnq2, rfl, hb⟩; have hm9 := h9.after hb; have cq2 := tab_cell (i := q2 + j) hm9.row (by omega); rw [hqe, tb_at M' m j (by omega), ← hqe] at cq2; obtain ⟨k03, k13, k23⟩ := box3 hm9.box; have S3 := Lib.hid hm9; have Hq2 := Lib.hid hqe; clear h9 hb hm9 hqe x0 x1 x2)
                  | (go_at_call 54; have h9 := S3.out; rw [← HM1.out] at h9; clear S3; refine (row0_any r c k g N cap _ hlt2 r2 c1 c2 HN.out hcap hcap2).mono ?_; rintro e w4 ⟨q4, hqe, hqnq4, rfl, hb⟩; have hm9 := h9.after hb; have cq4 := tab_cell (i := q4 + j) hm9.row (by omega); rw [hqe, tb_at M1 k j (by omega), ← hqe] at cq4; rw [← HXX.out] at cq4; obtain ⟨k04, k14, k24⟩ := box3 hm9.box; have S4 := Lib.hid hm9; have Hq4 := Lib.hid hqe; clear h9 hb hm9 hqe)
                  | (go_at_call 69; refine (inv_any (nv X) (nv_lo _) (nv_hi _) _).mono ?_; rw [bv_nv]; rintro e w5 ⟨rfl, rfl⟩))
                have hfx := u8_xor_nv (ivv X) 1#8
                rw [nv_one] at hfx
                go_region_held3 (fun w' => w'.cell? ⟨w.heap.size, 0, none⟩ = some (.int .i64 r) ∧ w'.cell? ⟨w.heap.size, 1, none⟩ = some (.int .i64 c) ∧ w'.cell? ⟨w.heap.size, 2, none⟩ = some (.slice (some ⟨g, 0, none⟩) N cap)) (first | exact ⟨by assumption, by assumption, by assumption⟩)
                  (first
                  | (go_at_call 54; have h9 := S4.out; clear S4; refine (row0_any r c k g N cap _ hlt2 r2 c1 c2 HN.out hcap hcap2).mono ?_; rintro e wb1 ⟨qb1, hqe, hqnb1, rfl, hb⟩; have hm9 := (h9.after (Below.refl _ _).drew).after hb; obtain ⟨k0b1, k1b1, k2b1⟩ := box3 hm9.box; have S4x := Lib.hid hm9; have HQb1 := Lib.hid hqe; clear h9 hb hm9 hqe)
                  | (go_at_call 54; have h9 := S4x.out; clear S4x; refine (row0_any r c k g N cap _ hlt2 r2 c1 c2 HN.out hcap hcap2).mono ?_; rintro e wb2 ⟨qb2, hqe, hqnb2, rfl, hb⟩; have hm9 := h9.after hb; obtain ⟨k0b2, k1b2, k2b2⟩ := box3 hm9.box; have S4y := Lib.hid hm9; have HQb2 := Lib.hid hqe; clear h9 hb hm9 hqe)
                  | (go_at_call 71; have h9 := S4y.out; clear S4y; refine (add_any g qb1 c _ g qb2 c _ N (tb c M1) (M1 k) sp (nv (ivv X ^^^ 1#8)) _ (nv_lo _) (nv_hi _) h9.row (by omega) (Nat.le_refl _) (by omega) (fun i hi => by rw [tab_cell (i := qb2 + i) h9.row (by omega), HQb2.out, tb_at _ _ _ hi]) (Or.inr (Or.inl (by rw [HQb1.out, HQb2.out]; exact Nat.le_refl _)))).mono ?_; rintro e wb3 ⟨rfl, hr, hf⟩; rw [bv_nv, HQb1.out, tb_addRow _ _ _ _ c1] at hr; have hm9 := h9.add hr hf; obtain ⟨k0b3, k1b3, k2b3⟩ := box3 hm9.box; have S5 := Lib.hid hm9; clear h9 hr hf hm9))
                clear hfx
                go_wp2
                obtain ⟨M2, hM2⟩ : ∃ M2, M2 = addRow M1 k k (ivv X ^^^ 1#8) := ⟨_, rfl⟩
                have HP2 : Hid (Piv r c M' M2 j k ∧ M2 k j = 1#8) := by
                  rw [hM2, HXX.out]
                  exact Lib.hid (piv_scale HP1.out hlt2)
                have SL : Hid (StpS w g N [.int .i64 r, .int .i64 c, .slice (some ⟨g, 0, none⟩) N cap] sp (tb c M2) wb3) := by rw [hM2]; exact S5
                clear hM2
                go_loopw [78] (fun ii wr => ∃ i : Nat, ii = .int .i64 i ∧ i ≤ r ∧ (∀ x, Ker r c (clearedTo M2 k j i) x ↔ Ker r c M x) ∧ StpS w g N [.int .i64 r, .int .i64 c, .slice (some ⟨g, 0, none⟩) N cap] sp (tb c (clearedTo M2 k j i)) wr) (fun ii _ => r - (intOf ii).toNat)
                case atStart => exact ⟨0, rfl, by omega, fun x => by rw [clearedTo_zero]; exact (HP2.out.1.ker x).trans (HK.out x), by rw [clearedTo_zero]; exact SL.out⟩
                case round =>
                  clear SL
                  obtain ⟨i, rfl, hi, hker, hs⟩ := hrel
                  obtain ⟨x0, x1, x2⟩ := box3 hs.box
                  have HKI := Lib.hid hker
                  have S6 := Lib.hid hs
                  clear hker hs
                  by_cases hir : i < r
                  · by_cases hik : i = k
                    · have hib : ((i : Int) != (k : Int)) = false := by simp [hik]
                      have HIK := Lib.hid hik
                      clear hik
                      go_wp2_with (go_at_call 54; have h9 := S6.out; clear S6; refine (row0_any r c i g N cap _ hir r2 c1 c2 HN.out hcap hcap2).mono ?_; rintro e w6 ⟨q6, hqe, hqnq6, rfl, hb⟩; have hm9 := h9.after hb; have cq6 := tab_cell (i := q6 + j) hm9.row (by omega); rw [hqe, tb_at (clearedTo M2 k j i) i j (by omega), ← hqe] at cq6; have S7 := Lib.hid hm9; have Hq6 := Lib.hid hqe; clear h9 hb hm9 hqe x0 x1 x2)
                      go_roundw
                      case measure => simp [intOf]; omega
                      case rel => exact ⟨i + 1, by go_num, by omega, by rw [clearedTo_skip M2 k j i (Or.inl HIK.out)]; exact HKI.out, by rw [clearedTo_skip M2 k j i (Or.inl HIK.out)]; exact S7.out⟩
                    · have hib : ((i : Int) != (k : Int)) = true := by simp; omega
                      have hrow : clearedTo M2 k j i i j = M2 i j := clearedTo_row M2 k j i i j (Nat.le_refl _)
                      obtain ⟨Y, hY⟩ : ∃ Y, Y = M2 i j := ⟨_, rfl⟩
                      by_cases hx0 : nv Y = 0
                      · have hxb : (nv Y != 0) = false := by simp [hx0]
                        have HX0 := Lib.hid hx0
                        have HROW := Lib.hid (hrow.trans hY.symm)
                        have HY := Lib.hid hY
                        clear hx0 hrow hY
                        go_wp2_with (go_at_call 54; have h9 := S6.out; clear S6; refine (row0_any r c i g N cap _ hir r2 c1 c2 HN.out hcap hcap2).mono ?_; rintro e w6 ⟨q6, hqe, hqnq6, rfl, hb⟩; have hm9 := h9.after hb; have cq6 := tab_cell (i := q6 + j) hm9.row (by omega); rw [hqe, tb_at (clearedTo M2 k j i) i j (by omega), ← hqe] at cq6; rw [HROW.out] at cq6; have S7 := Lib.hid hm9; have Hq6 := Lib.hid hqe; clear h9 hb hm9 hqe x0 x1 x2)
                        go_roundw
                        case measure => simp [intOf]; omega
                        case rel => exact ⟨i + 1, by go_num, by omega, by rw [clearedTo_skip M2 k j i (Or.inr (HY.out.symm.trans ((nv_eq_zero _).1 HX0.out)))]; exact HKI.out, by rw [clearedTo_skip M2 k j i (Or.inr (HY.out.symm.trans ((nv_eq_zero _).1 HX0.out)))]; exact S7.out⟩
                      · have hxb : (nv Y != 0) = true := by simpa using hx0
                        have HX0 := Lib.hid hx0
                        have HROW := Lib.hid (hrow.trans hY.symm)
                        have HY := Lib.hid hY
                        have HIK := Lib.hid hik
                        clear hx0 hrow hY
                        go_wp2_with (go_at_call 54; have h9 := S6.out; clear S6; refine (row0_any r c i g N cap _ hir r2 c1 c2 HN.out hcap hcap2).mono ?_; rintro e w6 ⟨q6, hqe, hqnq6, rfl, hb⟩; have hm9 := h9.after hb; have cq6 := tab_cell (i := q6 + j) hm9.row (by omega); rw [hqe, tb_at (clearedTo M2 k j i) i j (by omega), ← hqe] at cq6; rw [HROW.out] at cq6; obtain ⟨k06, k16, k26⟩ := box3 hm9.box; have S7 := Lib.hid hm9; have Hq6 := Lib.hid hqe; clear h9 hb hm9 hqe x0 x1 x2)
                        go_region_held3 (fun w' => w'.cell? ⟨w.heap.size, 0, none⟩ = some (.int .i64 r) ∧ w'.cell? ⟨w.heap.size, 1, none⟩ = some (.int .i64 c) ∧ w'.cell? ⟨w.heap.size, 2, none⟩ = some (.slice (some ⟨g, 0, none⟩) N cap)) (first | exact ⟨by assumption, by assumption, by assumption⟩)
                          (first
                          | (go_at_call 54; have h9 := S7.out; clear S7; refine (row0_any r c i g N cap _ hir r2 c1 c2 HN.out hcap hcap2).mono ?_; rintro e we1 ⟨qe1, hqe, hqne1, rfl, hb⟩; have hm9 := (h9.after (Below.refl _ _).drew).after hb; obtain ⟨k0e1, k1e1, k2e1⟩ := box3 hm9.box; have S7x := Lib.hid hm9; have HQe1 := Lib.hid hqe; clear h9 hb hm9 hqe)
                          | (go_at_call 54; have h9 := S7x.out; clear S7x; refine (row0_any r c k g N cap _ hlt2 r2 c1 c2 HN.out hcap hcap2).mono ?_; rintro e we2 ⟨qe2, hqe, hqne2, rfl, hb⟩; have hm9 := h9.after hb; obtain ⟨k0e2, k1e2, k2e2⟩ := box3 hm9.box; have S7y := Lib.hid hm9; have HQe2 := Lib.hid hqe; clear h9 hb hm9 hqe)
                          | (go_at_call 71; have h9 := S7y.out; clear S7y; refine (add_any g qe1 c _ g qe2 c _ N (tb c (clearedTo M2 k j i)) ((clearedTo M2 k j i) k) sp (nv Y) _ (nv_lo _) (nv_hi _) h9.row (by omega) (Nat.le_refl _) (by omega) (fun i hi => by rw [tab_cell (i := qe2 + i) h9.row (by omega), HQe2.out, tb_at _ _ _ hi]) (Or.inr (rows_apart HIK.out HQe1.out HQe2.out))).mono ?_; rintro e we3 ⟨rfl, hr, hf⟩; rw [bv_nv, HQe1.out, tb_addRow _ _ _ _ c1] at hr; have hm9 := h9.add hr hf; obtain ⟨k0e3, k1e3, k2e3⟩ := box3 hm9.box; have S8 := Lib.hid hm9; clear h9 hr hf hm9))
                        go_wp2
                        go_roundw
                        case measure => simp [intOf]; omega
                        case rel =>
                          have hst := clearedTo_step M2 k j i HIK.out
                          exact ⟨i + 1, by go_num, by omega, fun x => by rw [← hst, ker_addRow hlt2 hir (Or.inl (fun h => HIK.out h.symm))]; exact HKI.out x, by rw [← hst, ← HY.out]; exact S8.out⟩
                  · obtain rfl : i = r := by omega
                    go_wp2
                    go_roundw
                    case measure => simp [intOf]; omega
                    case rel => exact ⟨k + 1, j + 1, clearedTo M2 k j i, fun t => if t = k then j else p t, by go_num, by go_num, by omega, piv_next (M := M') HG.out HP2.out.1 hlt2 HP2.out.2, HKI.out, S6.out⟩
            · have e1 : ((m : Int) == (r : Int)) = false := by simp; omega
              have e2 : ((m : Int) != (k : Int)) = true := by simp; omega
              have hP0 := piv_add (c := c) HG.out hlt2 hm (by omega) (HZ.out k (Nat.le_refl _) (by omega)) (fun e => HPV.out ((nv_eq_zero _).2 e))
              obtain ⟨M1, hM1⟩ : ∃ M1, M1 = addRow M' k m 1#8 := ⟨_, rfl⟩
              have hP1 : Piv r c M' M1 j k := by rw [hM1]; exact hP0
              clear hP0
              obtain ⟨X, hX⟩ : ∃ X, X = M1 k j := ⟨_, rfl⟩
              have HM1 := Lib.hid hM1
              have HP1 := Lib.hid hP1
              have HXX := Lib.hid hX
              have HMK := Lib.hid hmk
              clear hM1 hP1 hX hmk
              by_cases hx1 : nv X = 1
              · have hxb : (nv X != 1) = false := by simp [hx1]
                have HX1 := Lib.hid hx1
                clear hx1
                go_wp2_with (go_at_call 54; have h9 := S2.out; clear S2; refine (row0_any r c m g N cap _ hm r2 c1 c2 HN.out hcap hcap2).mono ?_; rintro e w2 ⟨q2, hqe, hqnq2, rfl, hb⟩; have hm9 := h9.after hb; have cq2 := tab_cell (i := q2 + j) hm9.row (by omega); rw [hqe, tb_at M' m j (by omega), ← hqe] at cq2; obtain ⟨k03, k13, k23⟩ := box3 hm9.box; have S3 := Lib.hid hm9; have Hq2 := Lib.hid hqe; clear h9 hb hm9 hqe x0 x1 x2)
                go_region_held3 (fun w' => w'.cell? ⟨w.heap.size, 0, none⟩ = some (.int .i64 r) ∧ w'.cell? ⟨w.heap.size, 1, none⟩ = some (.int .i64 c) ∧ w'.cell? ⟨w.heap.size, 2, none⟩ = some (.slice (some ⟨g, 0, none⟩) N cap)) (first | exact ⟨by assumption, by assumption, by assumption⟩)
                  (first
                  | (go_at_call 54; have h9 := S3.out; clear S3; refine (row0_any r c k g N cap _ hlt2 r2 c1 c2 HN.out hcap hcap2).mono ?_; rintro e wa1 ⟨qa1, hqe, hqna1, rfl, hb⟩; have hm9 := (h9.after (Below.refl _ _).drew).after hb; obtain ⟨k0a1, k1a1, k2a1⟩ := box3 hm9.box; have S3x := Lib.hid hm9; have HQa1 := Lib.hid hqe; clear h9 hb hm9 hqe)
                  | (go_at_call 54; have h9 := S3x.out; clear S3x; refine (row0_any r c m g N cap _ hm r2 c1 c2 HN.out hcap hcap2).mono ?_; rintro e wa2 ⟨qa2, hqe, hqna2, rfl, hb⟩; have hm9 := h9.after hb; obtain ⟨k0a2, k1a2, k2a2⟩ := box3 hm9.box; have S3y := Lib.hid hm9; have HQa2 := Lib.hid hqe; clear h9 hb hm9 hqe)
                  | (go_at_call 71; have h9 := S3y.out; clear S3y; refine (add_any g qa1 c _ g qa2 c _ N (tb c M') (M' m) sp 1 _ (by omega) (by omega) h9.row (by omega) (Nat.le_refl _) (by omega) (fun i hi => by rw [tab_cell (i := qa2 + i) h9.row (by omega), HQa2.out, tb_at _ _ _ hi]) (Or.inr (Or.inl (by rw [HQa1.out, HQa2.out]; exact Nat.mul_le_mul_right c hkm)))).mono ?_; rintro e wa3 ⟨rfl, hr, hf⟩; rw [bv_one, HQa1.out, tb_addRow _ _ _ _ c1] at hr; have hm9 := h9.add hr hf; obtain ⟨k0a3, k1a3, k2a3⟩ := box3 hm9.box; have S3z := Lib.hid hm9; clear h9 hr hf hm9))
                go_wp2_with (first
                  | (go_at_call 54; have h9 := S3z.out; rw [← HM1.out] at h9; clear S3z; refine (row0_any r c k g N cap _ hlt2 r2 c1 c2 HN.out hcap hcap2).mono ?_; rintro e w4 ⟨q4, hqe, hqnq4, rfl, hb⟩; have hm9 := h9.after hb; have cq4 := tab_cell (i := q4 + j) hm9.row (by omega); rw [hqe, tb_at M1 k j (by omega), ← hqe] at cq4; rw [← HXX.out] at cq4; obtain ⟨k04, k14, k24⟩ := box3 hm9.box; have S4 := Lib.hid hm9; have Hq4 := Lib.hid hqe; clear h9 hb hm9 hqe))
                obtain ⟨M2, hM2⟩ : ∃ M2, M2 = M1 := ⟨_, rfl⟩
                have HP2 : Hid (Piv r c M' M2 j k ∧ M2 k j = 1#8) := by
                  rw [hM2]
                  exact Lib.hid ⟨HP1.out, by rw [← HXX.out]; exact nv_inj (HX1.out.trans nv_one.symm)⟩
                have SL : Hid (StpS w g N [.int .i64 r, .int .i64 c, .slice (some ⟨g, 0, none⟩) N cap] sp (tb c M2) w4) := by rw [hM2]; exact S4
                clear hM2
                go_loopw [78] (fun ii wr => ∃ i : Nat, ii = .int .i64 i ∧ i ≤ r ∧ (∀ x, Ker r c (clearedTo M2 k j i) x ↔ Ker r c M x) ∧ StpS w g N [.int .i64 r, .int .i64 c, .slice (some ⟨g, 0, none⟩) N cap] sp (tb c (clearedTo M2 k j i)) wr) (fun ii _ => r - (intOf ii).toNat)
                case atStart => exact ⟨0, rfl, by omega, fun x => by rw [clearedTo_zero]; exact (HP2.out.1.ker x).trans (HK.out x), by rw [clearedTo_zero]; exact SL.out⟩
                case round =>
                  clear SL
                  obtain ⟨i, rfl, hi, hker, hs⟩ := hrel
                  obtain ⟨x0, x1, x2⟩ := box3 hs.box
                  have HKI := Lib.hid hker
                  have S6 := Lib.hid hs
                  clear hker hs
                  by_cases hir : i < r
                  · by_cases hik : i = k
                    · have hib : ((i : Int) != (k : Int)) = false := by simp [hik]
                      have HIK := Lib.hid hik
                      clear hik
                      go_wp2_with (go_at_call 54; have h9 := S6.out; clear S6; refine (row0_any r c i g N cap _ hir r2 c1 c2 HN.out hcap hcap2).mono ?_; rintro e w6 ⟨q6, hqe, hqnq6, rfl, hb⟩; have hm9 := h9.after hb; have cq6 := tab_cell (i := q6 + j) hm9.row (by omega); rw [hqe, tb_at (clearedTo M2 k j i) i j (by omega), ← hqe] at cq6; have S7 := Lib.hid hm9; have Hq6 := Lib.hid hqe; clear h9 hb hm9 hqe x0 x1 x2)
                      go_roundw
                      case measure => simp [intOf]; omega
                      case rel => exact ⟨i + 1, by go_num, by omega, by rw [clearedTo_skip M2 k j i (Or.inl HIK.out)]; exact HKI.out, by rw [clearedTo_skip M2 k j i (Or.inl HIK.out)]; exact S7.out⟩
                    · have hib : ((i : Int) != (k : Int)) = true := by simp; omega
                      have hrow : clearedTo M2 k j i i j = M2 i j := clearedTo_row M2 k j i i j (Nat.le_refl _)
                      obtain ⟨Y, hY⟩ : ∃ Y, Y = M2 i j := ⟨_, rfl⟩
                      by_cases hx0 : nv Y = 0
                      · have hxb : (nv Y != 0) = false := by simp [hx0]
                        have HX0 := Lib.hid hx0
                        have HROW := Lib.hid (hrow.trans hY.symm)
                        have HY := Lib.hid hY
                        clear hx0 hrow hY
                        go_wp2_with (go_at_call 54; have h9 := S6.out; clear S6; refine (row0_any r c i g N cap _ hir r2 c1 c2 HN.out hcap hcap2).mono ?_; rintro e w6 ⟨q6, hqe, hqnq6, rfl, hb⟩; have hm9 := h9.after hb; have cq6 := tab_cell (i := q6 + j) hm9.row (by omega); rw [hqe, tb_at (clearedTo M2 k j i) i j (by omega), ← hqe] at cq6; rw [HROW.out] at cq6; have S7 := Lib.hid hm9; have Hq6 := Lib.hid hqe; clear h9 hb hm9 hqe x0 x1 x2)
                        go_roundw
                        case measure => simp [intOf]; omega
                        case rel => exact ⟨i + 1, by go_num, by omega, by rw [clearedTo_skip M2 k j i (Or.inr (HY.out.symm.trans ((nv_eq_zero _).1 HX0.out)))]; exact HKI.out, by rw [clearedTo_skip M2 k j i (Or.inr (HY.out.symm.trans ((nv_eq_zero _).1 HX0.out)))]; exact S7.out⟩
                      · have hxb : (nv Y != 0) = true := by simpa using hx0
                        have HX0 := Lib.hid hx0
                        have HROW := Lib.hid (hrow.trans hY.symm)
                        have HY := Lib.hid hY
                        have HIK := Lib.hid hik
                        clear hx0 hrow hY
                        go_wp2_with (go_at_call 54; have h9 := S6.out; clear S6; refine (row0_any r c i g N cap _ hir r2 c1 c2 HN.out hcap hcap2).mono ?_; rintro e w6 ⟨q6, hqe, hqnq6, rfl, hb⟩; have hm9 := h9.after hb; have cq6 := tab_cell (i := q6 + j) hm9.row (by omega); rw [hqe, tb_at (clearedTo M2 k j i) i j (by omega), ← hqe] at cq6; rw [HROW.out] at cq6; obtain ⟨k06, k16, k26⟩ := box3 hm9.box; have S7 := Lib.hid hm9; have Hq6 := Lib.hid hqe; clear h9 hb hm9 hqe x0 x1 x2)
                        go_region_held3 (fun w' => w'.cell? ⟨w.heap.size, 0, none⟩ = some (.int .i64 r) ∧ w'.cell? ⟨w.heap.size, 1, none⟩ = some (.int .i64 c) ∧ w'.cell? ⟨w.heap.size, 2, none⟩ = some (.slice (some ⟨g, 0, none⟩) N cap)) (first | exact ⟨by assumption, by assumption, by assumption⟩)
                          (first
                          | (go_at_call 54; have h9 := S7.out; clear S7; refine (row0_any r c i g N cap _ hir r2 c1 c2 HN.out hcap hcap2).mono ?_; rintro e we1 ⟨qe1, hqe, hqne1, rfl, hb⟩; have hm9 := (h9.after (Below.refl _ _).drew).after hb; obtain ⟨k0e1, k1e1, k2e1⟩ := box3 hm9.box; have S7x := Lib.hid hm9; have HQe1 := Lib.hid hqe; clear h9 hb hm9 hqe)
                          | (go_at_call 54; have h9 := S7x.out; clear S7x; refine (row0_any r c k g N cap _ hlt2 r2 c1 c2 HN.out hcap hcap2).mono ?_; rintro e we2 ⟨qe2, hqe, hqne2, rfl, hb⟩; have hm9 := h9.after hb; obtain ⟨k0e2, k1e2, k2e2⟩ := box3 hm9.box; have S7y := Lib.hid hm9; have HQe2 := Lib.hid hqe; clear h9 hb hm9 hqe)
                          | (go_at_call 71; have h9 := S7y.out; clear S7y; refine (add_any g qe1 c _ g qe2 c _ N (tb c (clearedTo M2 k j i)) ((clearedTo M2 k j i) k) sp (nv Y) _ (nv_lo _) (nv_hi _) h9.row (by omega) (Nat.le_refl _) (by omega) (fun i hi => by rw [tab_cell (i := qe2 + i) h9.row (by omega), HQe2.out, tb_at _ _ _ hi]) (Or.inr (rows_apart HIK.out HQe1.out HQe2.out))).mono ?_; rintro e we3 ⟨rfl, hr, hf⟩; rw [bv_nv, HQe1.out, tb_addRow _ _ _ _ c1] at hr; have hm9 := h9.add hr hf; obtain ⟨k0e3, k1e3, k2e3⟩ := box3 hm9.box; have S8 := Lib.hid hm9; clear h9 hr hf hm9))
                        go_wp2
                        go_roundw
                        case measure => simp [intOf]; omega
                        case rel =>
                          have hst := clearedTo_step M2 k j i HIK.out
                          exact ⟨i + 1, by go_num, by omega, fun x => by rw [← hst, ker_addRow hlt2 hir (Or.inl (fun h => HIK.out h.symm))]; exact HKI.out x, by rw [← hst, ← HY.out]; exact S8.out⟩
                  · obtain rfl : i = r := by omega
                    go_wp2
                    go_roundw
                    case measure => simp [intOf]; omega
                    case rel => exact ⟨k + 1, j + 1, clearedTo M2 k j i, fun t => if t = k then j else p t, by go_num, by go_num, by omega, piv_next (M := M') HG.out HP2.out.1 hlt2 HP2.out.2, HKI.out, S6.out⟩
              · have hxb : (nv X != 1) = true := by simpa using hx1
                have HX1 := Lib.hid hx1
                clear hx1
                go_wp2_with (go_at_call 54; have h9 := S2.out; clear S2; refine (row0_any r c m g N cap _ hm r2 c1 c2 HN.out hcap hcap2).mono ?_; rintro e w2 ⟨q2, hqe, hqnq2, rfl, hb⟩; have hm9 := h9.after hb; have cq2 := tab_cell (i := q2 + j) hm9.row (by omega); rw [hqe, tb_at M' m j (by omega), ← hqe] at cq2; obtain ⟨k03, k13, k23⟩ := box3 hm9.box; have S3 := Lib.hid hm9; have Hq2 := Lib.hid hqe; clear h9 hb hm9 hqe x0 x1 x2)
                go_region_held3 (fun w' => w'.cell? ⟨w.heap.size, 0, none⟩ = some (.int .i64 r) ∧ w'.cell? ⟨w.heap.size, 1, none⟩ = some (.int .i64 c) ∧ w'.cell? ⟨w.heap.size, 2, none⟩ = some (.slice (some ⟨g, 0, none⟩) N cap)) (first | exact ⟨by assumption, by assumption, by assumption⟩)
                  (first
                  | (go_at_call 54; have h9 := S3.out; clear S3; refine (row0_any r c k g N cap _ hlt2 r2 c1 c2 HN.out hcap hcap2).mono ?_; rintro e wa1 ⟨qa1, hqe, hqna1, rfl, hb⟩; have hm9 := (h9.after (Below.refl _ _).drew).after hb; obtain ⟨k0a1, k1a1, k2a1⟩ := box3 hm9.box; have S3x := Lib.hid hm9; have HQa1 := Lib.hid hqe; clear h9 hb hm9 hqe)
                  | (go_at_call 54; have h9 := S3x.out; clear S3x; refine (row0_any r c m g N cap _ hm r2 c1 c2 HN.out hcap hcap2).mono ?_; rintro e wa2 ⟨qa2, hqe, hqna2, rfl, hb⟩; have hm9 := h9.after hb; obtain ⟨k0a2, k1a2, k2a2⟩ := box3 hm9.box; have S3y := Lib.hid hm9; have HQa2 := Lib.hid hqe; clear h9 hb hm9 hqe)
                  | (go_at_call 71; have h9 := S3y.out; clear S3y; refine (add_any g qa1 c _ g qa2 c _ N (tb c M') (M' m) sp 1 _ (by omega) (by omega) h9.row (by omega) (Nat.le_refl _) (by omega) (fun i hi => by rw [tab_cell (i := qa2 + i) h9.row (by omega), HQa2.out, tb_at _ _ _ hi]) (Or.inr (Or.inl (by rw [HQa1.out, HQa2.out]; exact Nat.mul_le_mul_right c hkm)))).mono ?_; rintro e wa3 ⟨rfl, hr, hf⟩; rw [bv_one, HQa1.out, tb_addRow _ _ _ _ c1] at hr; have hm9 := h9.add hr hf; obtain ⟨k0a3, k1a3, k2a3⟩ := box3 hm9.box; have S3z := Lib.hid hm9; clear h9 hr hf hm9))
                go_wp2_with (first
                  | (go_at_call 54; have h9 := S3z.out; rw [← HM1.out] at h9; clear S3z; refine (row0_any r c k g N cap _ hlt2 r2 c1 c2 HN.out hcap hcap2).mono ?_; rintro e w4 ⟨q4, hqe, hqnq4, rfl, hb⟩; have hm9 := h9.after hb; have cq4 := tab_cell (i := q4 + j) hm9.row (by omega); rw [hqe, tb_at M1 k j (by omega), ← hqe] at cq4; rw [← HXX.out] at cq4; obtain ⟨k04, k14, k24⟩ := box3 hm9.box; have S4 := Lib.hid hm9; have Hq4 := Lib.hid hqe; clear h9 hb hm9 hqe)
                  | (go_at_call 69; refine (inv_any (nv X) (nv_lo _) (nv_hi _) _).mono ?_; rw [bv_nv]; rintro e w5 ⟨rfl, rfl⟩))
                have hfx := u8_xor_nv (ivv X) 1#8
                rw [nv_one] at hfx
                go_region_held3 (fun w' => w'.cell? ⟨w.heap.size, 0, none⟩ = some (.int .i64 r) ∧ w'.cell? ⟨w.heap.size, 1, none⟩ = some (.int .i64 c) ∧ w'.cell? ⟨w.heap.size, 2, none⟩ = some (.slice (some ⟨g, 0, none⟩) N cap)) (first | exact ⟨by assumption, by assumption, by assumption⟩)
                  (first
                  | (go_at_call 54; have h9 := S4.out; clear S4; refine (row0_any r c k g N cap _ hlt2 r2 c1 c2 HN.out hcap hcap2).mono ?_; rintro e wb1 ⟨qb1, hqe, hqnb1, rfl, hb⟩; have hm9 := (h9.after (Below.refl _ _).drew).after hb; obtain ⟨k0b1, k1b1, k2b1⟩ := box3 hm9.box; have S4x := Lib.hid hm9; have HQb1 := Lib.hid hqe; clear h9 hb hm9 hqe)
                  | (go_at_call 54; have h9 := S4x.out; clear S4x; refine (row0_any r c k g N cap _ hlt2 r2 c1 c2 HN.out hcap hcap2).mono ?_; rintro e wb2 ⟨qb2, hqe, hqnb2, rfl, hb⟩; have hm9 := h9.after hb; obtain ⟨k0b2, k1b2, k2b2⟩ := box3 hm9.box; have S4y := Lib.hid hm9; have HQb2 := Lib.hid hqe; clear h9 hb hm9 hqe)
                  | (go_at_call 71; have h9 := S4y.out; clear S4y; refine (add_any g qb1 c _ g qb2 c _ N (tb c M1) (M1 k) sp (nv (ivv X ^^^ 1#8)) _ (nv_lo _) (nv_hi _) h9.row (by omega) (Nat.le_refl _) (by omega) (fun i hi => by rw [tab_cell (i := qb2 + i) h9.row (by omega), HQb2.out, tb_at _ _ _ hi]) (Or.inr (Or.inl (by rw [HQb1.out, HQb2.out]; exact Nat.le_refl _)))).mono ?_; rintro e wb3 ⟨rfl, hr, hf⟩; rw [bv_nv, HQb1.out, tb_addRow _ _ _ _ c1] at hr; have hm9 := h9.add hr hf; obtain ⟨k0b3, k1b3, k2b3⟩ := box3 hm9.box; have S5 := Lib.hid hm9; clear h9 hr hf hm9))
                clear hfx
                go_wp2
                obtain ⟨M2, hM2⟩ : ∃ M2, M2 = addRow M1 k k (ivv X ^^^ 1#8) := ⟨_, rfl⟩
                have HP2 : Hid (Piv r c M' M2 j k ∧ M2 k j = 1#8) := by
                  rw [hM2, HXX.out]
                  exact Lib.hid (piv_scale HP1.out hlt2)
                have SL : Hid (StpS w g N [.int .i64 r, .int .i64 c, .slice (some ⟨g, 0, none⟩) N cap] sp (tb c M2) wb3) := by rw [hM2]; exact S5
                clear hM2
                go_loopw [78] (fun ii wr => ∃ i : Nat, ii = .int .i64 i ∧ i ≤ r ∧ (∀ x, Ker r c (clearedTo M2 k j i) x ↔ Ker r c M x) ∧ StpS w g N [.int .i64 r, .int .i64 c, .slice (some ⟨g, 0, none⟩) N cap] sp (tb c (clearedTo M2 k j i)) wr) (fun ii _ => r - (intOf ii).toNat)
                case atStart => exact ⟨0, rfl, by omega, fun x => by rw [clearedTo_zero]; exact (HP2.out.1.ker x).trans (HK.out x), by rw [clearedTo_zero]; exact SL.out⟩
                case round =>
                  clear SL
                  obtain ⟨i, rfl, hi, hker, hs⟩ := hrel
                  obtain ⟨x0, x1, x2⟩ := box3 hs.box
                  have HKI := Lib.hid hker
                  have S6 := Lib.hid hs
                  clear hker hs
                  by_cases hir : i < r
                  · by_cases hik : i = k
                    · have hib : ((i : Int) != (k : Int)) = false := by simp [hik]
                      have HIK := Lib.hid hik
                      clear hik
                      go_wp2_with (go_at_call 54; have h9 := S6.out; clear S6; refine (row0_any r c i g N cap _ hir r2 c1 c2 HN.out hcap hcap2).mono ?_; rintro e w6 ⟨q6, hqe, hqnq6, rfl, hb⟩; have hm9 := h9.after hb; have cq6 := tab_cell (i := q6 + j) hm9.row (by omega); rw [hqe, tb_at (clearedTo M2 k j i) i j (by omega), ← hqe] at cq6; have S7 := Lib.hid hm9; have Hq6 := Lib.hid hqe; clear h9 hb hm9 hqe x0 x1 x2)
                      go_roundw
                      case measure => simp [intOf]; omega
                      case rel => exact ⟨i + 1, by go_num, by omega, by rw [clearedTo_skip M2 k j i (Or.inl HIK.out)]; exact HKI.out, by rw [clearedTo_skip M2 k j i (Or.inl HIK.out)]; exact S7.out⟩
                    · have hib : ((i : Int) != (k : Int)) = true := by simp; omega
                      have hrow : clearedTo M2 k j i i j = M2 i j := clearedTo_row M2 k j i i j (Nat.le_refl _)
                      obtain ⟨Y, hY⟩ : ∃ Y, Y = M2 i j := ⟨_, rfl⟩
                      by_cases hx0 : nv Y = 0
                      · have hxb : (nv Y != 0) = false := by simp [hx0]
                        have HX0 := Lib.hid hx0
                        have HROW := Lib.hid (hrow.trans hY.symm)
                        have HY := Lib.hid hY
                        clear hx0 hrow hY
                        go_wp2_with (go_at_call 54; have h9 := S6.out; clear S6; refine (row0_any r c i g N cap _ hir r2 c1 c2 HN.out hcap hcap2).mono ?_; rintro e w6 ⟨q6, hqe, hqnq6, rfl, hb⟩; have hm9 := h9.after hb; have cq6 := tab_cell (i := q6 + j) hm9.row (by omega); rw [hqe, tb_at (clearedTo M2 k j i) i j (by omega), ← hqe] at cq6; rw [HROW.out] at cq6; have S7 := Lib.hid hm9; have Hq6 := Lib.hid hqe; clear h9 hb hm9 hqe x0 x1 x2)
                        go_roundw
                        case measure => simp [intOf]; omega
                        case rel => exact ⟨i + 1, by go_num, by omega, by rw [clearedTo_skip M2 k j i (Or.inr (HY.out.symm.trans ((nv_eq_zero _).1 HX0.out)))]; exact HKI.out, by rw [clearedTo_skip M2 k j i (Or.inr (HY.out.symm.trans ((nv_eq_zero _).1 HX0.out)))]; exact S7.out⟩
                      · have hxb : (nv Y != 0) = true := by simpa using hx0
                        have HX0 := Lib.hid hx0
                        have HROW := Lib.hid (hrow.trans hY.symm)
                        have HY := Lib.hid hY
                        have HIK := Lib.hid hik
                        clear hx0 hrow hY
                        go_wp2_with (go_at_call 54; have h9 := S6.out; clear S6; refine (row0_any r c i g N cap _ hir r2 c1 c2 HN.out hcap hcap2).mono ?_; rintro e w6 ⟨q6, hqe, hqnq6, rfl, hb⟩; have hm9 := h9.after hb; have cq6 := tab_cell (i := q6 + j) hm9.row (by omega); rw [hqe, tb_at (clearedTo M2 k j i) i j (by omega), ← hqe] at cq6; rw [HROW.out] at cq6; obtain ⟨k06, k16, k26⟩ := box3 hm9.box; have S7 := Lib.hid hm9; have Hq6 := Lib.hid hqe; clear h9 hb hm9 hqe x0 x1 x2)
                        go_region_held3 (fun w' => w'.cell? ⟨w.heap.size, 0, none⟩ = some (.int .i64 r) ∧ w'.cell? ⟨w.heap.size, 1, none⟩ = some (.int .i64 c) ∧ w'.cell? ⟨w.heap.size, 2, none⟩ = some (.slice (some ⟨g, 0, none⟩) N cap)) (first | exact ⟨by assumption, by assumption, by assumption⟩)
                          (first
                          | (go_at_call 54; have h9 := S7.out; clear S7; refine (row0_any r c i g N cap _ hir r2 c1 c2 HN.out hcap hcap2).mono ?_; rintro e we1 ⟨qe1, hqe, hqne1, rfl, hb⟩; have hm9 := (h9.after (Below.refl _ _).drew).after hb; obtain ⟨k0e1, k1e1, k2e1⟩ := box3 hm9.box; have S7x := Lib.hid hm9; have HQe1 := Lib.hid hqe; clear h9 hb hm9 hqe)
                          | (go_at_call 54; have h9 := S7x.out; clear S7x; refine (row0_any r c k g N cap _ hlt2 r2 c1 c2 HN.out hcap hcap2).mono ?_; rintro e we2 ⟨qe2, hqe, hqne2, rfl, hb⟩; have hm9 := h9.after hb; obtain ⟨k0e2, k1e2, k2e2⟩ := box3 hm9.box; have S7y := Lib.hid hm9; have HQe2 := Lib.hid hqe; clear h9 hb hm9 hqe)
                          | (go_at_call 71; have h9 := S7y.out; clear S7y; refine (add_any g qe1 c _ g qe2 c _ N (tb c (clearedTo M2 k j i)) ((clearedTo M2 k j i) k) sp (nv Y) _ (nv_lo _) (nv_hi _) h9.row (by omega) (Nat.le_refl _) (by omega) (fun i hi => by rw [tab_cell (i := qe2 + i) h9.row (by omega), HQe2.out, tb_at _ _ _ hi]) (Or.inr (rows_apart HIK.out HQe1.out HQe2.out))).mono ?_; rintro e we3 ⟨rfl, hr, hf⟩; rw [bv_nv, HQe1.out, tb_addRow _ _ _ _ c1] at hr; have hm9 := h9.add hr hf; obtain ⟨k0e3, k1e3, k2e3⟩ := box3 hm9.box; have S8 := Lib.hid hm9; clear h9 hr hf hm9))
                        go_wp2
                        go_roundw
                        case measure => simp [intOf]; omega
                        case rel =>
                          have hst := clearedTo_step M2 k j i HIK.out
                          exact ⟨i + 1, by go_num, by omega, fun x => by rw [← hst, ker_addRow hlt2 hir (Or.inl (fun h => HIK.out h.symm))]; exact HKI.out x, by rw [← hst, ← HY.out]; exact S8.out⟩
                  · obtain rfl : i = r := by omega
                    go_wp2
                    go_roundw
                    case measure => simp [intOf]; omega
                    case rel => exact ⟨k + 1, j + 1, clearedTo M2 k j i, fun t => if t = k then j else p t, by go_num, by go_num, by omega, piv_next (M := M') HG.out HP2.out.1 hlt2 HP2.out.2, HKI.out, S6.out⟩
        · obtain rfl : m = r := by omega
          have e1 : ((m : Int) == (m : Int)) = true := by simp
          go_wp2
          go_roundw
          case measure => simp [intOf]; omega
          case rel => exact ⟨k, j + 1, M', p, rfl, by go_num, by omega, good_skip HG.out HZ.out, HK.out, S2.out⟩
    · have hx : ¬ j < cols ∨ (j < cols ∧ ¬ k < r) := by omega
      clear hlt
      rcases hx with hx | ⟨hx, hx2⟩
      all_goals
        go_wp2
        go_ret
        exact ⟨k, M', j, p, rfl, S1.out.row, S1.out.fr, HG.out, hj, by omega, HK.out⟩
end Go.Proofs.Ytbnfnijjldimkab
