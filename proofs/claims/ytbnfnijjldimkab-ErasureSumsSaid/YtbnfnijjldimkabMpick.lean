/-
  The walks of matrix.Pick.
-/
import Derived.Test.YtbnfnijjldimkabMinv
namespace Go.Proofs.Ytbnfnijjldimkab
open Go.RowKit
set_option linter.unusedVariables false
set_option linter.unusedSimpArgs false
/-- a slice of numbers that reads as the list -/
def RdI (w : World) (a : Option Addr) (L : List Int) : Prop := ∀ j (h : j < L.length), ∃ g o, a = some ⟨g, o, none⟩ ∧ w.cell? ⟨g, o + j, none⟩ = some (.int .i64 L[j])
theorem RdI.open {w : World} {a : Option Addr} {L : List Int} (h : RdI w a L) (hn : 0 < L.length) : ∃ g o, a = some ⟨g, o, none⟩ ∧ g < w.heap.size ∧ ∀ j, j < L.length → w.cell? ⟨g, o + j, none⟩ = some (.int .i64 (L.getD j 0)) := by
  obtain ⟨g, o, ha, hc⟩ := h 0 hn
  refine ⟨g, o, ha, rd_cell_lt hc, fun j hj => ?_⟩
  obtain ⟨g', o', ha', hc'⟩ := h j hj
  rw [ha] at ha'
  simp only [Option.some.injEq, Addr.mk.injEq] at ha'
  rw [ha'.1, ha'.2.1, hc', List.getD_eq_getElem?_getD, List.getElem?_eq_getElem hj, Option.getD_some]
set_option maxRecDepth 100000 in
set_option maxHeartbeats 1600000 in
theorem pick_bad (r c : Int) (n cap ln lcap : Nat) (a la : Option Addr) (w : World) (hl : n ≤ maxLen) (hl2 : ln ≤ maxLen) (h : rightB r c n = false ∨ ln < 1 ∨ 255 < ln) :
    Calls Try.prog 32 #[.agg #[.int .i64 r, .int .i64 c, .slice a n cap], .slice la ln lcap] w fun e w' => ∃ ev, e = .returned (.tuple #[nilMat, ev]) ∧ ErrAt w.heap.size w' ev 1 ∧ Below w.heap.size w w' := by
  have S0 := Lib.hid (b2_start w (.int .i64 r) (.int .i64 c) (.slice a n cap))
  have hx : rightB r c n = false ∨ (rightB r c n = true ∧ (ln : Int) < 1) ∨ (rightB r c n = true ∧ ¬ (ln : Int) < 1 ∧ 255 < (ln : Int)) := by
    cases hb : rightB r c n
    · exact Or.inl rfl
    · rw [hb] at h
      rcases h with h | h | h
      · cases h
      · exact Or.inr (Or.inl ⟨rfl, by omega⟩)
      · exact Or.inr (Or.inr ⟨rfl, by omega, by omega⟩)
  unfold maxLen at hl2
  clear h
  rcases hx with hx | ⟨hx, hx2⟩ | ⟨hx, hx2, hx3⟩
  all_goals
    have HX := Lib.hid hx
    clear hx
    go_enter Try.func32, Try.ntmps32
    go_wp2_with (first
      | (go_at_call 51; have h9 := S0.out; clear S0; refine (right_gen r c n a cap _ hl).mono ?_; rintro e w1 ⟨rfl, hb⟩; rw [HX.out]; have S1 := Lib.hid (h9.after hb); clear h9 hb)
      | (go_at_call 52; have h9 := S1.out; clear S1; refine (fault_any 1 (by decide) _).mono ?_; rintro e w2 ⟨ev, rfl, he, hb⟩; have hm := h9.after hb; obtain ⟨z0, z1, z2⟩ := box3 hm.res; obtain ⟨f0, f1, f2⟩ := box3f hm.res; have S2 := Lib.hid (And.intro hm (And.intro he h9.res.lt)); clear h9 hb hm he))
    have hy := set3_row (a := .int .i64 0) (b := .int .i64 0) (c := .slice none 0 0) S2.out.1.res
    obtain ⟨y0, y1, y2⟩ := box3 hy
    exact bodyPost_ret (v := .tuple #[.agg #[.int .i64 0, .int .i64 0, .slice none 0 0], ev]) (by simp [results, Try.results32, go_sem, y0, y1, y2]) rfl ⟨ev, rfl, (set3_err S2.out.2.1 S2.out.2.2).mono (by have := S2.out.2.2; omega), set3_below S2.out.1.bel (by omega)⟩
/-- what Pick answers of a matrix and not too many rows -/
def PickAns (w : World) (r c : Nat) (A : Nat → Nat → BitVec 8) (L : List Int) (e : Ending) (w' : World) : Prop :=
  (((∃ i, i < L.length ∧ ¬ (0 ≤ L.getD i 0 ∧ L.getD i 0 < r)) ∧ ∃ ev, e = .returned (.tuple #[nilMat, ev]) ∧ ErrAt w.heap.size w' ev 1) ∨ ((∀ i, i < L.length → 0 ≤ L.getD i 0 ∧ L.getD i 0 < r) ∧ ∃ g, e = .returned (.tuple #[mval L.length c g, .nilIface]) ∧ w.heap.size ≤ g ∧ Row0 w' g 5 (ncells (mat L.length c (fun i j => A (L.getD i 0).toNat j)).cells))) ∧ Below w.heap.size w w'
set_option maxRecDepth 100000 in
set_option maxHeartbeats 3200000 in
theorem pick_ok (r c ga oa n cap lg lo lcap : Nat) (A : Nat → Nat → BitVec 8) (L : List Int) (w : World) (r1 : 1 ≤ r) (r2 : r ≤ 255) (c1 : 1 ≤ c) (c2 : c ≤ 255) (hn : n = r * c) (hcap : n ≤ cap) (hcap2 : cap ≤ 9223372036854775807) (l1 : 1 ≤ L.length) (l2 : L.length ≤ 255)
    (ha : MatRd w ga oa r c A) (hL : ∀ j, j < L.length → w.cell? ⟨lg, lo + j, none⟩ = some (.int .i64 (L.getD j 0))) :
    Calls Try.prog 32 #[.agg #[.int .i64 r, .int .i64 c, .slice (some ⟨ga, oa, none⟩) n cap], .slice (some ⟨lg, lo, none⟩) L.length lcap] w fun e w' => PickAns w r c A L e w' := by
  have hm := rightB_ok r1 r2 c1 c2 hn
  have q1 : n ≤ 255 * 255 := by rw [hn]; exact Nat.mul_le_mul r2 c2
  obtain ⟨K, hK⟩ : ∃ K, K = L.length := ⟨_, rfl⟩
  have hLlt : lg < w.heap.size := rd_cell_lt (hL 0 (by omega))
  have gal : ga < w.heap.size := rd_cell_lt (ha 0 0 (by omega) (by omega))
  rw [← hK] at l1 l2 hL ⊢
  have i1 : (1 : Int) ≤ K := by omega
  have i2 : (K : Int) ≤ 255 := by omega
  have i3 : ¬ (K : Int) < 1 := by omega
  obtain ⟨NN, hNN⟩ : ∃ x, x = K * c := ⟨_, rfl⟩
  have q2 : NN ≤ 255 * 255 := by rw [hNN]; exact Nat.mul_le_mul l2 c2
  have S0 := Lib.hid (b2_start w (.int .i64 r) (.int .i64 c) (.slice (some ⟨ga, oa, none⟩) n cap))
  have HX := Lib.hid hm
  have HN := Lib.hid hn
  have HK := Lib.hid hK
  have HNN := Lib.hid hNN
  have HA := Lib.hid ha
  have HL := Lib.hid hL
  obtain ⟨P, hP⟩ : ∃ P : Nat → Nat → BitVec 8, P = fun i j => A (L.getD i 0).toNat j := ⟨_, rfl⟩
  have HP := Lib.hid hP
  clear hm hn hK hNN ha hL hP
  go_enter Try.func32, Try.ntmps32
  go_wp2_with (first
    | (go_at_call 51; have h9 := S0.out; clear S0; refine (right_gen r c n _ cap _ (by unfold maxLen; omega)).mono ?_; rintro e w1 ⟨rfl, hb⟩; rw [HX.out]; have hm := h9.after hb; obtain ⟨x0, x1, x2⟩ := box3 hm.one; have S1 := Lib.hid hm; clear h9 hb hm)
    | (go_at_call 53; have h9 := S1.out; clear S1; refine (zero_any K c _ (by omega) (by omega)).mono ?_; rintro e w2 ⟨g, rfl, hg, hrow, hb⟩; unfold mval; rw [← HNN.out] at hrow ⊢; have hg2 : w.heap.size ≤ g := Nat.le_trans h9.bel.size hg; have hm := h9.after hb; have hz := hm.bel.size; have S2 := Lib.hid (And.intro hm hrow); clear h9 hb hm hg hrow))
  have S3 : Hid (InvS w w.heap.size (w.heap.size + 1) w2.heap.size g ga oa r c NN A [.int .i64 r, .int .i64 c, .slice (some ⟨ga, oa, none⟩) n cap] [.int .i64 K, .int .i64 c, .slice (some ⟨g, 0, none⟩) NN NN] (upF c P (0 * c)) (w2.alloc (.cells #[.int .i64 K, .int .i64 c, .slice (some ⟨g, 0, none⟩) NN NN] 71))) := by
    obtain ⟨hm, hrow⟩ := S2.out
    have hbl : Below w2.heap.size w2 (w2.alloc (.cells #[.int .i64 K, .int .i64 c, .slice (some ⟨g, 0, none⟩) NN NN] 71)) := (Below.refl _ _).alloc (Nat.le_refl _) _
    have hk := hm.after hbl
    refine Lib.hid ⟨hk.one, hk.res, Row.new _ _ _, ?_, fun i j hi hj => ?_, hk.bel⟩
    · rw [Nat.zero_mul, ← upF_zero]; exact hrow.fr (Fr.of_below (L := []) hbl) (by simp)
    · exact (hk.bel.cell (p := ⟨ga, oa + i * c + j, none⟩) gal).trans (HA.out i j hi hj)
  clear S2 HA
  go_loopw [31] (fun i wr => ∃ k : Nat, k ≤ K ∧ i = .int .i64 k ∧ (∀ i, i < k → 0 ≤ L.getD i 0 ∧ L.getD i 0 < r) ∧ InvS w w.heap.size (w.heap.size + 1) w2.heap.size g ga oa r c NN A [.int .i64 r, .int .i64 c, .slice (some ⟨ga, oa, none⟩) n cap] [.int .i64 K, .int .i64 c, .slice (some ⟨g, 0, none⟩) NN NN] (upF c P (k * c)) wr) (fun i _ => K - (intOf i).toNat)
  case atStart => exact ⟨0, by omega, rfl, fun i h => by omega, S3.out⟩
  case round =>
    clear S3
    obtain ⟨k, hk, rfl, hall, hs⟩ := hrel
    have HALL := Lib.hid hall
    clear hall
    by_cases hlt : k < K
    · have cl : World.cell? wr ⟨lg, lo + k, none⟩ = some (.int .i64 (L.getD k 0)) := (hs.bel.cell (p := ⟨lg, lo + k, none⟩) hLlt).trans (HL.out k hlt)
      obtain ⟨x, hx⟩ : ∃ x, x = L.getD k 0 := ⟨_, rfl⟩
      rw [← hx] at cl
      obtain ⟨u0, u1, u2⟩ := box3 hs.one
      by_cases hgood : 0 ≤ x ∧ x < r
      · obtain ⟨y, rfl⟩ : ∃ y : Nat, x = (y : Int) := ⟨x.toNat, by omega⟩
        have hy : y < r := by omega
        obtain ⟨x0, x1, x2⟩ := box3 hs.box
        have HXX := Lib.hid hx
        have S4 := Lib.hid hs
        clear hs hx hgood
        go_wp2_with fail
        go_region_held3 (fun w' => (w'.cell? ⟨w2.heap.size, 0, none⟩ = some (.int .i64 K) ∧ w'.cell? ⟨w2.heap.size, 1, none⟩ = some (.int .i64 c) ∧ w'.cell? ⟨w2.heap.size, 2, none⟩ = some (.slice (some ⟨g, 0, none⟩) NN NN)) ∧ (w'.cell? ⟨w.heap.size, 0, none⟩ = some (.int .i64 r) ∧ w'.cell? ⟨w.heap.size, 1, none⟩ = some (.int .i64 c) ∧ w'.cell? ⟨w.heap.size, 2, none⟩ = some (.slice (some ⟨ga, oa, none⟩) n cap))) (first | exact ⟨by assumption, by assumption⟩ | exact ⟨⟨x0, x1, x2⟩, u0, u1, u2⟩)
          (first
          | (go_at_call 54; have h9 := S4.out; clear S4; refine (row0_any K c k g NN NN _ hlt (by omega) (by omega) (by omega) HNN.out (Nat.le_refl _) (by omega)).mono ?_; rintro e w6 ⟨q, hqe, hqn, rfl, hb⟩; have hm := (h9.after (Below.refl _ _).drew).after hb; have hk1 := box3 hm.box; have hk2 := box3 hm.one; have S5 := Lib.hid hm; have HQ := Lib.hid hqe; clear h9 hb hm hqe)
          | (go_at_call 54; have h9 := S5.out; clear S5; refine (row_any r c y ga oa n cap _ hy (by omega) (by omega) (by omega) HN.out hcap hcap2).mono ?_; rintro e w7 ⟨rfl, hb⟩; have hm := h9.after hb; have hk3 := box3 hm.box; have hk4 := box3 hm.one; have S6 := Lib.hid hm; clear h9 hb hm)
          | (refine step_copy_tab (by rfl) (.tmp 48) (.tmp 51) 56 56 (by rfl) 5 Try.underlying56 u8size g q c (NN - q) ga (oa + y * c) c (cap - y * c) c NN (by rfl) (by rfl) 5 (upF c P (k * c)) (P k) S6.out.row (Nat.min_self c).symm (by omega) (fun j hj => by rw [S6.out.src y j hy hj, HP.out]; simp only [← HXX.out, Int.toNat_natCast]) ?_; intro w8 hr8 hf8; rw [HQ.out, upF_row c P k c1] at hr8; have h9 := S6.out; clear S6; have hm := h9.lay hr8 hf8 hg2 gal; have hk5 := box3 hm.box; have hk6 := box3 hm.one; have S7 := Lib.hid hm; clear h9 hr8 hf8 hm))
        go_wp2
        go_roundw
        case measure => simp [intOf]; omega
        case rel =>
          refine ⟨k + 1, by omega, by go_num, fun i hi => ?_, S7.out⟩
          by_cases e : i = k
          · rw [e, ← HXX.out]; omega
          · exact HALL.out i (by omega)
      · have hbad : x < 0 ∨ (¬ x < 0 ∧ (r : Int) ≤ x) := by omega
        have HXX := Lib.hid hx
        have HG := Lib.hid hgood
        have S4 := Lib.hid hs
        clear hs hx hgood
        rcases hbad with h5 | ⟨h5, h6⟩
        all_goals
          go_wp2_with (go_at_call 52; have h9 := S4.out; clear S4; refine (fault_any 1 (by decide) _).mono ?_; rintro e w6 ⟨ev, rfl, he, hb⟩; have hm := h9.after hb; obtain ⟨z0, z1, z2⟩ := box3 hm.res; obtain ⟨f0, f1, f2⟩ := box3f hm.res; have S5 := Lib.hid (And.intro hm (And.intro he h9.res.lt)); clear h9 hb hm he)
          have hy := set3_row (a := .int .i64 0) (b := .int .i64 0) (c := .slice none 0 0) S5.out.1.res
          obtain ⟨y0, y1, y2⟩ := box3 hy
          exact bodyPost_ret (v := .tuple #[.agg #[.int .i64 0, .int .i64 0, .slice none 0 0], ev]) (by simp [results, Try.results32, go_sem, y0, y1, y2]) rfl ⟨Or.inl ⟨⟨k, by rw [← HK.out]; exact hlt, by rw [← HXX.out]; exact HG.out⟩, ev, rfl, (set3_err S5.out.2.1 S5.out.2.2).mono (by have := S5.out.2.2; omega)⟩, set3_below S5.out.1.bel (by omega)⟩
    · obtain rfl : k = K := by omega
      obtain ⟨x0, x1, x2⟩ := box3 hs.box
      obtain ⟨t0, t1, t2⟩ := box3 hs.res
      obtain ⟨f0, f1, f2⟩ := box3f hs.res
      have S4 := Lib.hid hs
      clear hs
      go_wp2
      have hy := set3_row (a := .int .i64 k) (b := .int .i64 c) (c := .slice (some ⟨g, 0, none⟩) NN NN) S4.out.res
      obtain ⟨y0, y1, y2⟩ := box3 hy
      exact bodyPost_ret (v := .tuple #[.agg #[.int .i64 k, .int .i64 c, .slice (some ⟨g, 0, none⟩) NN NN], .nilIface]) (by simp [results, Try.results32, go_sem, y0, y1, y2]) rfl ⟨Or.inr ⟨by rw [← HK.out]; exact HALL.out, g, by unfold mval; rw [← HK.out, ← HNN.out], hg2, by
        have h9 := S4.out.row
        rw [HNN.out, upF_full, HP.out, HK.out] at h9
        exact h9.fr ((((Fr.refl [w.heap.size + 1] wr).setCell (Or.inl (by simp)) _).setCell (Or.inl (by simp)) _).setCell (Or.inl (by simp)) _) (by simp only [List.mem_singleton]; exact fun e => S4.out.res.ne S4.out.row.row (by decide) e.symm)⟩, set3_below S4.out.bel (by omega)⟩
end Go.Proofs.Ytbnfnijjldimkab
