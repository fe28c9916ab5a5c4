/-
  The walks of matrix.Cauchy.
-/
import Derived.Test.YtbnfnijjldimkabMident
namespace Go.Proofs.Ytbnfnijjldimkab
open Go.RowKit
set_option linter.unusedVariables false
set_option linter.unusedSimpArgs false
set_option maxRecDepth 100000 in
set_option maxHeartbeats 1600000 in
theorem cauchy_bad (r c : Int) (w : World) (h : r < 1 ∨ 255 < r ∨ c < 1 ∨ 255 < c ∨ 256 < r + c) :
    Calls Try.prog 49 #[.int .i64 r, .int .i64 c] w fun e w' => ∃ ev, e = .returned (.tuple #[nilMat, ev]) ∧ ErrAt w.heap.size w' ev 1 ∧ Below w.heap.size w w' := by
  have hx : (r < 1) ∨ (¬ r < 1 ∧ c < 1) ∨ (¬ r < 1 ∧ ¬ c < 1 ∧ 255 < r) ∨ (¬ r < 1 ∧ ¬ c < 1 ∧ ¬ 255 < r ∧ 255 < c) ∨ (¬ r < 1 ∧ ¬ c < 1 ∧ ¬ 255 < r ∧ ¬ 255 < c ∧ 256 < r + c) := by omega
  clear h
  have hbox := Row.new w 71 [.int .i64 0, .int .i64 0, .slice none 0 0]
  have HB := Lib.hid hbox
  clear hbox
  rcases hx with h1 | ⟨h1, h2⟩ | ⟨h1, h2, h3⟩ | ⟨h1, h2, h3, h4⟩ | ⟨h1, h2, h3, h4, h5⟩
  all_goals
    go_enter Try.func49, Try.ntmps49
    go_wp2_with (go_at_call 52; refine (fault_any 1 (by decide) _).mono ?_; rintro e w1 ⟨ev, rfl, he, hb⟩; have hB := HB.out.after hb; have x0 := hB.cell (j := 0) rfl; have x1 := hB.cell (j := 1) rfl; have x2 := hB.cell (j := 2) rfl; have f0 := hB.free (j := 0) (by simp); have f1 := hB.free (j := 1) (by simp); have f2 := hB.free (j := 2) (by simp); have HE := Lib.hid he; have HBL := Lib.hid hb; clear he hb hB)
    have hy := set3_row (a := .int .i64 0) (b := .int .i64 0) (c := .slice none 0 0) (HB.out.after HBL.out)
    have y0 := hy.cell (j := 0) rfl
    have y1 := hy.cell (j := 1) rfl
    have y2 := hy.cell (j := 2) rfl
    exact bodyPost_ret (v := .tuple #[.agg #[.int .i64 0, .int .i64 0, .slice none 0 0], ev]) (by simp [results, Try.results49, go_sem, y0, y1, y2]) rfl ⟨ev, rfl, (set3_err HE.out (by simp)).mono (by simp), set3_below (((Below.refl _ _).alloc (Nat.le_refl _) _).trans (HBL.out.mono (by simp))) (Nat.le_refl _)⟩
/-- a matrix' first t cells, the others noughts -/
def upF (c : Nat) (M : Nat → Nat → BitVec 8) (t j : Nat) : BitVec 8 := if j < t then M (j / c) (j % c) else 0#8
theorem upF_zero (c : Nat) (M : Nat → Nat → BitVec 8) : (fun _ => 0#8) = upF c M 0 := by
  funext j; unfold upF; rw [if_neg (by omega)]
theorem upF_succ (c : Nat) (M : Nat → Nat → BitVec 8) (k l : Nat) (h : l < c) : (fun j => if j = k * c + l then M k l else upF c M (k * c + l) j) = upF c M (k * c + l + 1) := by
  funext j
  unfold upF
  by_cases e : j = k * c + l
  · subst e
    rw [if_pos rfl, if_pos (by omega), idx_div k l h, idx_mod k l h]
  · rw [if_neg e]
    by_cases h1 : j < k * c + l
    · rw [if_pos h1, if_pos (by omega)]
    · rw [if_neg h1, if_neg (by omega)]
theorem upF_full (r c : Nat) (M : Nat → Nat → BitVec 8) : tab (r * c) (upF c M (r * c)) = (mat r c M).cells := by
  unfold mat
  exact tab_congr fun j hj => by unfold upF; rw [if_pos hj]
theorem cau_arg (c k l : Nat) (h1 : c + k < 256) (h2 : l < 256) : bits .xor .u8 ((c : Int) + (k : Int)) (l : Int) = nv (BitVec.ofNat 8 (c + k) ^^^ BitVec.ofNat 8 l) := by
  have e : ((c : Int) + (k : Int)) = nv (BitVec.ofNat 8 (c + k)) := by rw [nv_of h1]; omega
  rw [e, ← nv_of h2, u8_xor_nv]
theorem cau_val (c k l : Nat) : ivv (BitVec.ofNat 8 (c + k) ^^^ BitVec.ofNat 8 l) = cau c k l := rfl
set_option maxRecDepth 100000 in
set_option maxHeartbeats 1600000 in
theorem cauchy_ok (r c : Nat) (w : World) (r1 : 1 ≤ r) (r2 : r ≤ 255) (c1 : 1 ≤ c) (c2 : c ≤ 255) (hrc : r + c ≤ 256) :
    Calls Try.prog 49 #[.int .i64 r, .int .i64 c] w fun e w' => ∃ g, e = .returned (.tuple #[mval r c g, .nilIface]) ∧ w.heap.size ≤ g ∧ Row0 w' g 5 (ncells (mat r c (cau c)).cells) ∧ Below w.heap.size w w' := by
  have hbox := Row.new w 71 [.int .i64 0, .int .i64 0, .slice none 0 0]
  have HB := Lib.hid hbox
  have i1 : (1 : Int) ≤ r := by omega
  have i2 : (r : Int) ≤ 255 := by omega
  have i3 : (1 : Int) ≤ c := by omega
  have i4 : (c : Int) ≤ 255 := by omega
  have i5 : (r : Int) + (c : Int) ≤ 256 := by omega
  clear hbox
  have hq : r * c ≤ 255 * 255 := Nat.mul_le_mul r2 c2
  obtain ⟨N, hN⟩ : ∃ N, N = r * c := ⟨_, rfl⟩
  unfold mval
  rw [← hN] at hq ⊢
  have HN := Lib.hid hN
  clear hN
  go_enter Try.func49, Try.ntmps49
  go_wp2_with (go_at_call 53; refine (zero_any r c _ (by omega) (by omega)).mono ?_; rintro e w1 ⟨g, rfl, hg, hrow, hb⟩; unfold mval; rw [← HN.out] at hrow ⊢; have HB1 := Lib.hid (HB.out.after hb); have HROW := Lib.hid hrow; have HBL := Lib.hid (((Below.refl w.heap.size w).alloc (Nat.le_refl _) (.cells #[.int .i64 0, .int .i64 0, .slice none 0 0] 71)).trans (hb.mono (by simp))); clear hrow hb HB)
  have HBX := Lib.hid (Row.new w1 71 [.int .i64 r, .int .i64 c, .slice (some ⟨g, 0, none⟩) N N])
  have hgw : w.heap.size < g := by simp at hg; omega
  have hgl := HROW.out.row.lt
  have hw1 : w.heap.size < w1.heap.size := HB1.out.lt
  clear hg
  go_loopw [35] (fun i wr => ∃ k : Nat, k ≤ r ∧ i = .int .i64 k ∧ Row0 wr g 5 (ncells (tab N (upF c (cau c) (k * c)))) ∧ Row wr w1.heap.size 71 [.int .i64 r, .int .i64 c, .slice (some ⟨g, 0, none⟩) N N] ∧ Row wr w.heap.size 71 [.int .i64 0, .int .i64 0, .slice none 0 0] ∧ Below w.heap.size w wr ∧ w1.heap.size < wr.heap.size) (fun i _ => r - (intOf i).toNat)
  case atStart => exact ⟨0, by omega, rfl, by rw [Nat.zero_mul, ← upF_zero]; exact HROW.out.fr ((Fr.refl [] _).alloc _) (by simp), HBX.out, HB1.out.alloc _, HBL.out.alloc (by omega) _, by simp⟩
  case round =>
    obtain ⟨k, hk, rfl, hrow, hbx, hrc', hbel, hsz⟩ := hrel
    have HR := Lib.hid hrow
    have HX := Lib.hid hbx
    have HC := Lib.hid hrc'
    have HL := Lib.hid hbel
    clear hrow hbx hrc' hbel HROW HBX HB1 HBL
    by_cases hlt : k < r
    · go_wp2
      obtain ⟨wo, rfl⟩ : ∃ wo : World, wo = wr := ⟨_, rfl⟩
      go_loopw [39] (fun i wr => ∃ l : Nat, l ≤ c ∧ i = .int .i64 l ∧ Row0 wr g 5 (ncells (tab N (upF c (cau c) (k * c + l)))) ∧ Row wr w1.heap.size 71 [.int .i64 r, .int .i64 c, .slice (some ⟨g, 0, none⟩) N N] ∧ Row wr w.heap.size 71 [.int .i64 0, .int .i64 0, .slice none 0 0] ∧ Below w.heap.size w wr ∧ w1.heap.size < wr.heap.size) (fun i _ => c - (intOf i).toNat)
      case atStart => exact ⟨0, by omega, rfl, HR.out, HX.out, HC.out, HL.out, hsz⟩
      case round =>
        clear HR HX HC HL
        obtain ⟨l, hl, rfl, hrow, hbx, hrc', hbel, hsz⟩ := hrel
        have x0 := hbx.cell (j := 0) rfl
        have x1 := hbx.cell (j := 1) rfl
        have x2 := hbx.cell (j := 2) rfl
        have HR := Lib.hid hrow
        have HX := Lib.hid hbx
        have HC := Lib.hid hrc'
        have HL := Lib.hid hbel
        clear hrow hbx hrc' hbel
        by_cases hlt2 : l < c
        · have hca := cau_arg c k l (by omega) (by omega)
          obtain ⟨X, hX⟩ : ∃ X, X = BitVec.ofNat 8 (c + k) ^^^ BitVec.ofNat 8 l := ⟨_, rfl⟩
          rw [← hX] at hca
          have HXX := Lib.hid hX
          clear hX
          go_wp2_with (first
            | (go_at_call 54; refine (row0_any r c k g N N _ hlt (by omega) (by omega) (by omega) HN.out (Nat.le_refl _) (by omega)).mono ?_; rintro e w2 ⟨q, hqe, hqn, rfl, hb⟩; have hr2 := HR.out.fr (Fr.of_below (L := []) hb) (by simp); have c0 := tab0_cell (i := q + l) hr2 (by omega); have f0 := tab0_free (i := q + l) hr2 (by omega); have HR2 := Lib.hid hr2; have HX2 := Lib.hid (HX.out.after hb); have HC2 := Lib.hid (HC.out.after hb); have HL2 := Lib.hid (HL.out.trans (hb.mono HL.out.size)); have hsz2 := hb.size; have HQ := Lib.hid hqe; clear hr2 hb hqe x0 x1 x2)
            | (go_at_call 69; refine (inv_any (nv X) (nv_lo _) (nv_hi _) _).mono ?_; rw [bv_nv]; rintro e w3 ⟨rfl, rfl⟩))
          go_roundw
          case measure => simp [intOf]; omega
          case rel =>
            refine ⟨l + 1, by omega, by go_num, ?_, HX2.out.other (by show w1.heap.size ≠ g; omega) _, HC2.out.other (by show w.heap.size ≠ g; omega) _, HL2.out.setCell (by show w.heap.size ≤ g; omega) _, by simp; omega⟩
            have hm := tab0_store (i := q + l) HR2.out (cau c k l)
            rw [HQ.out, upF_succ c _ k l hlt2, ← cau_val, ← HXX.out] at hm
            rw [HQ.out]
            exact hm
        · obtain rfl : l = c := by omega
          go_wp2
          go_roundw
          case measure => simp [intOf]; omega
          case rel => exact ⟨k + 1, by omega, by go_num, by rw [Nat.add_mul, Nat.one_mul]; exact HR.out, HX.out, HC.out, HL.out, hsz⟩
    · obtain rfl : k = r := by omega
      have x0 := HX.out.cell (j := 0) rfl
      have x1 := HX.out.cell (j := 1) rfl
      have x2 := HX.out.cell (j := 2) rfl
      have r0 := HC.out.cell (j := 0) rfl
      have r1 := HC.out.cell (j := 1) rfl
      have r2 := HC.out.cell (j := 2) rfl
      have f0 := HC.out.free (j := 0) (by simp)
      have f1 := HC.out.free (j := 1) (by simp)
      have f2 := HC.out.free (j := 2) (by simp)
      go_wp2
      have hy := set3_row (a := .int .i64 k) (b := .int .i64 c) (c := .slice (some ⟨g, 0, none⟩) N N) HC.out
      have y0 := hy.cell (j := 0) rfl
      have y1 := hy.cell (j := 1) rfl
      have y2 := hy.cell (j := 2) rfl
      exact bodyPost_ret (v := .tuple #[.agg #[.int .i64 k, .int .i64 c, .slice (some ⟨g, 0, none⟩) N N], .nilIface]) (by simp [results, Try.results49, go_sem, y0, y1, y2]) rfl ⟨g, rfl, by omega, by
        have h9 := HR.out
        rw [HN.out, upF_full] at h9
        exact h9.fr ((((Fr.refl [w.heap.size] wr).setCell (Or.inl (by simp)) _).setCell (Or.inl (by simp)) _).setCell (Or.inl (by simp)) _) (by simp; omega), set3_below HL.out (Nat.le_refl _)⟩
end Go.Proofs.Ytbnfnijjldimkab
