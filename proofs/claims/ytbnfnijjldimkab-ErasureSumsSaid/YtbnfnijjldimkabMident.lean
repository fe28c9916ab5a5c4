/-
  The walks of matrix.Identity.
-/
import Derived.Test.YtbnfnijjldimkabMw
import Derived.Outline
namespace Go.Proofs.Ytbnfnijjldimkab
open Go.RowKit
set_option linter.unusedVariables false
set_option linter.unusedSimpArgs false
def mt0 : Mt := ⟨0, 0, []⟩
def nilMat : Value := .agg #[.int .i64 0, .int .i64 0, .slice none 0 0]
section
variable {w w0 : World} {g B : Nat} {T : TypeId} {x y z a b c v : Value} {k : Int}
theorem set3_row (h : Row w g T [x, y, z]) : Row (((w.setCell ⟨g, 0, none⟩ a).setCell ⟨g, 1, none⟩ b).setCell ⟨g, 2, none⟩ c) g T [a, b, c] := ((h.set 0 a).set 1 b).set 2 c
theorem set3_below (h : Below B w0 w) (hB : B ≤ g) : Below B w0 (((w.setCell ⟨g, 0, none⟩ a).setCell ⟨g, 1, none⟩ b).setCell ⟨g, 2, none⟩ c) := ((h.setCell hB a).setCell hB b).setCell hB c
theorem ErrAt.setCell (h : ErrAt B w v k) (hg : g < B) (j : Nat) : ErrAt B (w.setCell ⟨g, j, none⟩ a) v k := by
  rcases h with h | ⟨hc, f, h1, h2, h3⟩
  · exact Or.inl h
  · exact Or.inr ⟨hc, f, h1, h2, Row.other h3 (by show f ≠ g; omega) _⟩
theorem set3_err (h : ErrAt B w v k) (hg : g < B) : ErrAt B (((w.setCell ⟨g, 0, none⟩ a).setCell ⟨g, 1, none⟩ b).setCell ⟨g, 2, none⟩ c) v k := ((h.setCell hg 0).setCell hg 1).setCell hg 2
theorem set3_other {g' : Nat} {T' : TypeId} {l : List Value} (h : Row w g' T' l) (hg : g' ≠ g) : Row (((w.setCell ⟨g, 0, none⟩ a).setCell ⟨g, 1, none⟩ b).setCell ⟨g, 2, none⟩ c) g' T' l := ((h.other (by exact hg) _).other (by exact hg) _).other (by exact hg) _
end
set_option maxRecDepth 100000 in
set_option maxHeartbeats 800000 in
theorem identity_bad (n : Int) (w : World) (h : n < 1 ∨ 255 < n) :
    Calls Try.prog 48 #[.int .i64 n] w fun e w' => ∃ ev, e = .returned (.tuple #[nilMat, ev]) ∧ ErrAt w.heap.size w' ev 1 ∧ Below w.heap.size w w' := by
  have hx : (n < 1) ∨ (¬ n < 1 ∧ 255 < n) := by omega
  clear h
  have hbox := Row.new w 71 [.int .i64 0, .int .i64 0, .slice none 0 0]
  have HB := Lib.hid hbox
  clear hbox
  rcases hx with hx | ⟨hx, hx2⟩
  all_goals
    go_enter Try.func48, Try.ntmps48
    go_wp2_with (go_at_call 52; refine (fault_any 1 (by decide) _).mono ?_; rintro e w1 ⟨ev, rfl, he, hb⟩; have hB := HB.out.after hb; have x0 := hB.cell (j := 0) rfl; have x1 := hB.cell (j := 1) rfl; have x2 := hB.cell (j := 2) rfl; have f0 := hB.free (j := 0) (by simp); have f1 := hB.free (j := 1) (by simp); have f2 := hB.free (j := 2) (by simp); have HE := Lib.hid he; have HBL := Lib.hid hb; clear he hb hB)
    have y0 := (set3_row (a := .int .i64 0) (b := .int .i64 0) (c := .slice none 0 0) (HB.out.after HBL.out)).cell (j := 0) rfl
    have y1 := (set3_row (a := .int .i64 0) (b := .int .i64 0) (c := .slice none 0 0) (HB.out.after HBL.out)).cell (j := 1) rfl
    have y2 := (set3_row (a := .int .i64 0) (b := .int .i64 0) (c := .slice none 0 0) (HB.out.after HBL.out)).cell (j := 2) rfl
    exact bodyPost_ret (v := .tuple #[.agg #[.int .i64 0, .int .i64 0, .slice none 0 0], ev]) (by simp [results, Try.results48, go_sem, y0, y1, y2]) rfl ⟨ev, rfl, (set3_err HE.out (by simp)).mono (by simp), set3_below (((Below.refl _ _).alloc (Nat.le_refl _) _).trans (HBL.out.mono (by simp))) (Nat.le_refl _)⟩
/-- the Identity's rows below k, as a table -/
def idF (n k j : Nat) : BitVec 8 := if j / n = j % n ∧ j / n < k then 1#8 else 0#8
theorem idF_zero (n : Nat) : (fun _ => 0#8) = idF n 0 := by
  funext j; unfold idF; rw [if_neg (by omega)]
theorem idF_succ (n k : Nat) (h : k < n) : (fun j => if j = k * n + k then 1#8 else idF n k j) = idF n (k + 1) := by
  funext j
  unfold idF
  by_cases e : j = k * n + k
  · subst e
    rw [if_pos rfl, idx_div k k h, idx_mod k k h, if_pos ⟨rfl, by omega⟩]
  · rw [if_neg e]
    by_cases h1 : j / n = j % n ∧ j / n < k
    · rw [if_pos h1, if_pos ⟨h1.1, by omega⟩]
    · rw [if_neg h1, if_neg]
      rintro ⟨h2, h3⟩
      have h4 : j / n = k := by
        by_cases h5 : j / n < k
        · exact absurd ⟨h2, h5⟩ h1
        · omega
      apply e
      have := Nat.div_add_mod j n
      rw [← h2, h4, Nat.mul_comm] at this
      exact this.symm
theorem idF_full (n : Nat) : tab (n * n) (idF n n) = (mat n n idm).cells := by
  unfold mat
  simp only
  refine tab_congr fun j hj => ?_
  unfold idF idm
  have hl := row_lt hj
  by_cases h : j / n = j % n
  · rw [if_pos ⟨h, hl⟩, if_pos h]
  · rw [if_neg (fun x => h x.1), if_neg h]
set_option maxRecDepth 100000 in
set_option maxHeartbeats 800000 in
theorem identity_ok (n : Nat) (w : World) (n1 : 1 ≤ n) (n2 : n ≤ 255) :
    Calls Try.prog 48 #[.int .i64 n] w fun e w' => ∃ g, e = .returned (.tuple #[mval n n g, .nilIface]) ∧ w.heap.size ≤ g ∧ Row0 w' g 5 (ncells (mat n n idm).cells) ∧ Below w.heap.size w w' := by
  have hbox := Row.new w 71 [.int .i64 0, .int .i64 0, .slice none 0 0]
  have HB := Lib.hid hbox
  have i1 : (1 : Int) ≤ n := by omega
  have i2 : (n : Int) ≤ 255 := by omega
  clear hbox
  go_enter Try.func48, Try.ntmps48
  go_wp2_with (go_at_call 53; refine (zero_any n n _ (by omega) (by omega)).mono ?_; rintro e w1 ⟨g, rfl, hg, hrow, hb⟩; unfold mval; have HB1 := Lib.hid (HB.out.after hb); have HROW := Lib.hid hrow; have HBL := Lib.hid (((Below.refl w.heap.size w).alloc (Nat.le_refl _) (.cells #[.int .i64 0, .int .i64 0, .slice none 0 0] 71)).trans (hb.mono (by simp))); clear hrow hb HB)
  have HBX := Lib.hid (Row.new w1 71 [.int .i64 n, .int .i64 n, .slice (some ⟨g, 0, none⟩) (n * n) (n * n)])
  have hgw : w.heap.size < g := by simp at hg; omega
  have hgl := HROW.out.row.lt
  have hw1 : w.heap.size < w1.heap.size := HB1.out.lt
  clear hg
  have hq : n * n ≤ 255 * 255 := Nat.mul_le_mul n2 n2
  go_loopw [18] (fun i wr => ∃ k : Nat, k ≤ n ∧ i = .int .i64 k ∧ Row0 wr g 5 (ncells (tab (n * n) (idF n k))) ∧ Row wr w1.heap.size 71 [.int .i64 n, .int .i64 n, .slice (some ⟨g, 0, none⟩) (n * n) (n * n)] ∧ Row wr w.heap.size 71 [.int .i64 0, .int .i64 0, .slice none 0 0] ∧ Below w.heap.size w wr ∧ w1.heap.size < wr.heap.size) (fun i _ => n - (intOf i).toNat)
  case atStart => exact ⟨0, by omega, rfl, by rw [← idF_zero]; exact HROW.out.fr ((Fr.refl [] _).alloc _) (by simp), HBX.out, HB1.out.alloc _, HBL.out.alloc (by omega) _, by simp⟩
  case round =>
    obtain ⟨k, hk, rfl, hrow, hbx, hrc, hbel, hsz⟩ := hrel
    have x0 := hbx.cell (j := 0) rfl
    have x1 := hbx.cell (j := 1) rfl
    have x2 := hbx.cell (j := 2) rfl
    have HR := Lib.hid hrow
    have HX := Lib.hid hbx
    have HC := Lib.hid hrc
    have HL := Lib.hid hbel
    clear hrow hbx hrc hbel HROW HBX HB1 HBL
    by_cases hlt : k < n
    · go_wp2_with (go_at_call 54; refine (row0_any n n k g (n * n) (n * n) _ hlt (by omega) (by omega) (by omega) rfl (Nat.le_refl _) (by omega)).mono ?_; rintro e w2 ⟨q, hqe, hqn, rfl, hb⟩; have hr2 := HR.out.fr (Fr.of_below (L := []) hb) (by simp); have c0 := tab0_cell (i := q + k) hr2 (by omega); have f0 := tab0_free (i := q + k) hr2 (by omega); have HR2 := Lib.hid hr2; have HX2 := Lib.hid (HX.out.after hb); have HC2 := Lib.hid (HC.out.after hb); have HL2 := Lib.hid (HL.out.trans (hb.mono HL.out.size)); have hsz2 := hb.size; have HQ := Lib.hid hqe; clear hr2 hb hqe x0 x1 x2)
      go_roundw
      case measure => simp [intOf]; omega
      case rel =>
        refine ⟨k + 1, by omega, by go_num, ?_, HX2.out.other (by show w1.heap.size ≠ g; omega) _, HC2.out.other (by show w.heap.size ≠ g; omega) _, HL2.out.setCell (by show w.heap.size ≤ g; omega) _, by simp; omega⟩
        have hm := tab0_store (i := q + k) HR2.out 1#8
        rw [HQ.out, idF_succ n k hlt, nv_one] at hm
        rw [HQ.out]
        exact hm
    · obtain rfl : k = n := by omega
      have r0 := HC.out.cell (j := 0) rfl
      have r1 := HC.out.cell (j := 1) rfl
      have r2 := HC.out.cell (j := 2) rfl
      have f0 := HC.out.free (j := 0) (by simp)
      have f1 := HC.out.free (j := 1) (by simp)
      have f2 := HC.out.free (j := 2) (by simp)
      go_wp2
      have hy := set3_row (a := .int .i64 k) (b := .int .i64 k) (c := .slice (some ⟨g, 0, none⟩) (k * k) (k * k)) HC.out
      have y0 := hy.cell (j := 0) rfl
      have y1 := hy.cell (j := 1) rfl
      have y2 := hy.cell (j := 2) rfl
      exact bodyPost_ret (v := .tuple #[.agg #[.int .i64 k, .int .i64 k, .slice (some ⟨g, 0, none⟩) (k * k) (k * k)], .nilIface]) (by simp [results, Try.results48, go_sem, y0, y1, y2]) rfl ⟨g, rfl, by omega, by
        have h9 := HR.out
        rw [idF_full] at h9
        exact h9.fr ((((Fr.refl [w.heap.size] wr).setCell (Or.inl (by simp)) _).setCell (Or.inl (by simp)) _).setCell (Or.inl (by simp)) _) (by simp; omega), set3_below HL.out (Nat.le_refl _)⟩
end Go.Proofs.Ytbnfnijjldimkab
