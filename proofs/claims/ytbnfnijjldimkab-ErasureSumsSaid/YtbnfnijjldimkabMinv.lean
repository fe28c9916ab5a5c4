/-
  The walks of matrix.Invert.
-/
import Derived.Test.YtbnfnijjldimkabMown
namespace Go.Proofs.Ytbnfnijjldimkab
open Go.RowKit
set_option linter.unusedVariables false
set_option linter.unusedSimpArgs false
theorem upF_row (c : Nat) (M : Nat → Nat → BitVec 8) (k : Nat) (hc : 1 ≤ c) : layF (upF c M (k * c)) (k * c) c (M k) = upF c M ((k + 1) * c) := by
  funext j
  unfold layF upF
  rw [Nat.add_mul, Nat.one_mul]
  by_cases h : k * c ≤ j ∧ j < k * c + c
  · rw [if_pos h, if_pos h.2]
    have h1 := (in_row hc).1 h
    rw [h1]
    congr 1
    obtain ⟨m, rfl⟩ : ∃ m, j = k * c + m := ⟨j - k * c, by omega⟩
    rw [idx_mod k m (by omega)]; omega
  · rw [if_neg h]
    by_cases h2 : j < k * c
    · rw [if_pos h2, if_pos (by omega)]
    · rw [if_neg h2, if_neg (by omega)]
/-- the rows below k of a matrix with Identity beside it -/
def augF (n m : Nat) (A : Nat → Nat → BitVec 8) (k j : Nat) : BitVec 8 := if j / m < k then aug n A (j / m) (j % m) else 0#8
theorem augF_zero (n m : Nat) (A : Nat → Nat → BitVec 8) : (fun _ => 0#8) = augF n m A 0 := by
  funext j; unfold augF; rw [if_neg (Nat.not_lt_zero _)]
theorem augF_step (n m : Nat) (A : Nat → Nat → BitVec 8) (k : Nat) (hm : m = n + n) (h : k < n) : (fun j => if j = k * m + (n + k) then 1#8 else layF (augF n m A k) (k * m) n (A k) j) = augF n m A (k + 1) := by
  funext j
  have hm1 : 1 ≤ m := by omega
  by_cases hr : j / m = k
  · obtain ⟨h1, h2⟩ := (in_row hm1).2 hr
    obtain ⟨c, rfl⟩ : ∃ c, j = k * m + c := ⟨j - k * m, by omega⟩
    have hc : c < m := by omega
    unfold augF
    rw [idx_div k c hc, idx_mod k c hc, if_pos (Nat.lt_succ_self k)]
    unfold aug
    by_cases e : c = n + k
    · rw [if_pos (by omega), if_neg (by omega)]
      unfold idm; rw [if_pos (by omega)]
    · rw [if_neg (by omega)]
      unfold layF
      by_cases h3 : c < n
      · rw [if_pos ⟨by omega, by omega⟩, if_pos h3, show k * m + c - k * m = c from by omega]
      · rw [if_neg (by omega), if_neg h3]
        show (if (k * m + c) / m < k then _ else 0#8) = _
        rw [idx_div k c hc, if_neg (Nat.lt_irrefl k)]
        unfold idm; rw [if_neg (by omega)]
  · have h0 : ¬ (k * m ≤ j ∧ j < k * m + m) := fun h => hr ((in_row hm1).1 h)
    rw [if_neg (by omega)]
    unfold layF
    rw [if_neg (by omega)]
    unfold augF
    by_cases h4 : j / m < k
    · rw [if_pos h4, if_pos (Nat.lt_succ_of_lt h4)]
    · rw [if_neg h4, if_neg (fun h3 => (Nat.lt_or_eq_of_le (Nat.le_of_lt_succ h3)).elim h4 hr)]
theorem augF_full (n m : Nat) (A : Nat → Nat → BitVec 8) : tab (n * m) (augF n m A n) = tab (n * m) (tb m (aug n A)) := tab_congr fun j hj => by
  unfold augF tb; rw [if_pos (row_lt hj)]
/-- what Invert holds in its first loop -/
structure InvS (w0 : World) (b0 b2 bx g ga oa r c N : Nat) (A : Nat → Nat → BitVec 8) (LA LX : List Value) (f : Nat → BitVec 8) (w : World) : Prop where
  one : Row w b0 71 LA
  res : Row w b2 71 [.int .i64 0, .int .i64 0, .slice none 0 0]
  box : Row w bx 71 LX
  row : Row0 w g 5 (ncells (tab N f))
  src : MatRd w ga oa r c A
  bel : Below w0.heap.size w0 w
section
variable {w0 w w' : World} {b0 b2 bx g ga oa r c N : Nat} {A : Nat → Nat → BitVec 8} {LA LX : List Value} {f f' : Nat → BitVec 8}
theorem InvS.after (h : InvS w0 b0 b2 bx g ga oa r c N A LA LX f w) (hb : Below w.heap.size w w') : InvS w0 b0 b2 bx g ga oa r c N A LA LX f w' :=
  ⟨h.one.after hb, h.res.after hb, h.box.after hb, h.row.fr (Fr.of_below (L := []) hb) (by simp), h.src.after hb, h.bel.trans (hb.mono h.bel.size)⟩
theorem InvS.lay (h : InvS w0 b0 b2 bx g ga oa r c N A LA LX f w) (hr : Row0 w' g 5 (ncells (tab N f'))) (hf : Fr [g] w w') (hg : w0.heap.size ≤ g) (ha : ga < w0.heap.size) : InvS w0 b0 b2 bx g ga oa r c N A LA LX f' w' := by
  have h0 : b0 ∉ [g] := by simp only [List.mem_singleton]; exact h.one.ne h.row.row (by decide)
  have h2 : b2 ∉ [g] := by simp only [List.mem_singleton]; exact h.res.ne h.row.row (by decide)
  have h3 : bx ∉ [g] := by simp only [List.mem_singleton]; exact h.box.ne h.row.row (by decide)
  exact ⟨h.one.fr hf h0, h.res.fr hf h2, h.box.fr hf h3, hr, h.src.fr hf (by simp; omega), h.bel.trans (hf.below h.bel.size (fun i hi => by simp only [List.mem_singleton] at hi; omega))⟩
end
/-- what it holds in its second -/
structure InvT (w0 : World) (b2 bx by_ g g2 N N2 : Nat) (LX LY : List Value) (f f2 : Nat → BitVec 8) (w : World) : Prop where
  res : Row w b2 71 [.int .i64 0, .int .i64 0, .slice none 0 0]
  box : Row w bx 71 LX
  boy : Row w by_ 71 LY
  src : Row w g 5 (ncells (tab N f) ++ [])
  row : Row0 w g2 5 (ncells (tab N2 f2))
  bel : Below w0.heap.size w0 w
section
variable {w0 w w' : World} {b2 bx by_ g g2 N N2 : Nat} {LX LY : List Value} {f f2 f' : Nat → BitVec 8}
theorem InvT.after (h : InvT w0 b2 bx by_ g g2 N N2 LX LY f f2 w) (hb : Below w.heap.size w w') : InvT w0 b2 bx by_ g g2 N N2 LX LY f f2 w' :=
  ⟨h.res.after hb, h.box.after hb, h.boy.after hb, h.src.after hb, h.row.fr (Fr.of_below (L := []) hb) (by simp), h.bel.trans (hb.mono h.bel.size)⟩
theorem InvT.lay (h : InvT w0 b2 bx by_ g g2 N N2 LX LY f f2 w) (hr : Row0 w' g2 5 (ncells (tab N2 f'))) (hf : Fr [g2] w w') (hg : w0.heap.size ≤ g2) (hne : g ≠ g2) : InvT w0 b2 bx by_ g g2 N N2 LX LY f f' w' := by
  have h0 : b2 ∉ [g2] := by simp only [List.mem_singleton]; exact h.res.ne h.row.row (by decide)
  have h2 : bx ∉ [g2] := by simp only [List.mem_singleton]; exact h.box.ne h.row.row (by decide)
  have h3 : by_ ∉ [g2] := by simp only [List.mem_singleton]; exact h.boy.ne h.row.row (by decide)
  exact ⟨h.res.fr hf h0, h.box.fr hf h2, h.boy.fr hf h3, h.src.fr hf (by simpa using hne), hr, h.bel.trans (hf.below h.bel.size (fun i hi => by simp only [List.mem_singleton] at hi; omega))⟩
end
theorem two_boxes (w : World) (va vb vc : Value) : Row ((w.alloc (.cells #[va, vb, vc] 71)).alloc (.cells #[.int .i64 0, .int .i64 0, .slice none 0 0] 71)) w.heap.size 71 [va, vb, vc] ∧ Row ((w.alloc (.cells #[va, vb, vc] 71)).alloc (.cells #[.int .i64 0, .int .i64 0, .slice none 0 0] 71)) (w.heap.size + 1) 71 [.int .i64 0, .int .i64 0, .slice none 0 0] ∧ Below w.heap.size w ((w.alloc (.cells #[va, vb, vc] 71)).alloc (.cells #[.int .i64 0, .int .i64 0, .slice none 0 0] 71)) := by
  have hs : ∀ (W : World) (o : Obj), (W.alloc o).heap.size = W.heap.size + 1 := fun W o => by simp
  have hb0 := (Row.new w 71 [va, vb, vc]).alloc (.cells #[.int .i64 0, .int .i64 0, .slice none 0 0] 71)
  have hb1 := Row.new (w.alloc (.cells #[va, vb, vc] 71)) 71 [.int .i64 0, .int .i64 0, .slice none 0 0]
  rw [hs] at hb1
  exact ⟨hb0, hb1, ((Below.refl _ _).alloc (Nat.le_refl _) _).alloc (by simp) _⟩
/-- two boxes, kept -/
structure B2 (w0 : World) (b0 b1 : Nat) (LA : List Value) (w : World) : Prop where
  one : Row w b0 71 LA
  res : Row w b1 71 [.int .i64 0, .int .i64 0, .slice none 0 0]
  bel : Below w0.heap.size w0 w
  le : w0.heap.size ≤ b1
theorem B2.after {w0 w w' : World} {b0 b1 : Nat} {LA : List Value} (h : B2 w0 b0 b1 LA w) (hb : Below w.heap.size w w') : B2 w0 b0 b1 LA w' := ⟨h.one.after hb, h.res.after hb, h.bel.trans (hb.mono h.bel.size), h.le⟩
theorem b2_start (w : World) (va vb vc : Value) : B2 w w.heap.size (w.heap.size + 1) [va, vb, vc] ((w.alloc (.cells #[va, vb, vc] 71)).alloc (.cells #[.int .i64 0, .int .i64 0, .slice none 0 0] 71)) := by
  obtain ⟨h1, h2, h3⟩ := two_boxes w va vb vc
  exact ⟨h1, h2, h3, by omega⟩
set_option maxRecDepth 100000 in
set_option maxHeartbeats 1600000 in
theorem invert_bad1 (r c : Int) (n cap : Nat) (a : Option Addr) (w : World) (hl : n ≤ maxLen) (h : rightB r c n = false) :
    Calls Try.prog 33 #[.agg #[.int .i64 r, .int .i64 c, .slice a n cap]] w fun e w' => ∃ ev, e = .returned (.tuple #[nilMat, ev]) ∧ ErrAt w.heap.size w' ev 1 ∧ Below w.heap.size w w' := by
  have S0 := Lib.hid (b2_start w (.int .i64 r) (.int .i64 c) (.slice a n cap))
  have HX := Lib.hid h
  clear h
  go_enter Try.func33, Try.ntmps33
  go_wp2_with (first
    | (go_at_call 51; have h9 := S0.out; clear S0; refine (right_gen r c n a cap _ hl).mono ?_; rintro e w1 ⟨rfl, hb⟩; rw [HX.out]; have S1 := Lib.hid (h9.after hb); clear h9 hb)
    | (go_at_call 52; have h9 := S1.out; clear S1; refine (fault_any 1 (by decide) _).mono ?_; rintro e w2 ⟨ev, rfl, he, hb⟩; have hm := h9.after hb; obtain ⟨z0, z1, z2⟩ := box3 hm.res; obtain ⟨f0, f1, f2⟩ := box3f hm.res; have S2 := Lib.hid (And.intro hm (And.intro he h9.res.lt)); clear h9 hb hm he))
  have hy := set3_row (a := .int .i64 0) (b := .int .i64 0) (c := .slice none 0 0) S2.out.1.res
  obtain ⟨y0, y1, y2⟩ := box3 hy
  exact bodyPost_ret (v := .tuple #[.agg #[.int .i64 0, .int .i64 0, .slice none 0 0], ev]) (by simp [results, Try.results33, go_sem, y0, y1, y2]) rfl ⟨ev, rfl, (set3_err S2.out.2.1 S2.out.2.2).mono (by have := S2.out.2.2; omega), set3_below S2.out.1.bel (by omega)⟩
set_option maxRecDepth 100000 in
set_option maxHeartbeats 1600000 in
theorem invert_bad2 (r c : Int) (n cap : Nat) (a : Option Addr) (w : World) (hl : n ≤ maxLen) (h : rightB r c n = true) (hne : r ≠ c) :
    Calls Try.prog 33 #[.agg #[.int .i64 r, .int .i64 c, .slice a n cap]] w fun e w' => ∃ ev, e = .returned (.tuple #[nilMat, ev]) ∧ ErrAt w.heap.size w' ev 19 ∧ Below w.heap.size w w' := by
  have S0 := Lib.hid (b2_start w (.int .i64 r) (.int .i64 c) (.slice a n cap))
  have HX := Lib.hid h
  have hnb : (r != c) = true := by simpa using hne
  clear h hne
  go_enter Try.func33, Try.ntmps33
  go_wp2_with (first
    | (go_at_call 51; have h9 := S0.out; clear S0; refine (right_gen r c n a cap _ hl).mono ?_; rintro e w1 ⟨rfl, hb⟩; rw [HX.out]; have hm := h9.after hb; obtain ⟨x0, x1, x2⟩ := box3 hm.one; have S1 := Lib.hid hm; clear h9 hb hm)
    | (go_at_call 52; have h9 := S1.out; clear S1; refine (fault_any 19 (by decide) _).mono ?_; rintro e w2 ⟨ev, rfl, he, hb⟩; have hm := h9.after hb; obtain ⟨z0, z1, z2⟩ := box3 hm.res; obtain ⟨f0, f1, f2⟩ := box3f hm.res; have S2 := Lib.hid (And.intro hm (And.intro he h9.res.lt)); clear h9 hb hm he))
  have hy := set3_row (a := .int .i64 0) (b := .int .i64 0) (c := .slice none 0 0) S2.out.1.res
  obtain ⟨y0, y1, y2⟩ := box3 hy
  exact bodyPost_ret (v := .tuple #[.agg #[.int .i64 0, .int .i64 0, .slice none 0 0], ev]) (by simp [results, Try.results33, go_sem, y0, y1, y2]) rfl ⟨ev, rfl, (set3_err S2.out.2.1 S2.out.2.2).mono (by have := S2.out.2.2; omega), set3_below S2.out.1.bel (by omega)⟩
/-- what Invert answers of a square matrix -/
def InvAns (w : World) (n : Nat) (A : Nat → Nat → BitVec 8) (e : Ending) (w' : World) : Prop :=
  ((¬ Inj n A ∧ ∃ ev, e = .returned (.tuple #[nilMat, ev]) ∧ ErrAt w.heap.size w' ev 18) ∨ (Inj n A ∧ ∃ g B, RInv n A B ∧ e = .returned (.tuple #[mval n n g, .nilIface]) ∧ w.heap.size ≤ g ∧ Row0 w' g 5 (ncells (mat n n B).cells))) ∧ Below w.heap.size w w'
set_option maxRecDepth 100000 in
set_option maxHeartbeats 3200000 in
theorem invert_ok (n ga oa N cap : Nat) (A : Nat → Nat → BitVec 8) (w : World) (n1 : 1 ≤ n) (n2 : n ≤ 255) (hN : N = n * n) (hcap : N ≤ cap) (hcap2 : cap ≤ 9223372036854775807) (ha : MatRd w ga oa n n A) :
    Calls Try.prog 33 #[.agg #[.int .i64 n, .int .i64 n, .slice (some ⟨ga, oa, none⟩) N cap]] w fun e w' => InvAns w n A e w' := by
  have hm := rightB_ok n1 n2 n1 n2 hN
  have q1 : N ≤ 255 * 255 := by rw [hN]; exact Nat.mul_le_mul n2 n2
  obtain ⟨m, hmm⟩ : ∃ m, m = n + n := ⟨_, rfl⟩
  obtain ⟨NN, hNN⟩ : ∃ x, x = n * m := ⟨_, rfl⟩
  have q2 : NN ≤ 255 * 510 := by rw [hNN]; exact Nat.mul_le_mul n2 (by omega)
  have e2 : (2 : Int) * (n : Int) = (m : Int) := by rw [hmm]; omega
  have m1 : n < m := by omega
  have m2 : m ≤ 510 := by omega
  have hmn : m - n = n := by omega
  have gal : ga < w.heap.size := rd_cell_lt (ha 0 0 (by omega) (by omega))
  have S0 := Lib.hid (b2_start w (.int .i64 n) (.int .i64 n) (.slice (some ⟨ga, oa, none⟩) N cap))
  have HX := Lib.hid hm
  have HN := Lib.hid hN
  have HM := Lib.hid hmm
  have HNN := Lib.hid hNN
  have HMN := Lib.hid hmn
  have HA := Lib.hid ha
  clear hm hN hmm hNN hmn ha
  go_enter Try.func33, Try.ntmps33
  go_wp2_with (first
    | (go_at_call 51; have h9 := S0.out; clear S0; refine (right_gen n n N _ cap _ (by unfold maxLen; omega)).mono ?_; rintro e w1 ⟨rfl, hb⟩; rw [HX.out]; have hm := h9.after hb; obtain ⟨x0, x1, x2⟩ := box3 hm.one; have S1 := Lib.hid hm; clear h9 hb hm)
    | (go_at_call 53; have h9 := S1.out; clear S1; refine (zero_any n m _ (by omega) m2).mono ?_; rintro e w2 ⟨g, rfl, hg, hrow, hb⟩; unfold mval; rw [← HNN.out] at hrow ⊢; have hg2 : w.heap.size ≤ g := Nat.le_trans h9.bel.size hg; have hm := h9.after hb; have hz := hm.bel.size; have S2 := Lib.hid (And.intro hm hrow); clear h9 hb hm hg hrow))
  have S3 : Hid (InvS w w.heap.size (w.heap.size + 1) w2.heap.size g ga oa n n NN A [.int .i64 n, .int .i64 n, .slice (some ⟨ga, oa, none⟩) N cap] [.int .i64 n, .int .i64 m, .slice (some ⟨g, 0, none⟩) NN NN] (augF n m A 0) (w2.alloc (.cells #[.int .i64 n, .int .i64 m, .slice (some ⟨g, 0, none⟩) NN NN] 71))) := by
    obtain ⟨hm, hrow⟩ := S2.out
    have hbl : Below w2.heap.size w2 (w2.alloc (.cells #[.int .i64 n, .int .i64 m, .slice (some ⟨g, 0, none⟩) NN NN] 71)) := (Below.refl _ _).alloc (Nat.le_refl _) _
    have hk := hm.after hbl
    refine Lib.hid ⟨hk.one, hk.res, Row.new _ _ _, ?_, fun i j hi hj => ?_, hk.bel⟩
    · rw [← augF_zero]; exact hrow.fr (Fr.of_below (L := []) hbl) (by simp)
    · exact (hk.bel.cell (p := ⟨ga, oa + i * n + j, none⟩) gal).trans (HA.out i j hi hj)
  clear S2 HA
  go_loopw [27] (fun i wr => ∃ k : Nat, k ≤ n ∧ i = .int .i64 k ∧ InvS w w.heap.size (w.heap.size + 1) w2.heap.size g ga oa n n NN A [.int .i64 n, .int .i64 n, .slice (some ⟨ga, oa, none⟩) N cap] [.int .i64 n, .int .i64 m, .slice (some ⟨g, 0, none⟩) NN NN] (augF n m A k) wr) (fun i _ => n - (intOf i).toNat)
  case atStart => exact ⟨0, by omega, rfl, S3.out⟩
  case round =>
    clear S3
    obtain ⟨k, hk, rfl, hs⟩ := hrel
    by_cases hlt : k < n
    · obtain ⟨x0, x1, x2⟩ := box3 hs.box
      obtain ⟨u0, u1, u2⟩ := box3 hs.one
      have S4 := Lib.hid hs
      clear hs
      go_wp2_with fail
      go_region_held3 (fun w' => (w'.cell? ⟨w2.heap.size, 0, none⟩ = some (.int .i64 n) ∧ w'.cell? ⟨w2.heap.size, 1, none⟩ = some (.int .i64 m) ∧ w'.cell? ⟨w2.heap.size, 2, none⟩ = some (.slice (some ⟨g, 0, none⟩) NN NN)) ∧ (w'.cell? ⟨w.heap.size, 0, none⟩ = some (.int .i64 n) ∧ w'.cell? ⟨w.heap.size, 1, none⟩ = some (.int .i64 n) ∧ w'.cell? ⟨w.heap.size, 2, none⟩ = some (.slice (some ⟨ga, oa, none⟩) N cap))) (first | exact ⟨by assumption, by assumption⟩ | exact ⟨⟨x0, x1, x2⟩, u0, u1, u2⟩)
        (first
        | (go_at_call 54; have h9 := S4.out; clear S4; refine (row0_any n m k g NN NN _ hlt (by omega) (by omega) m2 HNN.out (Nat.le_refl _) (by omega)).mono ?_; rintro e w6 ⟨q, hqe, hqn, rfl, hb⟩; have hm := (h9.after (Below.refl _ _).drew).after hb; have hk1 := box3 hm.box; have hk2 := box3 hm.one; have S5 := Lib.hid hm; have HQ := Lib.hid hqe; clear h9 hb hm hqe)
        | (go_at_call 54; have h9 := S5.out; clear S5; refine (row_any n n k ga oa N cap _ hlt (by omega) (by omega) (by omega) HN.out hcap hcap2).mono ?_; rintro e w7 ⟨rfl, hb⟩; have hm := h9.after hb; have hk3 := box3 hm.box; have hk4 := box3 hm.one; have S6 := Lib.hid hm; clear h9 hb hm)
        | (refine step_copy_tab (by rfl) (.tmp 32) (.tmp 35) 56 56 (by rfl) 5 Try.underlying56 u8size g q m (NN - q) ga (oa + k * n) n (cap - k * n) n NN (by rfl) (by rfl) 5 (augF n m A k) (A k) S6.out.row (Nat.min_eq_left (by omega)).symm (by omega) (fun j hj => S6.out.src k j hlt hj) ?_; intro w8 hr8 hf8; have h9 := S6.out; clear S6; have hm := h9.lay hr8 hf8 hg2 gal; have hk5 := box3 hm.box; have hk6 := box3 hm.one; have S7 := Lib.hid hm; clear h9 hr8 hf8 hm))
      go_wp2_with (go_at_call 54; have h9 := S7.out; clear S7; refine (row0_any n m k g NN NN _ hlt (by omega) (by omega) m2 HNN.out (Nat.le_refl _) (by omega)).mono ?_; rintro e w9 ⟨q5, hqe, hqn5, rfl, hb⟩; have hm := h9.after hb; have c0 := tab0_cell (i := q5 + (n + k)) hm.row (by omega); have f0 := tab0_free (i := q5 + (n + k)) hm.row (by omega); have hk7 := box3 hm.box; have S8 := Lib.hid hm; have HQ5 := Lib.hid hqe; clear h9 hb hm hqe)
      go_roundw
      case measure => simp [intOf]; omega
      case rel =>
        refine ⟨k + 1, by omega, by go_num, ?_⟩
        have hr := tab0_store (i := q5 + (n + k)) S8.out.row 1#8
        rw [HQ.out, HQ5.out, augF_step n m A k HM.out hlt, nv_one] at hr
        rw [HQ5.out]
        exact S8.out.lay hr ((Fr.refl _ _).setCell (Or.inl (by simp)) _) hg2 gal
    · obtain rfl : k = n := by omega
      have hs2 : InvS w w.heap.size (w.heap.size + 1) w2.heap.size g ga oa k k NN A [.int .i64 k, .int .i64 k, .slice (some ⟨ga, oa, none⟩) N cap] [.int .i64 k, .int .i64 m, .slice (some ⟨g, 0, none⟩) NN NN] (tb m (aug k A)) wr := ⟨hs.one, hs.res, hs.box, by have h9 := hs.row; rw [HNN.out, augF_full, ← HNN.out] at h9; exact h9, hs.src, hs.bel⟩
      obtain ⟨x0, x1, x2⟩ := box3 hs2.box
      have S4 := Lib.hid hs2
      clear hs hs2
      go_wp2_with fail
      have h9 := S4.out
      clear S4
      refine (steps_any k m k g NN NN (aug k A) [] _ n1 n2 (by omega) m2 HNN.out (Nat.le_refl _) (by omega) (by omega) (by rw [List.append_nil]; exact h9.row.row)).mono ?_
      rintro e w5 ⟨l, M', j, p, rfl, hr, hf, hgood, hj, hend, hker⟩
      have hne1 := h9.res.ne h9.row.row (by decide)
      have hne2 := h9.box.ne h9.row.row (by decide)
      have hres := h9.res.fr hf (by simp only [List.mem_singleton]; exact hne1)
      have hbox := h9.box.fr hf (by simp only [List.mem_singleton]; exact hne2)
      have hbel := h9.bel.trans (hf.below h9.bel.size (fun i hi => by simp only [List.mem_singleton] at hi; omega))
      have hgl := hr.lt
      have hle := hgood.le
      have hr0 : w.heap.size + 1 < w5.heap.size := hres.lt
      have hk8 : ∀ x, Ker k (k + k) M' x ↔ Ker k (k + k) (aug k A) x := by rw [← HM.out]; exact hker
      clear hf h9 hker
      by_cases hlt2 : l < k
      · have hj2 : j = k := by omega
        have hS : ¬ Inj k A := by rw [hj2] at hgood; exact good_singular hgood hlt2 hk8
        have HS := Lib.hid hS
        have S5 := Lib.hid (And.intro hres hbel)
        have hw5 := hbel.size
        clear hres hbox hbel hr hgood hend hk8 hS hj2
        go_wp2_with (go_at_call 52; have h9 := S5.out; clear S5; refine (fault_any 18 (by decide) _).mono ?_; rintro e w6 ⟨ev, rfl, he, hb⟩; have hm := h9.1.after hb; obtain ⟨z0, z1, z2⟩ := box3 hm; obtain ⟨f0, f1, f2⟩ := box3f hm; have S6 := Lib.hid (And.intro hm (And.intro he (h9.2.trans (hb.mono h9.2.size)))); clear h9 hb hm he)
        have hy := set3_row (a := .int .i64 0) (b := .int .i64 0) (c := .slice none 0 0) S6.out.1
        obtain ⟨y0, y1, y2⟩ := box3 hy
        exact bodyPost_ret (v := .tuple #[.agg #[.int .i64 0, .int .i64 0, .slice none 0 0], ev]) (by simp [results, Try.results33, go_sem, y0, y1, y2]) rfl ⟨Or.inl ⟨HS.out, ev, rfl, (set3_err S6.out.2.1 hr0).mono (by omega)⟩, set3_below S6.out.2.2 (by omega)⟩
      · have hl : l = k := by omega
        subst hl
        have hI := good_inverse hgood (by omega) hk8
        obtain ⟨B, hB⟩ : ∃ B, B = fun i c => M' i (l + c) := ⟨_, rfl⟩
        rw [← hB] at hI
        have HI := Lib.hid hI
        have HB := Lib.hid hB
        obtain ⟨x0, x1, x2⟩ := box3 hbox
        have S5 := Lib.hid (And.intro hres (And.intro hbox (And.intro hr hbel)))
        have hw5 := hbel.size
        clear hres hbox hbel hr hgood hend hk8 hI hB hj
        go_wp2_with (go_at_call 53; have h9 := S5.out; clear S5; refine (zero_any l l _ (by omega) (by omega)).mono ?_; rintro e w6 ⟨g2, rfl, hg3, hrow, hb⟩; unfold mval; rw [← HN.out] at hrow ⊢; have hg4 : w.heap.size ≤ g2 := (by omega); have hne : g ≠ g2 := (by omega); have hz6 := hb.size; have S6 := Lib.hid (And.intro (h9.1.after hb) (And.intro (h9.2.1.after hb) (And.intro (h9.2.2.1.after hb) (And.intro hrow (h9.2.2.2.trans (hb.mono (by omega))))))); clear h9 hb hg3 hrow)
        have S7 : Hid (InvT w (w.heap.size + 1) w2.heap.size w6.heap.size g g2 NN N [.int .i64 l, .int .i64 m, .slice (some ⟨g, 0, none⟩) NN NN] [.int .i64 l, .int .i64 l, .slice (some ⟨g2, 0, none⟩) N N] (tb m M') (upF l B (0 * l)) (w6.alloc (.cells #[.int .i64 l, .int .i64 l, .slice (some ⟨g2, 0, none⟩) N N] 71))) := by
          obtain ⟨k1, k2, k3, k4, k5⟩ := S6.out
          have hbl : Below w6.heap.size w6 (w6.alloc (.cells #[.int .i64 l, .int .i64 l, .slice (some ⟨g2, 0, none⟩) N N] 71)) := (Below.refl _ _).alloc (Nat.le_refl _) _
          refine Lib.hid ⟨k1.after hbl, k2.after hbl, Row.new _ _ _, k3.after hbl, ?_, k5.trans (hbl.mono k5.size)⟩
          rw [Nat.zero_mul, ← upF_zero]; exact k4.fr (Fr.of_below (L := []) hbl) (by simp)
        clear S6
        go_loopw [56] (fun i wr => ∃ k : Nat, k ≤ l ∧ i = .int .i64 k ∧ InvT w (w.heap.size + 1) w2.heap.size w6.heap.size g g2 NN N [.int .i64 l, .int .i64 m, .slice (some ⟨g, 0, none⟩) NN NN] [.int .i64 l, .int .i64 l, .slice (some ⟨g2, 0, none⟩) N N] (tb m M') (upF l B (k * l)) wr) (fun i _ => l - (intOf i).toNat)
        case atStart => exact ⟨0, by omega, rfl, S7.out⟩
        case round =>
          clear S7
          obtain ⟨k, hk, rfl, hs⟩ := hrel
          by_cases hlt : k < l
          · obtain ⟨x0, x1, x2⟩ := box3 hs.box
            obtain ⟨u0, u1, u2⟩ := box3 hs.boy
            have S8 := Lib.hid hs
            clear hs
            go_wp2_with fail
            have lb0 : (0 : Int) ≤ (l : Int) := by omega
            have lb1 : (l : Int) ≤ (m : Int) := by omega
            have lb2 : l ≤ m := by omega
            go_region_held3 (fun w' => (w'.cell? ⟨w2.heap.size, 0, none⟩ = some (.int .i64 l) ∧ w'.cell? ⟨w2.heap.size, 1, none⟩ = some (.int .i64 m) ∧ w'.cell? ⟨w2.heap.size, 2, none⟩ = some (.slice (some ⟨g, 0, none⟩) NN NN)) ∧ (w'.cell? ⟨w6.heap.size, 0, none⟩ = some (.int .i64 l) ∧ w'.cell? ⟨w6.heap.size, 1, none⟩ = some (.int .i64 l) ∧ w'.cell? ⟨w6.heap.size, 2, none⟩ = some (.slice (some ⟨g2, 0, none⟩) N N))) (first | exact ⟨by assumption, by assumption⟩ | exact ⟨⟨x0, x1, x2⟩, u0, u1, u2⟩)
              (first
              | (go_at_call 54; have h9 := S8.out; clear S8; refine (row0_any l l k g2 N N _ hlt (by omega) (by omega) (by omega) HN.out (Nat.le_refl _) (by omega)).mono ?_; rintro e w7 ⟨q, hqe, hqn, rfl, hb⟩; have hm := (h9.after (Below.refl _ _).drew).after hb; have hk1 := box3 hm.box; have hk2 := box3 hm.boy; have S9 := Lib.hid hm; have HQ := Lib.hid hqe; clear h9 hb hm hqe)
              | (go_at_call 54; have h9 := S9.out; clear S9; refine (row0_any l m k g NN NN _ hlt (by omega) (by omega) m2 HNN.out (Nat.le_refl _) (by omega)).mono ?_; rintro e w8 ⟨q3, hqe, hqn3, rfl, hb⟩; have hm := h9.after hb; have hk3 := box3 hm.box; have hk4 := box3 hm.boy; have hq9 : l < NN - q3 := (by omega); have hq10 : m ≤ NN - q3 := (by omega); have hq13 : ¬ NN - q3 = l := (by omega); have S10 := Lib.hid hm; have HQ3 := Lib.hid hqe; clear h9 hb hm hqe)
              | (refine step_copy_tab (by rfl) (.tmp 61) (.tmp 66) 56 56 (by rfl) 5 Try.underlying56 u8size g2 q l (N - q) g (q3 + l) (m - l) (NN - q3 - l) l N (by rfl) (by rfl) 5 (upF l B (k * l)) (B k) S10.out.row (by rw [HMN.out]; exact (Nat.min_self l).symm) (by omega) (fun i hi => by rw [Nat.add_assoc, tab_cell (i := q3 + (l + i)) S10.out.src (by omega), HQ3.out, tb_at _ _ _ (by omega), HB.out]) ?_; intro w9 hr9 hf9; rw [HQ.out, upF_row l B k n1] at hr9; have h9 := S10.out; clear S10; have hm := h9.lay hr9 hf9 hg4 hne; have hk5 := box3 hm.box; have hk6 := box3 hm.boy; have S11 := Lib.hid hm; clear h9 hr9 hf9 hm))
            go_wp2
            go_roundw
            case measure => simp [intOf]; omega
            case rel => exact ⟨k + 1, by omega, by go_num, S11.out⟩
          · obtain rfl : k = l := by omega
            obtain ⟨x0, x1, x2⟩ := box3 hs.boy
            obtain ⟨t0, t1, t2⟩ := box3 hs.res
            obtain ⟨f0, f1, f2⟩ := box3f hs.res
            have S8 := Lib.hid hs
            clear hs
            go_wp2
            have hy := set3_row (a := .int .i64 k) (b := .int .i64 k) (c := .slice (some ⟨g2, 0, none⟩) N N) S8.out.res
            obtain ⟨y0, y1, y2⟩ := box3 hy
            exact bodyPost_ret (v := .tuple #[.agg #[.int .i64 k, .int .i64 k, .slice (some ⟨g2, 0, none⟩) N N], .nilIface]) (by simp [results, Try.results33, go_sem, y0, y1, y2]) rfl ⟨Or.inr ⟨HI.out.1, g2, B, HI.out.2, by unfold mval; rw [← HN.out], hg4, by
              have h9 := S8.out.row
              rw [HN.out, upF_full] at h9
              exact h9.fr ((((Fr.refl [w.heap.size + 1] _).setCell (Or.inl (by simp)) _).setCell (Or.inl (by simp)) _).setCell (Or.inl (by simp)) _) (by simp only [List.mem_singleton]; exact fun e => S8.out.res.ne S8.out.row.row (by decide) e.symm)⟩, set3_below S8.out.bel (by omega)⟩
end Go.Proofs.Ytbnfnijjldimkab
