/-
  The walks of the document's Invert.
-/
import Derived.Test.YtbnfnijjldimkabRm2
namespace Go.Proofs.Ytbnfnijjldimkab
open Go.RowKit
set_option linter.unusedVariables false
set_option linter.unusedSimpArgs false
theorem layF_zero (f : Nat → BitVec 8) (o : Nat) (of : Nat → BitVec 8) : layF f o 0 of = f := by
  funext j; unfold layF; rw [if_neg (by omega)]
theorem layF_succ (f : Nat → BitVec 8) (o n : Nat) (of : Nat → BitVec 8) : (fun j => if j = o + n then of n else layF f o n of j) = layF f o (n + 1) of := by
  funext j; unfold layF
  by_cases e : j = o + n
  · subst e; rw [if_pos rfl, if_pos ⟨by omega, by omega⟩, show o + n - o = n from by omega]
  · rw [if_neg e]
    by_cases h : o ≤ j ∧ j < o + n
    · rw [if_pos h, if_pos ⟨h.1, by omega⟩]
    · rw [if_neg h, if_neg (by omega)]
/-- what the document's Invert holds in its last loop -/
structure InvU (w0 : World) (b2 bx by_ g g2 N N2 : Nat) (LX LY sp : List Value) (f f2 : Nat → BitVec 8) (w : World) : Prop where
  res : Row w b2 71 [.int .i64 0, .int .i64 0, .slice none 0 0]
  box : Row w bx 71 LX
  boy : Row w by_ 71 LY
  src : Row w g 5 (ncells (tab N f) ++ sp)
  row : Row0 w g2 5 (ncells (tab N2 f2))
  bel : Below w0.heap.size w0 w
section
variable {w0 w w' : World} {b2 bx by_ g g2 N N2 : Nat} {LX LY sp : List Value} {f f2 f' : Nat → BitVec 8}
theorem InvU.after (h : InvU w0 b2 bx by_ g g2 N N2 LX LY sp f f2 w) (hb : Below w.heap.size w w') : InvU w0 b2 bx by_ g g2 N N2 LX LY sp f f2 w' :=
  ⟨h.res.after hb, h.box.after hb, h.boy.after hb, h.src.after hb, h.row.fr (Fr.of_below (L := []) hb) (by simp), h.bel.trans (hb.mono h.bel.size)⟩
theorem InvU.lay (h : InvU w0 b2 bx by_ g g2 N N2 LX LY sp f f2 w) (hr : Row0 w' g2 5 (ncells (tab N2 f'))) (hf : Fr [g2] w w') (hg : w0.heap.size ≤ g2) (hne : g ≠ g2) : InvU w0 b2 bx by_ g g2 N N2 LX LY sp f f' w' := by
  have h0 : b2 ∉ [g2] := by simp only [List.mem_singleton]; exact h.res.ne h.row.row (by decide)
  have h2 : bx ∉ [g2] := by simp only [List.mem_singleton]; exact h.box.ne h.row.row (by decide)
  have h3 : by_ ∉ [g2] := by simp only [List.mem_singleton]; exact h.boy.ne h.row.row (by decide)
  exact ⟨h.res.fr hf h0, h.box.fr hf h2, h.boy.fr hf h3, h.src.fr hf (by simpa using hne), hr, h.bel.trans (hf.below h.bel.size (fun i hi => by simp only [List.mem_singleton] at hi; omega))⟩
end
set_option maxRecDepth 100000 in
set_option maxHeartbeats 1600000 in
theorem rinvert_bad1 (r c : Int) (n cap : Nat) (a : Option Addr) (w : World) (hl : n ≤ maxLen) (h : rightB r c n = false) :
    Calls Try.prog 37 #[.agg #[.int .i64 r, .int .i64 c, .slice a n cap]] w fun e w' => e = .returned (.tuple #[nilMat, .int .i64 1]) ∧ Below w.heap.size w w' := by
  have S0 := Lib.hid (b2_start w (.int .i64 r) (.int .i64 c) (.slice a n cap))
  have HX := Lib.hid h
  clear h
  go_enter Try.func37, Try.ntmps37
  go_wp2_with (go_at_call 57; have h9 := S0.out; clear S0; refine (rright_gen r c n a cap _ hl).mono ?_; rintro e w1 ⟨rfl, hb⟩; rw [HX.out]; have hm := h9.after hb; obtain ⟨z0, z1, z2⟩ := box3 hm.res; obtain ⟨f0, f1, f2⟩ := box3f hm.res; have S1 := Lib.hid hm; clear h9 hb hm)
  have hy := set3_row (a := .int .i64 0) (b := .int .i64 0) (c := .slice none 0 0) S1.out.res
  obtain ⟨y0, y1, y2⟩ := box3 hy
  exact bodyPost_ret (v := .tuple #[.agg #[.int .i64 0, .int .i64 0, .slice none 0 0], .int .i64 1]) (by simp [results, Try.results37, go_sem, y0, y1, y2]) rfl ⟨rfl, set3_below S1.out.bel S1.out.le⟩
set_option maxRecDepth 100000 in
set_option maxHeartbeats 1600000 in
theorem rinvert_bad2 (r c : Int) (n cap : Nat) (a : Option Addr) (w : World) (hl : n ≤ maxLen) (h : rightB r c n = true) (hne : r ≠ c) :
    Calls Try.prog 37 #[.agg #[.int .i64 r, .int .i64 c, .slice a n cap]] w fun e w' => e = .returned (.tuple #[nilMat, .int .i64 19]) ∧ Below w.heap.size w w' := by
  have S0 := Lib.hid (b2_start w (.int .i64 r) (.int .i64 c) (.slice a n cap))
  have HX := Lib.hid h
  have hnb : (r != c) = true := by simpa using hne
  clear h hne
  go_enter Try.func37, Try.ntmps37
  go_wp2_with (go_at_call 57; have h9 := S0.out; clear S0; refine (rright_gen r c n a cap _ hl).mono ?_; rintro e w1 ⟨rfl, hb⟩; rw [HX.out]; have hm := h9.after hb; obtain ⟨x0, x1, x2⟩ := box3 hm.one; obtain ⟨z0, z1, z2⟩ := box3 hm.res; obtain ⟨f0, f1, f2⟩ := box3f hm.res; have S1 := Lib.hid hm; clear h9 hb hm)
  have hy := set3_row (a := .int .i64 0) (b := .int .i64 0) (c := .slice none 0 0) S1.out.res
  obtain ⟨y0, y1, y2⟩ := box3 hy
  exact bodyPost_ret (v := .tuple #[.agg #[.int .i64 0, .int .i64 0, .slice none 0 0], .int .i64 19]) (by simp [results, Try.results37, go_sem, y0, y1, y2]) rfl ⟨rfl, set3_below S1.out.bel S1.out.le⟩
/-- what the document's Invert answers of a square matrix -/
def RInvAns (w : World) (n : Nat) (A : Nat → Nat → BitVec 8) (e : Ending) (w' : World) : Prop :=
  ((¬ Inj n A ∧ e = .returned (.tuple #[nilMat, .int .i64 18])) ∨ (Inj n A ∧ ∃ g B, RInv n A B ∧ e = .returned (.tuple #[mval n n g, .int .i64 0]) ∧ w.heap.size ≤ g ∧ Row0 w' g 5 (ncells (mat n n B).cells))) ∧ Below w.heap.size w w'
set_option maxRecDepth 100000 in
set_option maxHeartbeats 6400000 in
theorem rinvert_ok (n ga oa N cap : Nat) (A : Nat → Nat → BitVec 8) (w : World) (n1 : 1 ≤ n) (n2 : n ≤ 255) (hN : N = n * n) (ha : MatRd w ga oa n n A) :
    Calls Try.prog 37 #[.agg #[.int .i64 n, .int .i64 n, .slice (some ⟨ga, oa, none⟩) N cap]] w fun e w' => RInvAns w n A e w' := by
  have hm := rightB_ok n1 n2 n1 n2 hN
  have q1 : N ≤ 255 * 255 := by rw [hN]; exact Nat.mul_le_mul n2 n2
  obtain ⟨m, hmm⟩ : ∃ m, m = n + n := ⟨_, rfl⟩
  obtain ⟨NN, hNN⟩ : ∃ x, x = n * m := ⟨_, rfl⟩
  have q2 : NN ≤ 255 * 510 := by rw [hNN]; exact Nat.mul_le_mul n2 (by omega)
  have e2 : (2 : Int) * (n : Int) = (m : Int) := by rw [hmm]; omega
  have m1 : n < m := by omega
  have m2 : m ≤ 510 := by omega
  have gal : ga < w.heap.size := rd_cell_lt (ha 0 0 (by omega) (by omega))
  have S0 := Lib.hid (b2_start w (.int .i64 n) (.int .i64 n) (.slice (some ⟨ga, oa, none⟩) N cap))
  have HX := Lib.hid hm
  have HN := Lib.hid hN
  have HM := Lib.hid hmm
  have HNN := Lib.hid hNN
  have HA := Lib.hid ha
  clear hm hN hmm hNN ha
  go_enter Try.func37, Try.ntmps37
  go_wp2_with (first
    | (go_at_call 57; have h9 := S0.out; clear S0; refine (rright_gen n n N _ cap _ (by unfold maxLen; omega)).mono ?_; rintro e w1 ⟨rfl, hb⟩; rw [HX.out]; have hm := h9.after hb; obtain ⟨x0, x1, x2⟩ := box3 hm.one; have S1 := Lib.hid hm; clear h9 hb hm)
    | (go_at_call 61; have h9 := S1.out; clear S1; refine (nought_any n m _ (by omega) m2).mono ?_; rintro e w2 ⟨g, rfl, hg, hrow, hb⟩; unfold mval; rw [← HNN.out] at hrow ⊢; have hg2 : w.heap.size ≤ g := Nat.le_trans h9.bel.size hg; have hm := h9.after hb; have hz := hm.bel.size; have S2 := Lib.hid (And.intro hm hrow); clear h9 hb hm hg hrow))
  have S3 : Hid (InvS w w.heap.size (w.heap.size + 1) w2.heap.size g ga oa n n NN A [.int .i64 n, .int .i64 n, .slice (some ⟨ga, oa, none⟩) N cap] [.int .i64 n, .int .i64 m, .slice (some ⟨g, 0, none⟩) NN NN] (augF n m A 0) (w2.alloc (.cells #[.int .i64 n, .int .i64 m, .slice (some ⟨g, 0, none⟩) NN NN] 71))) := by
    obtain ⟨hm, hrow⟩ := S2.out
    have hbl : Below w2.heap.size w2 (w2.alloc (.cells #[.int .i64 n, .int .i64 m, .slice (some ⟨g, 0, none⟩) NN NN] 71)) := (Below.refl _ _).alloc (Nat.le_refl _) _
    have hk := hm.after hbl
    refine Lib.hid ⟨hk.one, hk.res, Row.new _ _ _, ?_, fun i j hi hj => ?_, hk.bel⟩
    · rw [← augF_zero]; exact hrow.fr (Fr.of_below (L := []) hbl) (by simp)
    · exact (hk.bel.cell (p := ⟨ga, oa + i * n + j, none⟩) gal).trans (HA.out i j hi hj)
  clear S2 HA
  go_loopw [7] (fun i wr => ∃ k : Nat, k ≤ n ∧ i = .int .i64 k ∧ InvS w w.heap.size (w.heap.size + 1) w2.heap.size g ga oa n n NN A [.int .i64 n, .int .i64 n, .slice (some ⟨ga, oa, none⟩) N cap] [.int .i64 n, .int .i64 m, .slice (some ⟨g, 0, none⟩) NN NN] (augF n m A k) wr) (fun i _ => n - (intOf i).toNat)
  case atStart => exact ⟨0, by omega, rfl, S3.out⟩
  case round =>
    clear S3
    obtain ⟨k, hk, rfl, hs⟩ := hrel
    by_cases hlt : k < n
    · obtain ⟨qw, hqw⟩ : ∃ q, q = k * m := ⟨_, rfl⟩
      obtain ⟨qa, hqa⟩ : ∃ q, q = k * n := ⟨_, rfl⟩
      have bw := mul_row hlt HNN.out hqw
      have ba := mul_row hlt HN.out hqa
      have ea : (k : Int) * (n : Int) = (qa : Int) := by rw [hqa]; simp
      have ew : (k : Int) * 2 * (n : Int) = (qw : Int) := by rw [hqw, HM.out, Int.natCast_mul, Int.natCast_add, Int.mul_assoc, Int.two_mul]
      have HQW := Lib.hid hqw
      have HQA := Lib.hid hqa
      have S4 := Lib.hid hs
      clear hs hqw hqa
      go_wp2
      obtain ⟨wo, rfl⟩ : ∃ wo : World, wo = wr := ⟨_, rfl⟩
      go_loopw [8] (fun i wr => ∃ l : Nat, l ≤ n ∧ i = .int .i64 l ∧ InvS w w.heap.size (w.heap.size + 1) w2.heap.size g ga oa n n NN A [.int .i64 n, .int .i64 n, .slice (some ⟨ga, oa, none⟩) N cap] [.int .i64 n, .int .i64 m, .slice (some ⟨g, 0, none⟩) NN NN] (layF (augF n m A k) qw l (A k)) wr) (fun i _ => n - (intOf i).toNat)
      case atStart => exact ⟨0, by omega, rfl, by rw [layF_zero]; exact S4.out⟩
      case round =>
        clear S4
        obtain ⟨l, hl, rfl, hs⟩ := hrel
        obtain ⟨x0, x1, x2⟩ := box3 hs.box
        by_cases hlt2 : l < n
        · obtain ⟨u0, u1, u2⟩ := box3 hs.one
          have ca := hs.src k l hlt hlt2
          rw [Nat.add_assoc, ← HQA.out] at ca
          have d1 : qw + l < NN := by omega
          have d2 : qa + l < N := by omega
          have fw := tab0_free (i := qw + l) hs.row d1
          have cw := tab0_cell (i := qw + l) hs.row d1
          have hs2 := hs.lay (tab0_store (i := qw + l) hs.row (A k l)) ((Fr.refl _ _).setCell (Or.inl (by simp)) _) hg2 gal
          have S5 := Lib.hid hs2
          clear hs hs2
          go_wp2_with fail
          have wb1 : 0 ≤ (qa : Int) + (l : Int) ∧ (qa : Int) + (l : Int) < (N : Int) := by omega
          have wb2 : 0 ≤ (qw : Int) + (l : Int) ∧ (qw : Int) + (l : Int) < (NN : Int) := by omega
          have wt1 : ((qa : Int) + (l : Int)).toNat = qa + l := by omega
          have wt2 : ((qw : Int) + (l : Int)).toNat = qw + l := by omega
          have wk2 := IntWalk.i64_in ((k : Int) * 2) (by omega)
          have wa1 := IntWalk.i64_in (qa : Int) (by omega)
          have wa2 := IntWalk.i64_in (qw : Int) (by omega)
          have ws1 := IntWalk.i64_in ((qa : Int) + (l : Int)) (by omega)
          have ws2 := IntWalk.i64_in ((qw : Int) + (l : Int)) (by omega)
          go_still_tail 18, (by kernel_rfl)
          clear wb1 wb2 wt1 wt2 wk2 wa1 wa2 ws1 ws2
          change wpList _ _ _ _ _ wr.drew
          go_wp2
          go_roundw
          case measure => simp [intOf]; omega
          case rel =>
            refine ⟨l + 1, by omega, by go_num, ?_⟩
            have h9 := S5.out.after (Below.refl _ _).drew
            rw [layF_succ] at h9
            exact h9
        · obtain rfl : l = n := by omega
          have d1 : qw + (l + k) < NN := by omega
          have d3 : qw + l + k < NN := by omega
          have fw := tab0_free (i := qw + l + k) hs.row d3
          have cw := tab0_cell (i := qw + l + k) hs.row d3
          have hs2 := hs.lay (tab0_store (i := qw + l + k) hs.row 1#8) ((Fr.refl _ _).setCell (Or.inl (by simp)) _) hg2 gal
          have S5 := Lib.hid hs2
          clear hs hs2
          go_wp2
          go_roundw
          case measure => simp [intOf]; omega
          case rel =>
            refine ⟨k + 1, by omega, by go_num, ?_⟩
            have h9 := S5.out
            have e9 := augF_step l m A k HM.out hlt
            rw [← HQW.out, ← Nat.add_assoc] at e9
            rw [e9, nv_one] at h9
            exact h9
    · obtain rfl : k = n := by omega
      have hs2 : InvS w w.heap.size (w.heap.size + 1) w2.heap.size g ga oa k k NN A [.int .i64 k, .int .i64 k, .slice (some ⟨ga, oa, none⟩) N cap] [.int .i64 k, .int .i64 m, .slice (some ⟨g, 0, none⟩) NN NN] (tb m (aug k A)) wr := ⟨hs.one, hs.res, hs.box, by have h9 := hs.row; rw [HNN.out, augF_full, ← HNN.out] at h9; exact h9, hs.src, hs.bel⟩
      obtain ⟨x0, x1, x2⟩ := box3 hs2.box
      have S4 := Lib.hid hs2
      clear hs hs2
      go_wp2_with fail
      have h9 := S4.out
      clear S4
      refine (down_any k m k g 0 NN NN (aug k A) _ n1 n2 (by omega) m2 HNN.out (by omega) (fun i j hi hj => by
        have := idx_lt hi hj
        rw [Nat.zero_add, tab0_cell (i := i * m + j) h9.row (by rw [HNN.out]; exact this), tb_at _ _ _ hj])).mono ?_
      rintro e w5 ⟨g3, cap3, sp, l, M', j, p, rfl, hg3, hcap3, hr, hb, hgood, hj, hend, hker⟩
      have hres := h9.res.after hb
      have hbox := h9.box.after hb
      have hbel := h9.bel.trans (hb.mono h9.bel.size)
      have hle := hgood.le
      have hr0 : w.heap.size + 1 < wr.heap.size := h9.res.lt
      have hx0 : w2.heap.size < wr.heap.size := h9.box.lt
      have hr5 := hr.lt
      have hk8 : ∀ x, Ker k (k + k) M' x ↔ Ker k (k + k) (aug k A) x := by rw [← HM.out]; exact hker
      clear h9 hker hb
      obtain ⟨b0, b1, b2⟩ := box3 hbox
      obtain ⟨c0, c1, c2⟩ := box3f hbox
      have hbox2 := set3_row (a := .int .i64 k) (b := .int .i64 m) (c := .slice (some ⟨g3, 0, none⟩) NN cap3) hbox
      have hne3 : g3 ≠ w2.heap.size := by omega
      have hne4 : w.heap.size + 1 ≠ w2.heap.size := by
        intro e
        have := hz
        have hk := hbox2.cell (j := 0) rfl
        have hres2 := hres.cell (j := 0) rfl
        rw [e] at hres2
        rw [b0] at hres2
        simp only [Option.some.injEq, Value.int.injEq, true_and] at hres2
        omega
      have hres2 := set3_other (a := .int .i64 k) (b := .int .i64 m) (c := .slice (some ⟨g3, 0, none⟩) NN cap3) hres hne4
      have hr2 := set3_other (a := .int .i64 k) (b := .int .i64 m) (c := .slice (some ⟨g3, 0, none⟩) NN cap3) hr hne3
      have hbel2 := set3_below (g := w2.heap.size) (a := .int .i64 k) (b := .int .i64 m) (c := .slice (some ⟨g3, 0, none⟩) NN cap3) hbel hz
      by_cases hlt2 : l < k
      · have hj2 : j = k := by omega
        have hS : ¬ Inj k A := by rw [hj2] at hgood; exact good_singular hgood hlt2 hk8
        have HS := Lib.hid hS
        obtain ⟨t0, t1, t2⟩ := box3 hres2
        obtain ⟨f0, f1, f2⟩ := box3f hres2
        have S5 := Lib.hid (And.intro hres2 hbel2)
        clear hres hbox hbel hr hgood hend hk8 hS hj2 hbox2 hr2 hres2 hbel2
        go_wp2
        have hy := set3_row (a := .int .i64 0) (b := .int .i64 0) (c := .slice none 0 0) S5.out.1
        obtain ⟨y0, y1, y2⟩ := box3 hy
        exact bodyPost_ret (v := .tuple #[.agg #[.int .i64 0, .int .i64 0, .slice none 0 0], .int .i64 18]) (by simp [results, Try.results37, go_sem, y0, y1, y2]) rfl ⟨Or.inl ⟨HS.out, rfl⟩, set3_below S5.out.2 (by omega)⟩
      · have hl : l = k := by omega
        subst hl
        have hI := good_inverse hgood (by omega) hk8
        obtain ⟨B, hB⟩ : ∃ B, B = fun i c => M' i (l + c) := ⟨_, rfl⟩
        rw [← hB] at hI
        have HI := Lib.hid hI
        have HB := Lib.hid hB
        have S5 := Lib.hid (And.intro hres2 (And.intro hbox2 (And.intro hr2 hbel2)))
        clear hres hbox hbel hr hgood hend hk8 hI hB hj hbox2 hr2 hres2 hbel2
        go_wp2_with (go_at_call 61; have h9 := S5.out; clear S5; refine (nought_any l l _ (by omega) (by omega)).mono ?_; rintro e w6 ⟨g2, rfl, hg4, hrow, hb⟩; unfold mval; rw [← HN.out] at hrow ⊢; have hsz := h9.2.2.2.size; have hg5 : w.heap.size ≤ g2 := Nat.le_trans hsz hg4; have hne : g3 ≠ g2 := (by have := h9.2.2.1.lt; omega); have hz6 := hb.size; have S6 := Lib.hid (And.intro (h9.1.after hb) (And.intro (h9.2.1.after hb) (And.intro (h9.2.2.1.after hb) (And.intro hrow (h9.2.2.2.trans (hb.mono h9.2.2.2.size)))))); clear h9 hb hg4 hrow)
        have S7 : Hid (InvU w (w.heap.size + 1) w2.heap.size w6.heap.size g3 g2 NN N [.int .i64 l, .int .i64 m, .slice (some ⟨g3, 0, none⟩) NN cap3] [.int .i64 l, .int .i64 l, .slice (some ⟨g2, 0, none⟩) N N] sp (tb m M') (upF l B (0 * l)) (w6.alloc (.cells #[.int .i64 l, .int .i64 l, .slice (some ⟨g2, 0, none⟩) N N] 71))) := by
          obtain ⟨k1, k2, k3, k4, k5⟩ := S6.out
          have hbl : Below w6.heap.size w6 (w6.alloc (.cells #[.int .i64 l, .int .i64 l, .slice (some ⟨g2, 0, none⟩) N N] 71)) := (Below.refl _ _).alloc (Nat.le_refl _) _
          refine Lib.hid ⟨k1.after hbl, k2.after hbl, Row.new _ _ _, k3.after hbl, ?_, k5.trans (hbl.mono k5.size)⟩
          rw [Nat.zero_mul, ← upF_zero]; exact k4.fr (Fr.of_below (L := []) hbl) (by simp)
        clear S6 b0 b1 b2 c0 c1 c2 x0 x1 x2
        go_loopw [11] (fun i wr => ∃ k : Nat, k ≤ l ∧ i = .int .i64 k ∧ InvU w (w.heap.size + 1) w2.heap.size w6.heap.size g3 g2 NN N [.int .i64 l, .int .i64 m, .slice (some ⟨g3, 0, none⟩) NN cap3] [.int .i64 l, .int .i64 l, .slice (some ⟨g2, 0, none⟩) N N] sp (tb m M') (upF l B (k * l)) wr) (fun i _ => l - (intOf i).toNat)
        case atStart => exact ⟨0, by omega, rfl, S7.out⟩
        case round =>
          clear S7
          obtain ⟨k, hk, rfl, hs⟩ := hrel
          by_cases hlt : k < l
          · obtain ⟨qw, hqw⟩ : ∃ q, q = k * m := ⟨_, rfl⟩
            obtain ⟨qc, hqc⟩ : ∃ q, q = k * l := ⟨_, rfl⟩
            have bw := mul_row hlt HNN.out hqw
            have bc := mul_row hlt HN.out hqc
            have ec : (k : Int) * (l : Int) = (qc : Int) := by rw [hqc]; simp
            have ew : (k : Int) * 2 * (l : Int) = (qw : Int) := by rw [hqw, HM.out, Int.natCast_mul, Int.natCast_add, Int.mul_assoc, Int.two_mul]
            have HQW := Lib.hid hqw
            have HQC := Lib.hid hqc
            have S8 := Lib.hid hs
            clear hs hqw hqc
            go_wp2
            obtain ⟨wz, rfl⟩ : ∃ wo : World, wo = wr := ⟨_, rfl⟩
            go_loopw [12] (fun i wr => ∃ h : Nat, h ≤ l ∧ i = .int .i64 h ∧ InvU w (w.heap.size + 1) w2.heap.size w6.heap.size g3 g2 NN N [.int .i64 l, .int .i64 m, .slice (some ⟨g3, 0, none⟩) NN cap3] [.int .i64 l, .int .i64 l, .slice (some ⟨g2, 0, none⟩) N N] sp (tb m M') (upF l B (k * l + h)) wr) (fun i _ => l - (intOf i).toNat)
            case atStart => exact ⟨0, by omega, rfl, S8.out⟩
            case round =>
              clear S8
              obtain ⟨h, hh, rfl, hs⟩ := hrel
              by_cases hhl : h < l
              · obtain ⟨x0, x1, x2⟩ := box3 hs.box
                obtain ⟨u0, u1, u2⟩ := box3 hs.boy
                have d1 : qc + h < N := by omega
                have d2 : qw + l + h < NN := by omega
                have cs := tab_cell (i := qw + l + h) hs.src d2
                rw [Nat.add_assoc, HQW.out, tb_at M' k (l + h) (by omega), ← HQW.out, ← Nat.add_assoc] at cs
                have hBv : M' k (l + h) = B k h := by rw [HB.out]
                rw [hBv] at cs
                have fc := tab0_free (i := qc + h) hs.row d1
                have cc := tab0_cell (i := qc + h) hs.row d1
                have hs2 := hs.lay (tab0_store (i := qc + h) hs.row (B k h)) ((Fr.refl _ _).setCell (Or.inl (by simp)) _) hg5 hne
                have S9 := Lib.hid hs2
                clear hs hs2 hBv
                go_wp2_with fail
                have wb1 : 0 ≤ (qc : Int) + (h : Int) ∧ (qc : Int) + (h : Int) < (N : Int) := by omega
                have wb2 : 0 ≤ (qw : Int) + (l : Int) + (h : Int) ∧ (qw : Int) + (l : Int) + (h : Int) < (NN : Int) := by omega
                have wt1 : ((qc : Int) + (h : Int)).toNat = qc + h := by omega
                have wt2 : ((qw : Int) + (l : Int) + (h : Int)).toNat = qw + l + h := by omega
                have wk2 := IntWalk.i64_in ((k : Int) * 2) (by omega)
                have wa1 := IntWalk.i64_in (qc : Int) (by omega)
                have wa2 := IntWalk.i64_in (qw : Int) (by omega)
                have ws1 := IntWalk.i64_in ((qc : Int) + (h : Int)) (by omega)
                have ws3 := IntWalk.i64_in ((qw : Int) + (l : Int)) (by omega)
                have ws2 := IntWalk.i64_in ((qw : Int) + (l : Int) + (h : Int)) (by omega)
                go_still_tail 20, (by kernel_rfl)
                clear wb1 wb2 wt1 wt2 wk2 wa1 wa2 ws1 ws2 ws3
                change wpList _ _ _ _ _ wr.drew
                go_wp2
                go_roundw
                case measure => simp [intOf]; omega
                case rel =>
                  refine ⟨h + 1, by omega, by go_num, ?_⟩
                  have h9 := S9.out.after (Below.refl _ _).drew
                  have e9 := upF_succ l B k h hhl
                  rw [← HQC.out] at e9 h9
                  rw [e9] at h9
                  rw [← HQC.out]
                  exact h9
              · obtain rfl : h = l := by omega
                have S9 := Lib.hid hs
                clear hs
                go_wp2
                go_roundw
                case measure => simp [intOf]; omega
                case rel => exact ⟨k + 1, by omega, by go_num, by rw [Nat.add_mul, Nat.one_mul]; exact S9.out⟩
          · obtain rfl : k = l := by omega
            obtain ⟨x0, x1, x2⟩ := box3 hs.boy
            obtain ⟨t0, t1, t2⟩ := box3 hs.res
            obtain ⟨f0, f1, f2⟩ := box3f hs.res
            have S8 := Lib.hid hs
            clear hs
            go_wp2
            have hy := set3_row (a := .int .i64 k) (b := .int .i64 k) (c := .slice (some ⟨g2, 0, none⟩) N N) S8.out.res
            obtain ⟨y0, y1, y2⟩ := box3 hy
            exact bodyPost_ret (v := .tuple #[.agg #[.int .i64 k, .int .i64 k, .slice (some ⟨g2, 0, none⟩) N N], .int .i64 0]) (by simp [results, Try.results37, go_sem, y0, y1, y2]) rfl ⟨Or.inr ⟨HI.out.1, g2, B, HI.out.2, by unfold mval; rw [← HN.out], hg5, by
              have h9 := S8.out.row
              rw [HN.out, upF_full] at h9
              exact h9.fr ((((Fr.refl [w.heap.size + 1] _).setCell (Or.inl (by simp)) _).setCell (Or.inl (by simp)) _).setCell (Or.inl (by simp)) _) (by simp only [List.mem_singleton]; exact fun e => S8.out.res.ne S8.out.row.row (by decide) e.symm)⟩, set3_below S8.out.bel (by omega)⟩
end Go.Proofs.Ytbnfnijjldimkab
