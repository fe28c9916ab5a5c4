/-
  The walks of matrix.Under.
-/
import Derived.Test.YtbnfnijjldimkabMpick
namespace Go.Proofs.Ytbnfnijjldimkab
open Go.RowKit
set_option linter.unusedVariables false
set_option linter.unusedSimpArgs false
set_option maxRecDepth 100000 in
set_option maxHeartbeats 3200000 in
theorem under_bad1 (ar ac br bc : Int) (an bn acap bcap : Nat) (aa ba : Option Addr) (w : World) (hal : an ≤ maxLen) (hbl : bn ≤ maxLen) (h : rightB ar ac an = false ∨ rightB br bc bn = false ∨ 255 < ar + br) :
    Calls Try.prog 50 #[.agg #[.int .i64 ar, .int .i64 ac, .slice aa an acap], .agg #[.int .i64 br, .int .i64 bc, .slice ba bn bcap]] w fun e w' => ∃ ev, e = .returned (.tuple #[nilMat, ev]) ∧ ErrAt w.heap.size w' ev 1 ∧ Below w.heap.size w w' := by
  have hx : rightB ar ac an = false ∨ (rightB ar ac an = true ∧ rightB br bc bn = false) ∨ (rightB ar ac an = true ∧ rightB br bc bn = true ∧ 255 < ar + br) := by
    cases h1 : rightB ar ac an
    · exact Or.inl rfl
    · cases h2 : rightB br bc bn
      · exact Or.inr (Or.inl ⟨rfl, rfl⟩)
      · rw [h1, h2] at h
        rcases h with h | h | h
        · cases h
        · cases h
        · exact Or.inr (Or.inr ⟨rfl, rfl, h⟩)
  clear h
  have S0 := Lib.hid (m3_start w (.int .i64 ar) (.int .i64 ac) (.slice aa an acap) (.int .i64 br) (.int .i64 bc) (.slice ba bn bcap))
  rcases hx with hx | ⟨hx, hx2⟩ | ⟨hx, hx2, hx3⟩
  · have HX := Lib.hid hx
    clear hx
    go_enter Try.func50, Try.ntmps50
    go_wp2_with (first
      | (go_at_call 51; have h9 := S0.out; clear S0; refine (right_gen ar ac an aa acap _ hal).mono ?_; rintro e w1 ⟨rfl, hb⟩; rw [HX.out]; have S1 := Lib.hid (h9.after hb); clear h9 hb)
      | (go_at_call 52; have h9 := S1.out; clear S1; refine (fault_any 1 (by decide) _).mono ?_; rintro e w2 ⟨ev, rfl, he, hb⟩; have hm := h9.after hb; obtain ⟨x0, x1, x2⟩ := box3 hm.res; obtain ⟨f0, f1, f2⟩ := box3f hm.res; have S2 := Lib.hid (And.intro hm (And.intro he h9.res.lt)); clear h9 hb hm he))
    have hy := set3_row (a := .int .i64 0) (b := .int .i64 0) (c := .slice none 0 0) S2.out.1.res
    obtain ⟨y0, y1, y2⟩ := box3 hy
    exact bodyPost_ret (v := .tuple #[.agg #[.int .i64 0, .int .i64 0, .slice none 0 0], ev]) (by simp [results, Try.results50, go_sem, y0, y1, y2]) rfl ⟨ev, rfl, (set3_err S2.out.2.1 S2.out.2.2).mono (by have := S2.out.2.2; omega), set3_below S2.out.1.bel (by omega)⟩
  · have HX := Lib.hid hx
    have HX2 := Lib.hid hx2
    clear hx hx2
    go_enter Try.func50, Try.ntmps50
    go_wp2_with (first
      | (go_at_call 51; have h9 := S0.out; clear S0; refine (right_gen ar ac an aa acap _ hal).mono ?_; rintro e w1 ⟨rfl, hb⟩; rw [HX.out]; have hm := h9.after hb; obtain ⟨x0, x1, x2⟩ := box3 hm.two; have S1 := Lib.hid hm; clear h9 hb hm)
      | (go_at_call 51; have h9 := S1.out; clear S1; refine (right_gen br bc bn ba bcap _ hbl).mono ?_; rintro e w1 ⟨rfl, hb⟩; rw [HX2.out]; have S2 := Lib.hid (h9.after hb); clear h9 hb)
      | (go_at_call 52; have h9 := S2.out; clear S2; refine (fault_any 1 (by decide) _).mono ?_; rintro e w2 ⟨ev, rfl, he, hb⟩; have hm := h9.after hb; obtain ⟨z0, z1, z2⟩ := box3 hm.res; obtain ⟨f0, f1, f2⟩ := box3f hm.res; have S3 := Lib.hid (And.intro hm (And.intro he h9.res.lt)); clear h9 hb hm he))
    have hy := set3_row (a := .int .i64 0) (b := .int .i64 0) (c := .slice none 0 0) S3.out.1.res
    obtain ⟨y0, y1, y2⟩ := box3 hy
    exact bodyPost_ret (v := .tuple #[.agg #[.int .i64 0, .int .i64 0, .slice none 0 0], ev]) (by simp [results, Try.results50, go_sem, y0, y1, y2]) rfl ⟨ev, rfl, (set3_err S3.out.2.1 S3.out.2.2).mono (by have := S3.out.2.2; omega), set3_below S3.out.1.bel (by omega)⟩
  · obtain ⟨a1, a2, rfl, rfl, m1, m2, m3, m4, m5⟩ := rightB_out hx
    obtain ⟨b1, b2, rfl, rfl, k1, k2, k3, k4, k5⟩ := rightB_out hx2
    have HX := Lib.hid hx
    have HX2 := Lib.hid hx2
    clear hx hx2 m5 k5
    go_enter Try.func50, Try.ntmps50
    go_wp2_with (first
      | (go_at_call 51; have h9 := S0.out; clear S0; refine (right_gen _ _ an aa acap _ hal).mono ?_; rintro e w1 ⟨rfl, hb⟩; rw [HX.out]; have hm := h9.after hb; obtain ⟨x0, x1, x2⟩ := box3 hm.two; have S1 := Lib.hid hm; clear h9 hb hm)
      | (go_at_call 51; have h9 := S1.out; clear S1; refine (right_gen _ _ bn ba bcap _ hbl).mono ?_; rintro e w1 ⟨rfl, hb⟩; rw [HX2.out]; have hm := h9.after hb; obtain ⟨u0, u1, u2⟩ := box3 hm.one; obtain ⟨t0, t1, t2⟩ := box3 hm.two; have S2 := Lib.hid hm; clear h9 hb hm)
      | (go_at_call 52; have h9 := S2.out; clear S2; refine (fault_any 1 (by decide) _).mono ?_; rintro e w2 ⟨ev, rfl, he, hb⟩; have hm := h9.after hb; obtain ⟨z0, z1, z2⟩ := box3 hm.res; obtain ⟨f0, f1, f2⟩ := box3f hm.res; have S3 := Lib.hid (And.intro hm (And.intro he h9.res.lt)); clear h9 hb hm he))
    have hy := set3_row (a := .int .i64 0) (b := .int .i64 0) (c := .slice none 0 0) S3.out.1.res
    obtain ⟨y0, y1, y2⟩ := box3 hy
    exact bodyPost_ret (v := .tuple #[.agg #[.int .i64 0, .int .i64 0, .slice none 0 0], ev]) (by simp [results, Try.results50, go_sem, y0, y1, y2]) rfl ⟨ev, rfl, (set3_err S3.out.2.1 S3.out.2.2).mono (by have := S3.out.2.2; omega), set3_below S3.out.1.bel (by omega)⟩
set_option maxRecDepth 100000 in
set_option maxHeartbeats 1600000 in
theorem under_bad2 (r1 c1 r2 c2 an bn acap bcap : Nat) (aa ba : Option Addr) (w : World) (a1 : 1 ≤ r1) (a3 : 1 ≤ c1) (a4 : c1 ≤ 255) (b1 : 1 ≤ r2) (b3 : 1 ≤ c2) (b4 : c2 ≤ 255) (hrr : r1 + r2 ≤ 255) (han : an = r1 * c1) (hbn : bn = r2 * c2) (hne : c1 ≠ c2) :
    Calls Try.prog 50 #[.agg #[.int .i64 r1, .int .i64 c1, .slice aa an acap], .agg #[.int .i64 r2, .int .i64 c2, .slice ba bn bcap]] w fun e w' => ∃ ev, e = .returned (.tuple #[nilMat, ev]) ∧ ErrAt w.heap.size w' ev 19 ∧ Below w.heap.size w w' := by
  have q1 : an ≤ 255 * 255 := by rw [han]; exact Nat.mul_le_mul (by omega) a4
  have q2 : bn ≤ 255 * 255 := by rw [hbn]; exact Nat.mul_le_mul (by omega) b4
  have S0 := Lib.hid (m3_start w (.int .i64 r1) (.int .i64 c1) (.slice aa an acap) (.int .i64 r2) (.int .i64 c2) (.slice ba bn bcap))
  have HX := Lib.hid (rightB_ok a1 (by omega) a3 a4 han)
  have HX2 := Lib.hid (rightB_ok b1 (by omega) b3 b4 hbn)
  have hnb : ((c1 : Int) != (c2 : Int)) = true := by simp; omega
  have i0 : (r1 : Int) + (r2 : Int) ≤ 255 := by omega
  clear han hbn
  go_enter Try.func50, Try.ntmps50
  go_wp2_with (first
    | (go_at_call 51; have h9 := S0.out; clear S0; refine (right_gen _ _ an aa acap _ (by unfold maxLen; omega)).mono ?_; rintro e w1 ⟨rfl, hb⟩; rw [HX.out]; have hm := h9.after hb; obtain ⟨x0, x1, x2⟩ := box3 hm.two; have S1 := Lib.hid hm; clear h9 hb hm)
    | (go_at_call 51; have h9 := S1.out; clear S1; refine (right_gen _ _ bn ba bcap _ (by unfold maxLen; omega)).mono ?_; rintro e w1 ⟨rfl, hb⟩; rw [HX2.out]; have hm := h9.after hb; obtain ⟨u0, u1, u2⟩ := box3 hm.one; obtain ⟨t0, t1, t2⟩ := box3 hm.two; have S2 := Lib.hid hm; clear h9 hb hm)
    | (go_at_call 52; have h9 := S2.out; clear S2; refine (fault_any 19 (by decide) _).mono ?_; rintro e w2 ⟨ev, rfl, he, hb⟩; have hm := h9.after hb; obtain ⟨z0, z1, z2⟩ := box3 hm.res; obtain ⟨f0, f1, f2⟩ := box3f hm.res; have S3 := Lib.hid (And.intro hm (And.intro he h9.res.lt)); clear h9 hb hm he))
  have hy := set3_row (a := .int .i64 0) (b := .int .i64 0) (c := .slice none 0 0) S3.out.1.res
  obtain ⟨y0, y1, y2⟩ := box3 hy
  exact bodyPost_ret (v := .tuple #[.agg #[.int .i64 0, .int .i64 0, .slice none 0 0], ev]) (by simp [results, Try.results50, go_sem, y0, y1, y2]) rfl ⟨ev, rfl, (set3_err S3.out.2.1 S3.out.2.2).mono (by have := S3.out.2.2; omega), set3_below S3.out.1.bel (by omega)⟩
/-- one matrix under another -/
def undM (r : Nat) (A B : Nat → Nat → BitVec 8) (i j : Nat) : BitVec 8 := if i < r then A i j else B (i - r) j
theorem undM_lay (r s c : Nat) (A B : Nat → Nat → BitVec 8) (hc : 1 ≤ c) : tab ((r + s) * c) (layF (layF (fun _ => 0#8) 0 (r * c) (tb c A)) (r * c) (s * c) (tb c B)) = (mat (r + s) c (undM r A B)).cells := by
  rw [tb_cells]
  refine tab_congr fun j hj => ?_
  rw [Nat.add_mul] at hj
  unfold layF tb undM
  by_cases h : j < r * c
  · rw [if_neg (by omega), if_pos ⟨by omega, by omega⟩, Nat.sub_zero, if_pos (row_lt h)]
  · rw [if_pos ⟨by omega, by omega⟩]
    obtain ⟨m, rfl⟩ : ∃ m, j = r * c + m := ⟨j - r * c, by omega⟩
    have hc0 : 0 < c := by omega
    have e1 : (r * c + m) / c = r + m / c := by rw [Nat.mul_comm, Nat.mul_add_div hc0]
    have e2 : (r * c + m) % c = m % c := by rw [Nat.mul_comm, Nat.mul_add_mod]
    rw [show r * c + m - r * c = m from by omega, e1, e2, if_neg (by have := Nat.le_add_right r (m / c); exact Nat.not_lt.2 this), Nat.add_sub_cancel_left]
/-- what Under holds -/
structure UndS (w0 : World) (b0 b1 b2 bx g N : Nat) (LA LB LX : List Value) (f : Nat → BitVec 8) (w : World) : Prop where
  m3 : M3 w0 b0 b1 b2 LA LB w
  box : Row w bx 71 LX
  row : Row0 w g 5 (ncells (tab N f))
theorem UndS.lay {w0 w w' : World} {b0 b1 b2 bx g N : Nat} {LA LB LX : List Value} {f f' : Nat → BitVec 8} (h : UndS w0 b0 b1 b2 bx g N LA LB LX f w) (hr : Row0 w' g 5 (ncells (tab N f'))) (hf : Fr [g] w w') (hg : w0.heap.size ≤ g) : UndS w0 b0 b1 b2 bx g N LA LB LX f' w' := by
  have h0 : b0 ∉ [g] := by simp only [List.mem_singleton]; exact h.m3.one.ne h.row.row (by decide)
  have h1 : b1 ∉ [g] := by simp only [List.mem_singleton]; exact h.m3.two.ne h.row.row (by decide)
  have h2 : b2 ∉ [g] := by simp only [List.mem_singleton]; exact h.m3.res.ne h.row.row (by decide)
  have h3 : bx ∉ [g] := by simp only [List.mem_singleton]; exact h.box.ne h.row.row (by decide)
  exact ⟨⟨h.m3.one.fr hf h0, h.m3.two.fr hf h1, h.m3.res.fr hf h2, h.m3.bel.trans (hf.below h.m3.bel.size (fun i hi => by simp only [List.mem_singleton] at hi; omega)), h.m3.le⟩, h.box.fr hf h3, hr⟩
set_option maxRecDepth 100000 in
set_option maxHeartbeats 3200000 in
theorem under_ok (r s c ga oa gb ob an bn acap bcap : Nat) (A B : Nat → Nat → BitVec 8) (w : World) (a1 : 1 ≤ r) (c1 : 1 ≤ c) (c2 : c ≤ 255) (b1 : 1 ≤ s) (hrr : r + s ≤ 255) (han : an = r * c) (hbn : bn = s * c) (ha : MatRd w ga oa r c A) (hb : MatRd w gb ob s c B) :
    Calls Try.prog 50 #[.agg #[.int .i64 r, .int .i64 c, .slice (some ⟨ga, oa, none⟩) an acap], .agg #[.int .i64 s, .int .i64 c, .slice (some ⟨gb, ob, none⟩) bn bcap]] w fun e w' => ∃ g, e = .returned (.tuple #[mval (r + s) c g, .nilIface]) ∧ w.heap.size ≤ g ∧ Row0 w' g 5 (ncells (mat (r + s) c (undM r A B)).cells) ∧ Below w.heap.size w w' := by
  have q1 : an ≤ 255 * 255 := by rw [han]; exact Nat.mul_le_mul (by omega) c2
  have q2 : bn ≤ 255 * 255 := by rw [hbn]; exact Nat.mul_le_mul (by omega) c2
  have q3 : 0 < bn := by rw [hbn]; exact Nat.mul_pos (by omega) (by omega)
  obtain ⟨R, hR⟩ : ∃ R, R = r + s := ⟨_, rfl⟩
  obtain ⟨NN, hNN⟩ : ∃ x, x = R * c := ⟨_, rfl⟩
  have hNNs : NN = an + bn := by rw [hNN, hR, Nat.add_mul, ← han, ← hbn]
  have gal : ga < w.heap.size := rd_cell_lt (ha 0 0 (by omega) (by omega))
  have gbl : gb < w.heap.size := rd_cell_lt (hb 0 0 (by omega) (by omega))
  have S0 := Lib.hid (m3_start w (.int .i64 r) (.int .i64 c) (.slice (some ⟨ga, oa, none⟩) an acap) (.int .i64 s) (.int .i64 c) (.slice (some ⟨gb, ob, none⟩) bn bcap))
  have HX := Lib.hid (rightB_ok a1 (by omega) c1 c2 han)
  have HX2 := Lib.hid (rightB_ok b1 (by omega) c1 c2 hbn)
  have i0 : (r : Int) + (s : Int) ≤ 255 := by omega
  have e0 : (r : Int) + (s : Int) = (R : Int) := by rw [hR]; omega
  have i1 : (R : Int) ≤ 255 := by omega
  unfold mval
  rw [← hR]
  rw [← hNN]
  have hd1 : NN - an = bn := by omega
  have HD := Lib.hid hd1
  have j1 : an < NN := by omega
  have j3 : an ≤ NN := by omega
  have j4 : ¬ NN = an := by omega
  have j2 : NN ≤ 255 * 255 + 255 * 255 := by omega
  have HR := Lib.hid hR
  have HNN := Lib.hid hNN
  have HNNs := Lib.hid hNNs
  have HAN := Lib.hid han
  have HBN := Lib.hid hbn
  have HA := Lib.hid ha
  have HB := Lib.hid hb
  clear hR hNN hNNs han hbn ha hb hd1
  go_enter Try.func50, Try.ntmps50
  go_wp2_with (first
    | (go_at_call 51; have h9 := S0.out; clear S0; refine (right_gen _ _ an _ acap _ (by unfold maxLen; omega)).mono ?_; rintro e w1 ⟨rfl, hb⟩; rw [HX.out]; have hm := h9.after hb; obtain ⟨x0, x1, x2⟩ := box3 hm.two; have S1 := Lib.hid hm; clear h9 hb hm)
    | (go_at_call 51; have h9 := S1.out; clear S1; refine (right_gen _ _ bn _ bcap _ (by unfold maxLen; omega)).mono ?_; rintro e w1 ⟨rfl, hb⟩; rw [HX2.out]; have hm := h9.after hb; obtain ⟨u0, u1, u2⟩ := box3 hm.one; obtain ⟨t0, t1, t2⟩ := box3 hm.two; have S2 := Lib.hid hm; clear h9 hb hm)
    | (go_at_call 53; have h9 := S2.out; clear S2; refine (zero_any R c _ (by omega) (by omega)).mono ?_; rintro e w3 ⟨g, rfl, hg, hrow, hb⟩; unfold mval; rw [← HNN.out] at hrow ⊢; have hg2 : w.heap.size ≤ g := Nat.le_trans h9.bel.size hg; have hal : Below w3.heap.size w3 (w3.alloc (.cells #[.int .i64 R, .int .i64 c, .slice (some ⟨g, 0, none⟩) NN NN] 71)) := (Below.refl _ _).alloc (Nat.le_refl _) _; have hm := (h9.after hb).after hal; obtain ⟨v0, v1, v2⟩ := box3 hm.one; have S3 : Hid (UndS w w.heap.size (w.heap.size + 1) (w.heap.size + 1 + 1) w3.heap.size g NN [.int .i64 r, .int .i64 c, .slice (some ⟨ga, oa, none⟩) an acap] [.int .i64 s, .int .i64 c, .slice (some ⟨gb, ob, none⟩) bn bcap] [.int .i64 R, .int .i64 c, .slice (some ⟨g, 0, none⟩) NN NN] (fun _ => 0#8) _) := Lib.hid ⟨hm, Row.new w3 _ [.int .i64 R, .int .i64 c, .slice (some ⟨g, 0, none⟩) NN NN], hrow.fr (Fr.of_below (L := []) hal) (by simp)⟩; clear h9 hb hm hg hrow hal)
    | (have h9 := S3.out; clear S3; refine wpList_copy_tab rfl (.tmp 41) (.tmp 43) 56 56 rfl 5 Try.underlying56 u8size g 0 NN NN ga oa an acap an NN rfl rfl 5 (fun _ => 0#8) (tb c A) h9.row (Nat.min_eq_left (by omega)).symm (by omega) (fun j hj => (h9.m3.bel.cell (p := ⟨ga, oa + j, none⟩) gal).trans (HA.out.flat c1 j (by rw [← HAN.out]; exact hj))) ?_; intro w4 hr4 hf4; have hm := h9.lay hr4 hf4 hg2; obtain ⟨p0, p1, p2⟩ := box3 hm.box; obtain ⟨n0, n1, n2⟩ := box3 hm.m3.one; obtain ⟨o0, o1, o2⟩ := box3 hm.m3.two; have S4 := Lib.hid hm; clear h9 hr4 hf4 hm))
  go_region_held3 (fun w' => w'.cell? ⟨w3.heap.size, 2, none⟩ = some (.slice (some ⟨g, 0, none⟩) NN NN) ∧ w'.cell? ⟨w.heap.size, 2, none⟩ = some (.slice (some ⟨ga, oa, none⟩) an acap) ∧ w'.cell? ⟨w.heap.size + 1, 2, none⟩ = some (.slice (some ⟨gb, ob, none⟩) bn bcap)) (first | exact ⟨p2, n2, o2⟩ | exact ⟨hk5.2.2, hk6.2.2, hk7.2.2⟩)
    (first
    | (refine step_copy_tab (by rfl) (.tmp 50) (.tmp 52) 56 56 (by rfl) 5 Try.underlying56 u8size g an (NN - an) (NN - an) gb ob bn bcap bn NN (by rfl) (by rfl) 5 (layF (fun _ => 0#8) 0 an (tb c A)) (tb c B) (S4.out.row.fr ((Fr.refl [] _).drew) (by simp)) (by rw [HD.out]; exact (Nat.min_self bn).symm) (by have := HNNs.out; omega) (fun j hj => (S4.out.m3.bel.cell (p := ⟨gb, ob + j, none⟩) gbl).trans (HB.out.flat c1 j (by rw [← HBN.out]; exact hj))) ?_; intro w5 hr5 hf5; have h9 := S4.out; clear S4; have hm := h9.lay hr5 (((Fr.refl [g] w4).drew).trans hf5 (fun i hi _ => hi)) hg2; have hk5 := box3 hm.box; have hk6 := box3 hm.m3.one; have hk7 := box3 hm.m3.two; obtain ⟨e3, e4, e5⟩ := box3 hm.m3.res; obtain ⟨f0, f1, f2⟩ := box3f hm.m3.res; have S5 := Lib.hid hm; clear h9 hr5 hf5 hm))
  go_wp2
  have hy := set3_row (a := .int .i64 R) (b := .int .i64 c) (c := .slice (some ⟨g, 0, none⟩) NN NN) S5.out.m3.res
  obtain ⟨y0, y1, y2⟩ := box3 hy
  exact bodyPost_ret (v := .tuple #[.agg #[.int .i64 R, .int .i64 c, .slice (some ⟨g, 0, none⟩) NN NN], .nilIface]) (by simp [results, Try.results50, go_sem, y0, y1, y2]) rfl ⟨g, rfl, hg2, by
    have h9 := S5.out.row
    rw [HNN.out, HR.out, HAN.out, HBN.out, undM_lay r s c A B c1, ← HR.out] at h9
    exact h9.fr ((((Fr.refl [w.heap.size + 1 + 1] w5).setCell (Or.inl (by simp)) _).setCell (Or.inl (by simp)) _).setCell (Or.inl (by simp)) _) (by simp only [List.mem_singleton]; exact fun e => S5.out.m3.res.ne S5.out.row.row (by decide) e.symm), set3_below S5.out.m3.bel (by omega)⟩
end Go.Proofs.Ytbnfnijjldimkab
