/-
  The walks of the document's Under.
-/
import Derived.Test.YtbnfnijjldimkabRm3
namespace Go.Proofs.Ytbnfnijjldimkab
open Go.RowKit
set_option linter.unusedVariables false
set_option linter.unusedSimpArgs false
/-- an append keeps the rows of other types, and what lies below -/
theorem app_keeps {wr w7 : World} {E : TypeId} {s B : Nat} {v : Value} {i : Nat} {xs : List Value} {b : Nat} {T : TypeId} {L : List Value} (h1 : wr.ownsRow B E s v i xs) (h2 : Row wr b T L) (hg : wr.grownBy w7 v.ownBlock) (hT : T ≠ E) : Row w7 b T L := by
  have hg2 : Fr (match v.ownBlock with | some g => [g] | none => []) wr w7 := (Fr.refl _ _).grown hg (fun g hg => Or.inl (by rw [hg]; simp))
  refine h2.fr hg2 (fun hm => ?_)
  cases hv : v.ownBlock with
  | none => rw [hv] at hm; simp at hm
  | some g =>
    rw [hv] at hm
    simp only [List.mem_singleton] at hm
    exact Row.ne_own h2 h1 hT (by rw [hv, hm])
theorem app_below {w wr w7 : World} {E : TypeId} {s : Nat} {v : Value} {i : Nat} {xs : List Value} (h1 : wr.ownsRow w.heap.size E s v i xs) (h3 : Below w.heap.size w wr) (hg : wr.grownBy w7 v.ownBlock) : Below w.heap.size w w7 := by
  have hg2 : Fr (match v.ownBlock with | some g => [g] | none => []) wr w7 := (Fr.refl _ _).grown hg (fun g hg => Or.inl (by rw [hg]; simp))
  refine h3.trans (hg2.below h3.size (fun g hm => ?_))
  cases hv : v.ownBlock with
  | none => rw [hv] at hm; simp at hm
  | some g' =>
    rw [hv] at hm
    simp only [List.mem_singleton] at hm
    rw [hm]; exact own_ge h1 hv
theorem MatRd.news {w : World} {g o r c n : Nat} {M : Nat → Nat → BitVec 8} (h : MatRd w g o r c M) (hc : 1 ≤ c) (hn : n = r * c) : ∀ j u, (ncells (tab n (tb c M)))[j]? = some u → w.cell? ((⟨g, o, none⟩ : Addr).add j) = some u := by
  intro j u hj
  have hjn : j < n := by
    have := (List.getElem?_eq_some_iff.1 hj).1
    rwa [ncells_length, tab_length] at this
  rw [ncells_get _ _ (by rw [tab_length]; exact hjn), tab_get _ _ _ hjn] at hj
  have e1 : (⟨g, o, none⟩ : Addr).add j = ⟨g, o + j, none⟩ := by unfold Addr.add; split <;> simp_all
  rw [e1, ← hj]
  exact h.flat hc j (by rw [← hn]; exact hjn)
theorem ncells_one (l : List (BitVec 8)) : ∀ u ∈ ncells l, u.oneCell' = true := by
  intro u hu
  unfold ncells at hu
  obtain ⟨x, _, rfl⟩ := List.mem_map.1 hu
  rfl
theorem undM_cells (r s c : Nat) (A B : Nat → Nat → BitVec 8) (hc : 1 ≤ c) : ncells (tab (r * c) (tb c A)) ++ ncells (tab (s * c) (tb c B)) = ncells (mat (r + s) c (undM r A B)).cells := by
  rw [← ncells_append]
  congr 1
  rw [tb_cells]
  apply List.ext_getElem
  · simp [tab_length, Nat.add_mul]
  · intro j h1 h2
    have hj : j < (r + s) * c := by rw [tab_length] at h2; exact h2
    rw [tab_get _ _ _ hj]
    by_cases h : j < r * c
    · rw [List.getElem_append_left (by rw [tab_length]; exact h), tab_get _ _ _ h]
      unfold tb undM
      rw [if_pos (row_lt h)]
    · rw [List.getElem_append_right (by rw [tab_length]; omega)]
      simp only [tab_length]
      rw [tab_get _ _ _ (by rw [Nat.add_mul] at hj; omega)]
      obtain ⟨m, rfl⟩ : ∃ m, j = r * c + m := ⟨j - r * c, by omega⟩
      have hc0 : 0 < c := by omega
      have e1 : (r * c + m) / c = r + m / c := by rw [Nat.mul_comm, Nat.mul_add_div hc0]
      have e2 : (r * c + m) % c = m % c := by rw [Nat.mul_comm, Nat.mul_add_mod]
      unfold tb undM
      rw [show r * c + m - r * c = m from by omega, e1, e2, if_neg (by have := Nat.le_add_right r (m / c); exact Nat.not_lt.2 this), Nat.add_sub_cancel_left]
set_option maxRecDepth 100000 in
set_option maxHeartbeats 3200000 in
theorem runder_bad1 (ar ac br bc : Int) (an bn acap bcap : Nat) (aa ba : Option Addr) (w : World) (hal : an ≤ maxLen) (hbl : bn ≤ maxLen) (h : rightB ar ac an = false ∨ rightB br bc bn = false ∨ 255 < ar + br) :
    Calls Try.prog 60 #[.agg #[.int .i64 ar, .int .i64 ac, .slice aa an acap], .agg #[.int .i64 br, .int .i64 bc, .slice ba bn bcap]] w fun e w' => e = .returned (.tuple #[nilMat, .int .i64 1]) ∧ Below w.heap.size w w' := by
  have hx : rightB ar ac an = false ∨ (rightB ar ac an = true ∧ rightB br bc bn = false) ∨ (rightB ar ac an = true ∧ rightB br bc bn = true ∧ 255 < ar + br) := by
    cases h1 : rightB ar ac an
    · exact Or.inl rfl
    · cases h2 : rightB br bc bn
      · exact Or.inr (Or.inl ⟨rfl, rfl⟩)
      · rw [h1, h2] at h
        rcases h with h | h | h
        · cases h
        · cases h
        · exact Or.inr (Or.inr ⟨rfl, rfl, h⟩)
  clear h
  have S0 := Lib.hid (m3_start w (.int .i64 ar) (.int .i64 ac) (.slice aa an acap) (.int .i64 br) (.int .i64 bc) (.slice ba bn bcap))
  rcases hx with hx | ⟨hx, hx2⟩ | ⟨hx, hx2, hx3⟩
  · obtain ⟨B, hB⟩ : ∃ B, rightB br bc bn = B := ⟨_, rfl⟩
    have HX2 := Lib.hid hB
    have HX := Lib.hid hx
    clear hx hB
    go_enter Try.func60, Try.ntmps60
    go_wp2_with (first
      | (go_at_call 57; have h9 := S0.out; clear S0; refine (rright_gen ar ac an _ acap _ hal).mono ?_; rintro e w1 ⟨rfl, hb⟩; rw [HX.out]; have hm := h9.after hb; obtain ⟨x0, x1, x2⟩ := box3 hm.two; have S1 := Lib.hid hm; clear h9 hb hm)
      | (go_at_call 57; have h9 := S1.out; clear S1; refine (rright_gen br bc bn _ bcap _ hbl).mono ?_; rintro e w1 ⟨rfl, hb⟩; rw [HX2.out]; have hm := h9.after hb; obtain ⟨u0, u1, u2⟩ := box3 hm.one; obtain ⟨t0, t1, t2⟩ := box3 hm.two; obtain ⟨z0, z1, z2⟩ := box3 hm.res; obtain ⟨f0, f1, f2⟩ := box3f hm.res; have S2 := Lib.hid hm; clear h9 hb hm))
    have hy := set3_row (a := .int .i64 0) (b := .int .i64 0) (c := .slice none 0 0) S2.out.res
    obtain ⟨y0, y1, y2⟩ := box3 hy
    exact bodyPost_ret (v := .tuple #[.agg #[.int .i64 0, .int .i64 0, .slice none 0 0], .int .i64 1]) (by simp [results, Try.results60, go_sem, y0, y1, y2]) rfl ⟨rfl, set3_below S2.out.bel S2.out.le⟩
  · have HX2 := Lib.hid hx2
    have HX := Lib.hid hx
    clear hx hx2
    go_enter Try.func60, Try.ntmps60
    go_wp2_with (first
      | (go_at_call 57; have h9 := S0.out; clear S0; refine (rright_gen ar ac an _ acap _ hal).mono ?_; rintro e w1 ⟨rfl, hb⟩; rw [HX.out]; have hm := h9.after hb; obtain ⟨x0, x1, x2⟩ := box3 hm.two; have S1 := Lib.hid hm; clear h9 hb hm)
      | (go_at_call 57; have h9 := S1.out; clear S1; refine (rright_gen br bc bn _ bcap _ hbl).mono ?_; rintro e w1 ⟨rfl, hb⟩; rw [HX2.out]; have hm := h9.after hb; obtain ⟨u0, u1, u2⟩ := box3 hm.one; obtain ⟨t0, t1, t2⟩ := box3 hm.two; obtain ⟨z0, z1, z2⟩ := box3 hm.res; obtain ⟨f0, f1, f2⟩ := box3f hm.res; have S2 := Lib.hid hm; clear h9 hb hm))
    have hy := set3_row (a := .int .i64 0) (b := .int .i64 0) (c := .slice none 0 0) S2.out.res
    obtain ⟨y0, y1, y2⟩ := box3 hy
    exact bodyPost_ret (v := .tuple #[.agg #[.int .i64 0, .int .i64 0, .slice none 0 0], .int .i64 1]) (by simp [results, Try.results60, go_sem, y0, y1, y2]) rfl ⟨rfl, set3_below S2.out.bel S2.out.le⟩
  · obtain ⟨a1, a2, rfl, rfl, m1, m2, m3, m4, m5⟩ := rightB_out hx
    obtain ⟨b1, b2, rfl, rfl, k1, k2, k3, k4, k5⟩ := rightB_out hx2
    have HX2 := Lib.hid hx2
    have HX := Lib.hid hx
    clear hx hx2 m5 k5
    go_enter Try.func60, Try.ntmps60
    go_wp2_with (first
      | (go_at_call 57; have h9 := S0.out; clear S0; refine (rright_gen _ _ an _ acap _ hal).mono ?_; rintro e w1 ⟨rfl, hb⟩; rw [HX.out]; have hm := h9.after hb; obtain ⟨x0, x1, x2⟩ := box3 hm.two; have S1 := Lib.hid hm; clear h9 hb hm)
      | (go_at_call 57; have h9 := S1.out; clear S1; refine (rright_gen _ _ bn _ bcap _ hbl).mono ?_; rintro e w1 ⟨rfl, hb⟩; rw [HX2.out]; have hm := h9.after hb; obtain ⟨u0, u1, u2⟩ := box3 hm.one; obtain ⟨t0, t1, t2⟩ := box3 hm.two; obtain ⟨z0, z1, z2⟩ := box3 hm.res; obtain ⟨f0, f1, f2⟩ := box3f hm.res; have S2 := Lib.hid hm; clear h9 hb hm))
    have hy := set3_row (a := .int .i64 0) (b := .int .i64 0) (c := .slice none 0 0) S2.out.res
    obtain ⟨y0, y1, y2⟩ := box3 hy
    exact bodyPost_ret (v := .tuple #[.agg #[.int .i64 0, .int .i64 0, .slice none 0 0], .int .i64 1]) (by simp [results, Try.results60, go_sem, y0, y1, y2]) rfl ⟨rfl, set3_below S2.out.bel S2.out.le⟩
set_option maxRecDepth 100000 in
set_option maxHeartbeats 1600000 in
theorem runder_bad2 (r1 c1 r2 c2 an bn acap bcap : Nat) (aa ba : Option Addr) (w : World) (a1 : 1 ≤ r1) (a3 : 1 ≤ c1) (a4 : c1 ≤ 255) (b1 : 1 ≤ r2) (b3 : 1 ≤ c2) (b4 : c2 ≤ 255) (hrr : r1 + r2 ≤ 255) (han : an = r1 * c1) (hbn : bn = r2 * c2) (hne : c1 ≠ c2) :
    Calls Try.prog 60 #[.agg #[.int .i64 r1, .int .i64 c1, .slice aa an acap], .agg #[.int .i64 r2, .int .i64 c2, .slice ba bn bcap]] w fun e w' => e = .returned (.tuple #[nilMat, .int .i64 19]) ∧ Below w.heap.size w w' := by
  have q1 : an ≤ 255 * 255 := by rw [han]; exact Nat.mul_le_mul (by omega) a4
  have q2 : bn ≤ 255 * 255 := by rw [hbn]; exact Nat.mul_le_mul (by omega) b4
  have S0 := Lib.hid (m3_start w (.int .i64 r1) (.int .i64 c1) (.slice aa an acap) (.int .i64 r2) (.int .i64 c2) (.slice ba bn bcap))
  have HX := Lib.hid (rightB_ok a1 (by omega) a3 a4 han)
  have HX2 := Lib.hid (rightB_ok b1 (by omega) b3 b4 hbn)
  have hnb : ((c1 : Int) != (c2 : Int)) = true := by simp; omega
  have i0 : (r1 : Int) + (r2 : Int) ≤ 255 := by omega
  clear han hbn
  go_enter Try.func60, Try.ntmps60
  go_wp2_with (first
    | (go_at_call 57; have h9 := S0.out; clear S0; refine (rright_gen _ _ an _ acap _ (by unfold maxLen; omega)).mono ?_; rintro e w1 ⟨rfl, hb⟩; rw [HX.out]; have hm := h9.after hb; obtain ⟨x0, x1, x2⟩ := box3 hm.two; have S1 := Lib.hid hm; clear h9 hb hm)
    | (go_at_call 57; have h9 := S1.out; clear S1; refine (rright_gen _ _ bn _ bcap _ (by unfold maxLen; omega)).mono ?_; rintro e w1 ⟨rfl, hb⟩; rw [HX2.out]; have hm := h9.after hb; obtain ⟨u0, u1, u2⟩ := box3 hm.one; obtain ⟨t0, t1, t2⟩ := box3 hm.two; obtain ⟨z0, z1, z2⟩ := box3 hm.res; obtain ⟨f0, f1, f2⟩ := box3f hm.res; have S2 := Lib.hid hm; clear h9 hb hm))
  have hy := set3_row (a := .int .i64 0) (b := .int .i64 0) (c := .slice none 0 0) S2.out.res
  obtain ⟨y0, y1, y2⟩ := box3 hy
  exact bodyPost_ret (v := .tuple #[.agg #[.int .i64 0, .int .i64 0, .slice none 0 0], .int .i64 19]) (by simp [results, Try.results60, go_sem, y0, y1, y2]) rfl ⟨rfl, set3_below S2.out.bel S2.out.le⟩
/-- what the document's Under holds after its first append -/
structure Und1 (w0 : World) (b0 b1 b2 bx n : Nat) (LA LB LX xs : List Value) (v : Value) (w : World) : Prop where
  m3 : M3 w0 b0 b1 b2 LA LB w
  box : Row w bx 71 LX
  own : w.ownsRow w0.heap.size 5 1 v n xs
theorem und_grow {w0 wr w2 : World} {b0 b1 b2 bx n : Nat} {LA LB xs : List Value} {x y z : Value} (v0 v1 : Value) {i0 : Nat} {xs0 : List Value} (h0 : wr.ownsRow w0.heap.size 5 1 v0 i0 xs0) (h : M3 w0 b0 b1 b2 LA LB wr) (hbx : Row wr bx 71 [x, y, z]) (n0 : b0 ≠ bx) (n1 : b1 ≠ bx) (n2 : b2 ≠ bx) (n3 : w0.heap.size ≤ bx) (hgr : wr.grownBy w2 v0.ownBlock) (hown : w2.ownsRow w0.heap.size 5 1 v1 n xs) : Row w2 bx 71 [x, y, z] ∧ Und1 w0 b0 b1 b2 bx n LA LB [x, y, v1] xs v1 (w2.setCell ⟨bx, 2, none⟩ v1) := by
  have k0 := app_keeps h0 h.one hgr (by decide)
  have k1 := app_keeps h0 h.two hgr (by decide)
  have k2 := app_keeps h0 h.res hgr (by decide)
  have k3 := app_keeps h0 hbx hgr (by decide)
  have k4 := app_below h0 h.bel hgr
  refine ⟨k3, ⟨k0.other (by exact n0) v1, k1.other (by exact n1) v1, k2.other (by exact n2) v1, k4.setCell n3 v1, h.le⟩, k3.set 2 v1, ?_⟩
  exact ownsRow_fr hown ((Fr.refl [bx] w2).setCell (p := ⟨bx, 2, none⟩) (Or.inl (by simp)) v1) (fun g hg hm9 => by
    simp only [List.mem_singleton] at hm9
    exact k3.ne_own hown (by decide) (by rw [hg, hm9]))
set_option maxRecDepth 100000 in
set_option maxHeartbeats 3200000 in
theorem runder_ok (r s c ga oa gb ob an bn acap bcap : Nat) (A B : Nat → Nat → BitVec 8) (w : World) (a1 : 1 ≤ r) (c1 : 1 ≤ c) (c2 : c ≤ 255) (b1 : 1 ≤ s) (hrr : r + s ≤ 255) (han : an = r * c) (hbn : bn = s * c) (ha : MatRd w ga oa r c A) (hb : MatRd w gb ob s c B) :
    Calls Try.prog 60 #[.agg #[.int .i64 r, .int .i64 c, .slice (some ⟨ga, oa, none⟩) an acap], .agg #[.int .i64 s, .int .i64 c, .slice (some ⟨gb, ob, none⟩) bn bcap]] w fun e w' => ∃ g cap sp, e = .returned (.tuple #[.agg #[.int .i64 (r + s : Nat), .int .i64 c, .slice (some ⟨g, 0, none⟩) ((r + s) * c) cap], .int .i64 0]) ∧ w.heap.size ≤ g ∧ (r + s) * c ≤ cap ∧ Row w' g 5 (ncells (mat (r + s) c (undM r A B)).cells ++ sp) ∧ Below w.heap.size w w' := by
  have q1 : an ≤ 255 * 255 := by rw [han]; exact Nat.mul_le_mul (by omega) c2
  have q2 : bn ≤ 255 * 255 := by rw [hbn]; exact Nat.mul_le_mul (by omega) c2
  have q3 : 0 < an := by rw [han]; exact Nat.mul_pos (by omega) (by omega)
  have q4 : 0 < bn := by rw [hbn]; exact Nat.mul_pos (by omega) (by omega)
  obtain ⟨R, hR⟩ : ∃ R, R = r + s := ⟨_, rfl⟩
  obtain ⟨NN, hNN⟩ : ∃ x, x = R * c := ⟨_, rfl⟩
  have hNNs : NN = an + bn := by rw [hNN, hR, Nat.add_mul, ← han, ← hbn]
  have gal : ga < w.heap.size := rd_cell_lt (ha 0 0 (by omega) (by omega))
  have gbl : gb < w.heap.size := rd_cell_lt (hb 0 0 (by omega) (by omega))
  have S0 := Lib.hid (m3_start w (.int .i64 r) (.int .i64 c) (.slice (some ⟨ga, oa, none⟩) an acap) (.int .i64 s) (.int .i64 c) (.slice (some ⟨gb, ob, none⟩) bn bcap))
  have HX := Lib.hid (rightB_ok a1 (by omega) c1 c2 han)
  have HX2 := Lib.hid (rightB_ok b1 (by omega) c1 c2 hbn)
  have i0 : (r : Int) + (s : Int) ≤ 255 := by omega
  have e0 : (r : Int) + (s : Int) = (R : Int) := by rw [hR]; omega
  have i1 : (R : Int) ≤ 255 := by omega
  rw [← hR]
  rw [← hNN]
  obtain ⟨i9, hi0, hz0, hz1, hz2⟩ := info_parts u8parts
  obtain ⟨na, hna⟩ : ∃ na, na = ncells (tab an (tb c A)) := ⟨_, rfl⟩
  obtain ⟨nb, hnb⟩ : ∃ nb, nb = ncells (tab bn (tb c B)) := ⟨_, rfl⟩
  have l1 : na.length = an * 1 := by rw [hna, ncells_length, tab_length, Nat.mul_one]
  have l2 : nb.length = bn * 1 := by rw [hnb, ncells_length, tab_length, Nat.mul_one]
  have s1 : ∀ w', Below w.heap.size w w' → ∀ j u, na[j]? = some u → w'.cell? ((⟨ga, oa, none⟩ : Addr).add j) = some u := fun w' hb' => by
    rw [hna]
    exact MatRd.news (fun i j hi hj => (hb'.cell (p := ⟨ga, oa + i * c + j, none⟩) gal).trans (ha i j hi hj)) c1 han
  have s2 : ∀ w', Below w.heap.size w w' → ∀ j u, nb[j]? = some u → w'.cell? ((⟨gb, ob, none⟩ : Addr).add j) = some u := fun w' hb' => by
    rw [hnb]
    exact MatRd.news (fun i j hi hj => (hb'.cell (p := ⟨gb, ob + i * c + j, none⟩) gbl).trans (hb i j hi hj)) c1 hbn
  have o1 : ∀ u ∈ na, u.oneCell' = true := by rw [hna]; exact ncells_one _
  have o2 : ∀ u ∈ nb, u.oneCell' = true := by rw [hnb]; exact ncells_one _
  have hfin : na ++ nb = ncells (mat R c (undM r A B)).cells := by rw [hna, hnb, han, hbn, undM_cells r s c A B c1, hR]
  have HFIN := Lib.hid hfin
  have HL1 := Lib.hid l1
  have HL2 := Lib.hid l2
  have HS1 := Lib.hid s1
  have HS2 := Lib.hid s2
  have HO1 := Lib.hid o1
  have HO2 := Lib.hid o2
  have HNNs := Lib.hid hNNs
  clear hR hNN hNNs han hbn ha hb hna hnb l1 l2 s1 s2 o1 o2 hfin
  go_enter Try.func60, Try.ntmps60
  go_wp2_with (first
    | (go_at_call 57; have h9 := S0.out; clear S0; refine (rright_gen _ _ an _ acap _ (by unfold maxLen; omega)).mono ?_; rintro e w1 ⟨rfl, hb⟩; rw [HX.out]; have hm := h9.after hb; obtain ⟨x0, x1, x2⟩ := box3 hm.two; have S1 := Lib.hid hm; clear h9 hb hm)
    | (go_at_call 57; have h9 := S1.out; clear S1; refine (rright_gen _ _ bn _ bcap _ (by unfold maxLen; omega)).mono ?_; rintro e w1 ⟨rfl, hb⟩; rw [HX2.out]; have hm := h9.after hb; obtain ⟨u0, u1, u2⟩ := box3 hm.one; obtain ⟨t0, t1, t2⟩ := box3 hm.two; obtain ⟨v0, v1, v2⟩ := box3 (hm.one.alloc (.cells #[.int .i64 R, .int .i64 c, .slice none 0 0] 71)); obtain ⟨v3, v4, v5⟩ := box3 (hm.two.alloc (.cells #[.int .i64 R, .int .i64 c, .slice none 0 0] 71)); have S2 := Lib.hid hm; clear h9 hb hm)
    | (at_builtin; have h9 := S2.out; clear S2; go_loud (skip; have hal := (Below.refl w1.heap.size w1).alloc (Nat.le_refl _) (.cells #[.int .i64 R, .int .i64 c, .slice none 0 0] 71); have hm := h9.after hal; have hbx := Row.new w1 71 [.int .i64 R, .int .i64 c, .slice none 0 0]; have hz9 := h9.bel.size; have hne0 := h9.one.lt; have hne1 := h9.two.lt; have hne2 := h9.res.lt; refine wpList_append_own _ rfl (.tmp 43) (.tmp 45) 56 rfl w.heap.size 5 i9 _ 1 1 Try.underlying56 hi0 hz0 hz1 hz2 rfl (by omega) _ 0 [] rfl (World.ownsRow_nil _ _ _ _) ⟨ga, oa, none⟩ an acap na rfl HL1.out (HS1.out _ hm.bel) HO1.out (by unfold maxLen; omega) (by omega) (Nat.le_trans hz9 (by simp)) ?_; intro v1 w2 hown hgr hnil; clear hnil; rw [List.nil_append, Nat.zero_add] at hown; obtain ⟨g1, cap1, sp1, rfl, gg1, gg2, gg3, gg4⟩ := own_row1 hown q3; have hG := und_grow (.slice none 0 0) _ (World.ownsRow_nil _ w.heap.size 5 1) hm hbx (Nat.ne_of_lt hne0) (Nat.ne_of_lt hne1) (Nat.ne_of_lt hne2) hz9 hgr hown; obtain ⟨b0, b1, b2⟩ := box3 hG.1; obtain ⟨p0, p1, p2⟩ := box3f hG.1; obtain ⟨d0, d1, d2⟩ := box3 hG.2.box; obtain ⟨e3, e4, e5⟩ := box3 hG.2.m3.two; have S3 := Lib.hid hG.2; clear h9 hal hm hbx hown hgr hG gg4))
    | (at_builtin; have h9 := S3.out; clear S3; go_loud (skip; refine wpList_append_own _ rfl (.tmp 49) (.tmp 51) 56 rfl w.heap.size 5 i9 _ 1 1 Try.underlying56 hi0 hz0 hz1 hz2 rfl (by omega) _ an na rfl h9.own ⟨gb, ob, none⟩ bn bcap nb rfl HL2.out (HS2.out _ h9.m3.bel) HO2.out (by unfold maxLen; omega) (by omega) h9.m3.bel.size ?_; intro v2 w4 hown hgr hnil; clear hnil; obtain ⟨g2, cap2, sp2, rfl, kk1, kk2, kk3, kk4⟩ := own_row1 hown (Nat.lt_of_lt_of_le q3 (Nat.le_add_right an bn)); have hG := und_grow _ _ h9.own h9.m3 h9.box (Nat.ne_of_lt hne0) (Nat.ne_of_lt hne1) (Nat.ne_of_lt hne2) hz9 hgr hown; obtain ⟨b0, b1, b2⟩ := box3 hG.1; obtain ⟨p0, p1, p2⟩ := box3f hG.1; obtain ⟨d0, d1, d2⟩ := box3 hG.2.box; obtain ⟨e6, e7, e8⟩ := box3 hG.2.m3.res; obtain ⟨f0, f1, f2⟩ := box3f hG.2.m3.res; have S4 := Lib.hid hG.2; clear h9 hown hgr hG kk4)))
  have h2 := S4.out.m3.res
  have h4 := S4.out.m3.bel
  have h5 := S4.out.own
  rw [HFIN.out] at h5
  obtain ⟨g, cap, sp, hge, hg, hcap, _, hrow⟩ := own_row1 h5 (Nat.lt_of_lt_of_le q3 (Nat.le_add_right an bn))
  obtain ⟨rfl, rfl⟩ : g = g2 ∧ cap = cap2 := by
    have h := hge
    simp only [Value.slice.injEq, Option.some.injEq, Addr.mk.injEq] at h
    exact ⟨h.1.1.symm, h.2.2.symm⟩
  have HE := HNNs.out
  subst HE
  have hy := set3_row (a := .int .i64 R) (b := .int .i64 c) (c := .slice (some ⟨g, 0, none⟩) (an + bn) cap) h2
  obtain ⟨y0, y1, y2⟩ := box3 hy
  exact bodyPost_ret (v := .tuple #[.agg #[.int .i64 R, .int .i64 c, .slice (some ⟨g, 0, none⟩) (an + bn) cap], .int .i64 0]) (by simp [results, Try.results60, go_sem, y0, y1, y2]) rfl ⟨g, cap, sp, rfl, hg, hcap, set3_other hrow (fun e => h2.ne hrow (by decide) e.symm), set3_below h4 (by omega)⟩
end Go.Proofs.Ytbnfnijjldimkab
