/-
  The walks of matrix.Mul.
-/
import Derived.Test.YtbnfnijjldimkaaMcau
import Derived.Deep.RegionHeld3
namespace Go.Proofs.Ytbnfnijjldimkaa
open Go.RowKit
set_option linter.unusedVariables false
set_option linter.unusedSimpArgs false
def rightB (r c : Int) (n : Nat) : Bool := decide (1 ≤ r ∧ r ≤ 255 ∧ 1 ≤ c ∧ c ≤ 255 ∧ (n : Int) = r * c)
theorem right_gen (r c : Int) (n : Nat) (a : Option Addr) (cap : Nat) (w : World) (hl : n ≤ maxLen) :
    Calls Try.prog 27 #[.agg #[.int .i64 r, .int .i64 c, .slice a n cap]] w fun e w' => e = .returned (.bool (rightB r c n)) ∧ Below w.heap.size w w' := by
  have h := right_any ⟨r, c, List.replicate n 0#8⟩ a cap w (by simpa using hl)
  simpa [Mt.val, Mt.right, rightB] using h
theorem rightB_ok {r c : Nat} (h1 : 1 ≤ r) (h2 : r ≤ 255) (h3 : 1 ≤ c) (h4 : c ≤ 255) {n : Nat} (h : n = r * c) : rightB r c n = true := by
  unfold rightB
  simp only [decide_eq_true_eq]
  exact ⟨by omega, by omega, by omega, by omega, by rw [h]; simp⟩
theorem rightB_out {r c : Int} {n : Nat} (h : rightB r c n = true) : ∃ a b : Nat, r = a ∧ c = b ∧ 1 ≤ a ∧ a ≤ 255 ∧ 1 ≤ b ∧ b ≤ 255 ∧ n = a * b := by
  unfold rightB at h
  simp only [decide_eq_true_eq] at h
  obtain ⟨h1, h2, h3, h4, h5⟩ := h
  obtain ⟨a, rfl⟩ : ∃ a : Nat, r = a := ⟨r.toNat, by omega⟩
  obtain ⟨b, rfl⟩ : ∃ b : Nat, c = b := ⟨c.toNat, by omega⟩
  refine ⟨a, b, rfl, rfl, by omega, by omega, by omega, by omega, ?_⟩
  have : (n : Int) = ((a * b : Nat) : Int) := by rw [h5]; simp
  omega
/-- a matrix that is read: its cells from a place on -/
def MatRd (w : World) (g o r c : Nat) (M : Nat → Nat → BitVec 8) : Prop := ∀ i j, i < r → j < c → w.cell? ⟨g, o + i * c + j, none⟩ = some (.int .u8 (nv (M i j)))
theorem MatRd.after {w w' : World} {g o r c : Nat} {M : Nat → Nat → BitVec 8} (h : MatRd w g o r c M) (hb : Below w.heap.size w w') : MatRd w' g o r c M := fun i j hi hj =>
  (hb.cell (p := ⟨g, o + i * c + j, none⟩) (rd_cell_lt (h i j hi hj))).trans (h i j hi hj)
theorem MatRd.fr {w w' : World} {g o r c : Nat} {M : Nat → Nat → BitVec 8} (h : MatRd w g o r c M) {L : List Nat} (hf : Fr L w w') (hg : g ∉ L) : MatRd w' g o r c M := fun i j hi hj => cell_fr hf hg (h i j hi hj)
theorem Rd.mat {w : World} {a : Option Addr} {L : List (BitVec 8)} {r c : Nat} (h : Rd w a L) (hl : L.length = r * c) (hr : 1 ≤ r) (hc : 1 ≤ c) : ∃ g o, a = some ⟨g, o, none⟩ ∧ g < w.heap.size ∧ MatRd w g o r c (fun i j => L.getD (i * c + j) 0#8) := by
  have hp : 0 < r * c := Nat.mul_pos hr hc
  obtain ⟨g, o, ha, hg, hcell⟩ := h.open (by omega)
  refine ⟨g, o, ha, hg, fun i j hi hj => ?_⟩
  have hlt := idx_lt hi hj
  have := hcell (i * c + j) (by omega)
  rw [← Nat.add_assoc] at this
  rw [this]
  congr 3
  show _ = L.getD (i * c + j) 0#8
  rw [List.getD_eq_getElem?_getD, List.getElem?_eq_getElem (by omega), Option.getD_some]
theorem box3 {w : World} {g : Nat} {T : TypeId} {a b c : Value} (h : Row w g T [a, b, c]) : w.cell? ⟨g, 0, none⟩ = some a ∧ w.cell? ⟨g, 1, none⟩ = some b ∧ w.cell? ⟨g, 2, none⟩ = some c := ⟨h.cell rfl, h.cell rfl, h.cell rfl⟩
theorem box3f {w : World} {g : Nat} {T : TypeId} {a b c : Value} (h : Row w g T [a, b, c]) : w.frozen? ⟨g, 0, none⟩ = false ∧ w.frozen? ⟨g, 1, none⟩ = false ∧ w.frozen? ⟨g, 2, none⟩ = false := ⟨h.free (by simp), h.free (by simp), h.free (by simp)⟩
set_option maxRecDepth 100000 in
set_option maxHeartbeats 1600000 in
theorem mul_bad1 (ar ac br bc : Int) (an bn acap bcap : Nat) (aa ba : Option Addr) (w : World) (hal : an ≤ maxLen) (hbl : bn ≤ maxLen) (h : rightB ar ac an = false ∨ rightB br bc bn = false) :
    Calls Try.prog 20 #[.agg #[.int .i64 ar, .int .i64 ac, .slice aa an acap], .agg #[.int .i64 br, .int .i64 bc, .slice ba bn bcap]] w fun e w' => ∃ ev, e = .returned (.tuple #[nilMat, ev]) ∧ ErrAt w.heap.size w' ev 1 ∧ Below w.heap.size w w' := by
  have hx : rightB ar ac an = false ∨ (rightB ar ac an = true ∧ rightB br bc bn = false) := by
    rcases h with h | h
    · exact Or.inl h
    · cases h2 : rightB ar ac an
      · exact Or.inl rfl
      · exact Or.inr ⟨rfl, h⟩
  clear h
  have hbelow : Below w.heap.size w (((w.alloc (.cells #[.int .i64 ar, .int .i64 ac, .slice aa an acap] 24)).alloc (.cells #[.int .i64 br, .int .i64 bc, .slice ba bn bcap] 24)).alloc (.cells #[.int .i64 0, .int .i64 0, .slice none 0 0] 24)) := (((Below.refl _ _).alloc (Nat.le_refl _) _).alloc (by simp) _).alloc (by simp; omega) _
  have hb1 := (Row.new (w.alloc (.cells #[.int .i64 ar, .int .i64 ac, .slice aa an acap] 24)) 24 [.int .i64 br, .int .i64 bc, .slice ba bn bcap]).alloc (.cells #[.int .i64 0, .int .i64 0, .slice none 0 0] 24)
  have hb2 := Row.new ((w.alloc (.cells #[.int .i64 ar, .int .i64 ac, .slice aa an acap] 24)).alloc (.cells #[.int .i64 br, .int .i64 bc, .slice ba bn bcap] 24)) 24 [.int .i64 0, .int .i64 0, .slice none 0 0]
  have hs : ∀ (W : World) (o : Obj), (W.alloc o).heap.size = W.heap.size + 1 := fun W o => by simp
  simp only [hs] at hb1 hb2
  have S0 := Lib.hid (And.intro hb1 (And.intro hb2 hbelow))
  clear hb1 hb2 hbelow hs
  rcases hx with hx | ⟨hx, hx2⟩
  · have HX := Lib.hid hx
    clear hx
    go_enter Try.func20, Try.ntmps20
    go_wp2_with (first
      | (go_at_call 27; have h9 := S0.out; clear S0; refine (right_gen ar ac an aa acap _ hal).mono ?_; rintro e w1 ⟨rfl, hb⟩; rw [HX.out]; have S1 := Lib.hid (And.intro (h9.2.1.after hb) (h9.2.2.trans (hb.mono (by simp; omega)))); clear h9 hb)
      | (go_at_call 36; have h9 := S1.out; clear S1; refine (fault_any 1 (by decide) _).mono ?_; rintro e w2 ⟨ev, rfl, he, hb⟩; have hB := h9.1.after hb; obtain ⟨x0, x1, x2⟩ := box3 hB; obtain ⟨f0, f1, f2⟩ := box3f hB; have S2 := Lib.hid (And.intro hB (And.intro (h9.2.trans (hb.mono h9.2.size)) (And.intro he h9.1.lt))); clear h9 hb hB he))
    have hy := set3_row (a := .int .i64 0) (b := .int .i64 0) (c := .slice none 0 0) S2.out.1
    obtain ⟨y0, y1, y2⟩ := box3 hy
    exact bodyPost_ret (v := .tuple #[.agg #[.int .i64 0, .int .i64 0, .slice none 0 0], ev]) (by simp [results, Try.results20, go_sem, y0, y1, y2]) rfl ⟨ev, rfl, (set3_err S2.out.2.2.1 S2.out.2.2.2).mono (by have := S2.out.2.2.2; omega), set3_below S2.out.2.1 (by omega)⟩
  · have HX := Lib.hid hx
    have HX2 := Lib.hid hx2
    clear hx hx2
    go_enter Try.func20, Try.ntmps20
    go_wp2_with (first
      | (go_at_call 27; have h9 := S0.out; clear S0; refine (right_gen ar ac an aa acap _ hal).mono ?_; rintro e w1 ⟨rfl, hb⟩; rw [HX.out]; have hB := h9.1.after hb; obtain ⟨x0, x1, x2⟩ := box3 hB; have S1 := Lib.hid (And.intro (h9.2.1.after hb) (h9.2.2.trans (hb.mono (by simp; omega)))); clear h9 hb hB)
      | (go_at_call 27; have h9 := S1.out; clear S1; refine (right_gen br bc bn ba bcap _ hbl).mono ?_; rintro e w1 ⟨rfl, hb⟩; rw [HX2.out]; have S2 := Lib.hid (And.intro (h9.1.after hb) (h9.2.trans (hb.mono h9.2.size))); clear h9 hb)
      | (go_at_call 36; have h9 := S2.out; clear S2; refine (fault_any 1 (by decide) _).mono ?_; rintro e w2 ⟨ev, rfl, he, hb⟩; have hB := h9.1.after hb; obtain ⟨z0, z1, z2⟩ := box3 hB; obtain ⟨f0, f1, f2⟩ := box3f hB; have S3 := Lib.hid (And.intro hB (And.intro (h9.2.trans (hb.mono h9.2.size)) (And.intro he h9.1.lt))); clear h9 hb hB he))
    have hy := set3_row (a := .int .i64 0) (b := .int .i64 0) (c := .slice none 0 0) S3.out.1
    obtain ⟨y0, y1, y2⟩ := box3 hy
    exact bodyPost_ret (v := .tuple #[.agg #[.int .i64 0, .int .i64 0, .slice none 0 0], ev]) (by simp [results, Try.results20, go_sem, y0, y1, y2]) rfl ⟨ev, rfl, (set3_err S3.out.2.2.1 S3.out.2.2.2).mono (by have := S3.out.2.2.2; omega), set3_below S3.out.2.1 (by omega)⟩
/-- the boxes that Mul makes at its start -/
theorem three_boxes (w : World) (va vb vc v0 v1 v2 : Value) : Row (((w.alloc (.cells #[va, vb, vc] 24)).alloc (.cells #[v0, v1, v2] 24)).alloc (.cells #[.int .i64 0, .int .i64 0, .slice none 0 0] 24)) w.heap.size 24 [va, vb, vc] ∧ Row (((w.alloc (.cells #[va, vb, vc] 24)).alloc (.cells #[v0, v1, v2] 24)).alloc (.cells #[.int .i64 0, .int .i64 0, .slice none 0 0] 24)) (w.heap.size + 1) 24 [v0, v1, v2] ∧ Row (((w.alloc (.cells #[va, vb, vc] 24)).alloc (.cells #[v0, v1, v2] 24)).alloc (.cells #[.int .i64 0, .int .i64 0, .slice none 0 0] 24)) (w.heap.size + 1 + 1) 24 [.int .i64 0, .int .i64 0, .slice none 0 0] ∧ Below w.heap.size w (((w.alloc (.cells #[va, vb, vc] 24)).alloc (.cells #[v0, v1, v2] 24)).alloc (.cells #[.int .i64 0, .int .i64 0, .slice none 0 0] 24)) := by
  have hs : ∀ (W : World) (o : Obj), (W.alloc o).heap.size = W.heap.size + 1 := fun W o => by simp
  have hb0 := ((Row.new w 24 [va, vb, vc]).alloc (.cells #[v0, v1, v2] 24)).alloc (.cells #[.int .i64 0, .int .i64 0, .slice none 0 0] 24)
  have hb1 := (Row.new (w.alloc (.cells #[va, vb, vc] 24)) 24 [v0, v1, v2]).alloc (.cells #[.int .i64 0, .int .i64 0, .slice none 0 0] 24)
  have hb2 := Row.new ((w.alloc (.cells #[va, vb, vc] 24)).alloc (.cells #[v0, v1, v2] 24)) 24 [.int .i64 0, .int .i64 0, .slice none 0 0]
  rw [hs] at hb1
  rw [hs, hs] at hb2
  exact ⟨hb0, hb1, hb2, (((Below.refl _ _).alloc (Nat.le_refl _) _).alloc (by simp) _).alloc (by simp; omega) _⟩
/-- what Mul has made and knows, in any later world -/
structure M3 (w0 : World) (b0 b1 b2 : Nat) (A B : List Value) (w : World) : Prop where
  one : Row w b0 24 A
  two : Row w b1 24 B
  res : Row w b2 24 [.int .i64 0, .int .i64 0, .slice none 0 0]
  bel : Below w0.heap.size w0 w
  le : w0.heap.size ≤ b2
theorem M3.after {w0 w w' : World} {b0 b1 b2 : Nat} {A B : List Value} (h : M3 w0 b0 b1 b2 A B w) (hb : Below w.heap.size w w') : M3 w0 b0 b1 b2 A B w' := ⟨h.one.after hb, h.two.after hb, h.res.after hb, h.bel.trans (hb.mono h.bel.size), h.le⟩
theorem m3_start (w : World) (va vb vc v0 v1 v2 : Value) : M3 w w.heap.size (w.heap.size + 1) (w.heap.size + 1 + 1) [va, vb, vc] [v0, v1, v2] (((w.alloc (.cells #[va, vb, vc] 24)).alloc (.cells #[v0, v1, v2] 24)).alloc (.cells #[.int .i64 0, .int .i64 0, .slice none 0 0] 24)) := by
  obtain ⟨h1, h2, h3, h4⟩ := three_boxes w va vb vc v0 v1 v2
  exact ⟨h1, h2, h3, h4, by omega⟩
set_option maxRecDepth 100000 in
set_option maxHeartbeats 1600000 in
theorem mul_bad2 (ar ac br bc : Int) (an bn acap bcap : Nat) (aa ba : Option Addr) (w : World) (hal : an ≤ maxLen) (hbl : bn ≤ maxLen) (h1 : rightB ar ac an = true) (h2 : rightB br bc bn = true) (h3 : ac ≠ br) :
    Calls Try.prog 20 #[.agg #[.int .i64 ar, .int .i64 ac, .slice aa an acap], .agg #[.int .i64 br, .int .i64 bc, .slice ba bn bcap]] w fun e w' => ∃ ev, e = .returned (.tuple #[nilMat, ev]) ∧ ErrAt w.heap.size w' ev 19 ∧ Below w.heap.size w w' := by
  have S0 := Lib.hid (m3_start w (.int .i64 ar) (.int .i64 ac) (.slice aa an acap) (.int .i64 br) (.int .i64 bc) (.slice ba bn bcap))
  have HX := Lib.hid h1
  have HX2 := Lib.hid h2
  have hne : (ac != br) = true := by simpa using h3
  clear h1 h2 h3
  go_enter Try.func20, Try.ntmps20
  go_wp2_with (first
    | (go_at_call 27; have h9 := S0.out; clear S0; refine (right_gen ar ac an aa acap _ hal).mono ?_; rintro e w1 ⟨rfl, hb⟩; rw [HX.out]; have hm := h9.after hb; obtain ⟨x0, x1, x2⟩ := box3 hm.two; have S1 := Lib.hid hm; clear h9 hb hm)
    | (go_at_call 27; have h9 := S1.out; clear S1; refine (right_gen br bc bn ba bcap _ hbl).mono ?_; rintro e w1 ⟨rfl, hb⟩; rw [HX2.out]; have hm := h9.after hb; obtain ⟨u0, u1, u2⟩ := box3 hm.one; obtain ⟨t0, t1, t2⟩ := box3 hm.two; have S2 := Lib.hid hm; clear h9 hb hm)
    | (go_at_call 36; have h9 := S2.out; clear S2; refine (fault_any 19 (by decide) _).mono ?_; rintro e w2 ⟨ev, rfl, he, hb⟩; have hm := h9.after hb; obtain ⟨z0, z1, z2⟩ := box3 hm.res; obtain ⟨f0, f1, f2⟩ := box3f hm.res; have S3 := Lib.hid (And.intro hm (And.intro he h9.res.lt)); clear h9 hb hm he))
  have hy := set3_row (a := .int .i64 0) (b := .int .i64 0) (c := .slice none 0 0) S3.out.1.res
  obtain ⟨y0, y1, y2⟩ := box3 hy
  exact bodyPost_ret (v := .tuple #[.agg #[.int .i64 0, .int .i64 0, .slice none 0 0], ev]) (by simp [results, Try.results20, go_sem, y0, y1, y2]) rfl ⟨ev, rfl, (set3_err S3.out.2.1 S3.out.2.2).mono (by have := S3.out.2.2; omega), set3_below S3.out.1.bel (by omega)⟩
/-- a product under way: whole above row i, its first k summands in row i -/
def mulF (n c : Nat) (A B : Nat → Nat → BitVec 8) (i k j : Nat) : BitVec 8 := if j / c < i then mmul n A B (j / c) (j % c) else if j / c = i then sm k (fun t => gm (A i t) (B t (j % c))) else 0#8
theorem mulF_zero (n c : Nat) (A B : Nat → Nat → BitVec 8) : (fun _ => 0#8) = mulF n c A B 0 0 := by
  funext j; unfold mulF; rw [if_neg (Nat.not_lt_zero _)]; split <;> rfl
theorem mulF_step (n c : Nat) (A B : Nat → Nat → BitVec 8) (i k : Nat) (hc : 1 ≤ c) : addF (mulF n c A B i k) (i * c) c (A i k) (B k) = mulF n c A B i (k + 1) := by
  funext j
  unfold addF mulF
  by_cases h : i * c ≤ j ∧ j < i * c + c
  · obtain ⟨m, rfl⟩ : ∃ m, j = i * c + m := ⟨j - i * c, by omega⟩
    have hm : m < c := by omega
    rw [if_pos h, idx_div i m hm, idx_mod i m hm, if_neg (Nat.lt_irrefl i), if_pos rfl, if_neg (Nat.lt_irrefl i), if_pos rfl, sm, show i * c + m - i * c = m from by omega]
  · rw [if_neg h]
    have hne : j / c ≠ i := by
      rintro rfl
      apply h
      have h1 := Nat.div_add_mod j c
      have h2 := Nat.mod_lt j (show 0 < c by omega)
      rw [Nat.mul_comm] at h1
      omega
    rw [if_neg hne, if_neg hne]
theorem mulF_next (n c : Nat) (A B : Nat → Nat → BitVec 8) (i : Nat) : mulF n c A B i n = mulF n c A B (i + 1) 0 := by
  funext j
  unfold mulF
  by_cases h : j / c < i
  · rw [if_pos h, if_pos (Nat.lt_succ_of_lt h)]
  · rw [if_neg h]
    by_cases e : j / c = i
    · rw [if_pos e, if_pos (by rw [e]; exact Nat.lt_succ_self i)]; unfold mmul; rw [e]
    · have h2 : ¬ j / c < i + 1 := fun h3 => (Nat.lt_or_eq_of_le (Nat.le_of_lt_succ h3)).elim h e
      rw [if_neg e, if_neg h2]; split <;> rfl
theorem mulF_full (r n c : Nat) (A B : Nat → Nat → BitVec 8) : tab (r * c) (mulF n c A B r 0) = (mat r c (mmul n A B)).cells := by
  unfold mat
  exact tab_congr fun j hj => by unfold mulF; rw [if_pos (row_lt hj)]
end Go.Proofs.Ytbnfnijjldimkaa
