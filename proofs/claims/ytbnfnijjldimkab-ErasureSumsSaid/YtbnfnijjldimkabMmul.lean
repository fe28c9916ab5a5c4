/-
  The walks of matrix.Mul.
-/
import Derived.Test.YtbnfnijjldimkabMcau
import Derived.Deep.RegionHeld3
namespace Go.Proofs.Ytbnfnijjldimkab
open Go.RowKit
set_option linter.unusedVariables false
set_option linter.unusedSimpArgs false
def rightB (r c : Int) (n : Nat) : Bool := decide (1 ≤ r ∧ r ≤ 255 ∧ 1 ≤ c ∧ c ≤ 255 ∧ (n : Int) = r * c)
theorem right_gen (r c : Int) (n : Nat) (a : Option Addr) (cap : Nat) (w : World) (hl : n ≤ maxLen) :
    Calls Try.prog 51 #[.agg #[.int .i64 r, .int .i64 c, .slice a n cap]] w fun e w' => e = .returned (.bool (rightB r c n)) ∧ Below w.heap.size w w' := by
  have h := right_any ⟨r, c, List.replicate n 0#8⟩ a cap w (by simpa using hl)
  simpa [Mt.val, Mt.right, rightB] using h
theorem rightB_ok {r c : Nat} (h1 : 1 ≤ r) (h2 : r ≤ 255) (h3 : 1 ≤ c) (h4 : c ≤ 255) {n : Nat} (h : n = r * c) : rightB r c n = true := by
  unfold rightB
  simp only [decide_eq_true_eq]
  exact ⟨by omega, by omega, by omega, by omega, by rw [h]; simp⟩
theorem rightB_out {r c : Int} {n : Nat} (h : rightB r c n = true) : ∃ a b : Nat, r = a ∧ c = b ∧ 1 ≤ a ∧ a ≤ 255 ∧ 1 ≤ b ∧ b ≤ 255 ∧ n = a * b := by
  unfold rightB at h
  simp only [decide_eq_true_eq] at h
  obtain ⟨h1, h2, h3, h4, h5⟩ := h
  obtain ⟨a, rfl⟩ : ∃ a : Nat, r = a := ⟨r.toNat, by omega⟩
  obtain ⟨b, rfl⟩ : ∃ b : Nat, c = b := ⟨c.toNat, by omega⟩
  refine ⟨a, b, rfl, rfl, by omega, by omega, by omega, by omega, ?_⟩
  have : (n : Int) = ((a * b : Nat) : Int) := by rw [h5]; simp
  omega
/-- a matrix that is read: its cells from a place on -/
def MatRd (w : World) (g o r c : Nat) (M : Nat → Nat → BitVec 8) : Prop := ∀ i j, i < r → j < c → w.cell? ⟨g, o + i * c + j, none⟩ = some (.int .u8 (nv (M i j)))
theorem MatRd.after {w w' : World} {g o r c : Nat} {M : Nat → Nat → BitVec 8} (h : MatRd w g o r c M) (hb : Below w.heap.size w w') : MatRd w' g o r c M := fun i j hi hj =>
  (hb.cell (p := ⟨g, o + i * c + j, none⟩) (rd_cell_lt (h i j hi hj))).trans (h i j hi hj)
theorem MatRd.fr {w w' : World} {g o r c : Nat} {M : Nat → Nat → BitVec 8} (h : MatRd w g o r c M) {L : List Nat} (hf : Fr L w w') (hg : g ∉ L) : MatRd w' g o r c M := fun i j hi hj => cell_fr hf hg (h i j hi hj)
theorem Rd.mat {w : World} {a : Option Addr} {L : List (BitVec 8)} {r c : Nat} (h : Rd w a L) (hl : L.length = r * c) (hr : 1 ≤ r) (hc : 1 ≤ c) : ∃ g o, a = some ⟨g, o, none⟩ ∧ g < w.heap.size ∧ MatRd w g o r c (fun i j => L.getD (i * c + j) 0#8) := by
  have hp : 0 < r * c := Nat.mul_pos hr hc
  obtain ⟨g, o, ha, hg, hcell⟩ := h.open (by omega)
  refine ⟨g, o, ha, hg, fun i j hi hj => ?_⟩
  have hlt := idx_lt hi hj
  have := hcell (i * c + j) (by omega)
  rw [← Nat.add_assoc] at this
  rw [this]
  congr 3
  show _ = L.getD (i * c + j) 0#8
  rw [List.getD_eq_getElem?_getD, List.getElem?_eq_getElem (by omega), Option.getD_some]
theorem box3 {w : World} {g : Nat} {T : TypeId} {a b c : Value} (h : Row w g T [a, b, c]) : w.cell? ⟨g, 0, none⟩ = some a ∧ w.cell? ⟨g, 1, none⟩ = some b ∧ w.cell? ⟨g, 2, none⟩ = some c := ⟨h.cell rfl, h.cell rfl, h.cell rfl⟩
theorem box3f {w : World} {g : Nat} {T : TypeId} {a b c : Value} (h : Row w g T [a, b, c]) : w.frozen? ⟨g, 0, none⟩ = false ∧ w.frozen? ⟨g, 1, none⟩ = false ∧ w.frozen? ⟨g, 2, none⟩ = false := ⟨h.free (by simp), h.free (by simp), h.free (by simp)⟩
/-- the boxes that Mul makes at its start -/
theorem three_boxes (w : World) (va vb vc v0 v1 v2 : Value) : Row (((w.alloc (.cells #[va, vb, vc] 71)).alloc (.cells #[v0, v1, v2] 71)).alloc (.cells #[.int .i64 0, .int .i64 0, .slice none 0 0] 71)) w.heap.size 71 [va, vb, vc] ∧ Row (((w.alloc (.cells #[va, vb, vc] 71)).alloc (.cells #[v0, v1, v2] 71)).alloc (.cells #[.int .i64 0, .int .i64 0, .slice none 0 0] 71)) (w.heap.size + 1) 71 [v0, v1, v2] ∧ Row (((w.alloc (.cells #[va, vb, vc] 71)).alloc (.cells #[v0, v1, v2] 71)).alloc (.cells #[.int .i64 0, .int .i64 0, .slice none 0 0] 71)) (w.heap.size + 1 + 1) 71 [.int .i64 0, .int .i64 0, .slice none 0 0] ∧ Below w.heap.size w (((w.alloc (.cells #[va, vb, vc] 71)).alloc (.cells #[v0, v1, v2] 71)).alloc (.cells #[.int .i64 0, .int .i64 0, .slice none 0 0] 71)) := by
  have hs : ∀ (W : World) (o : Obj), (W.alloc o).heap.size = W.heap.size + 1 := fun W o => by simp
  have hb0 := ((Row.new w 71 [va, vb, vc]).alloc (.cells #[v0, v1, v2] 71)).alloc (.cells #[.int .i64 0, .int .i64 0, .slice none 0 0] 71)
  have hb1 := (Row.new (w.alloc (.cells #[va, vb, vc] 71)) 71 [v0, v1, v2]).alloc (.cells #[.int .i64 0, .int .i64 0, .slice none 0 0] 71)
  have hb2 := Row.new ((w.alloc (.cells #[va, vb, vc] 71)).alloc (.cells #[v0, v1, v2] 71)) 71 [.int .i64 0, .int .i64 0, .slice none 0 0]
  rw [hs] at hb1
  rw [hs, hs] at hb2
  exact ⟨hb0, hb1, hb2, (((Below.refl _ _).alloc (Nat.le_refl _) _).alloc (by simp) _).alloc (by simp; omega) _⟩
/-- what Mul has made and knows, in any later world -/
structure M3 (w0 : World) (b0 b1 b2 : Nat) (A B : List Value) (w : World) : Prop where
  one : Row w b0 71 A
  two : Row w b1 71 B
  res : Row w b2 71 [.int .i64 0, .int .i64 0, .slice none 0 0]
  bel : Below w0.heap.size w0 w
  le : w0.heap.size ≤ b2
theorem M3.after {w0 w w' : World} {b0 b1 b2 : Nat} {A B : List Value} (h : M3 w0 b0 b1 b2 A B w) (hb : Below w.heap.size w w') : M3 w0 b0 b1 b2 A B w' := ⟨h.one.after hb, h.two.after hb, h.res.after hb, h.bel.trans (hb.mono h.bel.size), h.le⟩
theorem m3_start (w : World) (va vb vc v0 v1 v2 : Value) : M3 w w.heap.size (w.heap.size + 1) (w.heap.size + 1 + 1) [va, vb, vc] [v0, v1, v2] (((w.alloc (.cells #[va, vb, vc] 71)).alloc (.cells #[v0, v1, v2] 71)).alloc (.cells #[.int .i64 0, .int .i64 0, .slice none 0 0] 71)) := by
  obtain ⟨h1, h2, h3, h4⟩ := three_boxes w va vb vc v0 v1 v2
  exact ⟨h1, h2, h3, h4, by omega⟩
/-- a product under way: whole above row i, its first k summands in row i -/
def mulF (n c : Nat) (A B : Nat → Nat → BitVec 8) (i k j : Nat) : BitVec 8 := if j / c < i then mmul n A B (j / c) (j % c) else if j / c = i then sm k (fun t => gm (A i t) (B t (j % c))) else 0#8
theorem mulF_zero (n c : Nat) (A B : Nat → Nat → BitVec 8) : (fun _ => 0#8) = mulF n c A B 0 0 := by
  funext j; unfold mulF; rw [if_neg (Nat.not_lt_zero _)]; split <;> rfl
theorem mulF_step (n c : Nat) (A B : Nat → Nat → BitVec 8) (i k : Nat) (hc : 1 ≤ c) : addF (mulF n c A B i k) (i * c) c (A i k) (B k) = mulF n c A B i (k + 1) := by
  funext j
  unfold addF mulF
  by_cases h : i * c ≤ j ∧ j < i * c + c
  · obtain ⟨m, rfl⟩ : ∃ m, j = i * c + m := ⟨j - i * c, by omega⟩
    have hm : m < c := by omega
    rw [if_pos h, idx_div i m hm, idx_mod i m hm, if_neg (Nat.lt_irrefl i), if_pos rfl, if_neg (Nat.lt_irrefl i), if_pos rfl, sm, show i * c + m - i * c = m from by omega]
  · rw [if_neg h]
    have hne : j / c ≠ i := by
      rintro rfl
      apply h
      have h1 := Nat.div_add_mod j c
      have h2 := Nat.mod_lt j (show 0 < c by omega)
      rw [Nat.mul_comm] at h1
      omega
    rw [if_neg hne, if_neg hne]
theorem mulF_next (n c : Nat) (A B : Nat → Nat → BitVec 8) (i : Nat) : mulF n c A B i n = mulF n c A B (i + 1) 0 := by
  funext j
  unfold mulF
  by_cases h : j / c < i
  · rw [if_pos h, if_pos (Nat.lt_succ_of_lt h)]
  · rw [if_neg h]
    by_cases e : j / c = i
    · rw [if_pos e, if_pos (by rw [e]; exact Nat.lt_succ_self i)]; unfold mmul; rw [e]
    · have h2 : ¬ j / c < i + 1 := fun h3 => (Nat.lt_or_eq_of_le (Nat.le_of_lt_succ h3)).elim h e
      rw [if_neg e, if_neg h2]; split <;> rfl
theorem mulF_full (r n c : Nat) (A B : Nat → Nat → BitVec 8) : tab (r * c) (mulF n c A B r 0) = (mat r c (mmul n A B)).cells := by
  unfold mat
  exact tab_congr fun j hj => by unfold mulF; rw [if_pos (row_lt hj)]
end Go.Proofs.Ytbnfnijjldimkab
namespace Go.Proofs.Ytbnfnijjldimkab
open Go.RowKit
set_option linter.unusedVariables false
set_option linter.unusedSimpArgs false
/-- what Mul holds in its loops -/
structure MulS (w0 : World) (b0 b1 b2 bx g ga oa gb ob r n c N : Nat) (A B : Nat → Nat → BitVec 8) (LA LB LX : List Value) (f : Nat → BitVec 8) (w : World) : Prop where
  m3 : M3 w0 b0 b1 b2 LA LB w
  box : Row w bx 71 LX
  row : Row w g 5 (ncells (tab N f) ++ [])
  one : MatRd w ga oa r n A
  two : MatRd w gb ob n c B
section
variable {w0 w w' : World} {b0 b1 b2 bx g ga oa gb ob r n c N : Nat} {A B : Nat → Nat → BitVec 8} {LA LB LX : List Value} {f f' : Nat → BitVec 8}
theorem MulS.after (h : MulS w0 b0 b1 b2 bx g ga oa gb ob r n c N A B LA LB LX f w) (hb : Below w.heap.size w w') : MulS w0 b0 b1 b2 bx g ga oa gb ob r n c N A B LA LB LX f w' :=
  ⟨h.m3.after hb, h.box.after hb, h.row.after hb, h.one.after hb, h.two.after hb⟩
theorem MulS.add (h : MulS w0 b0 b1 b2 bx g ga oa gb ob r n c N A B LA LB LX f w) (hr : Row w' g 5 (ncells (tab N f') ++ [])) (hf : Fr [g] w w') (hg : w0.heap.size ≤ g) (ha : ga < w0.heap.size) (hb : gb < w0.heap.size) : MulS w0 b0 b1 b2 bx g ga oa gb ob r n c N A B LA LB LX f' w' := by
  have h0 : b0 ∉ [g] := by simp only [List.mem_singleton]; exact h.m3.one.ne h.row (by decide)
  have h1 : b1 ∉ [g] := by simp only [List.mem_singleton]; exact h.m3.two.ne h.row (by decide)
  have h2 : b2 ∉ [g] := by simp only [List.mem_singleton]; exact h.m3.res.ne h.row (by decide)
  have h3 : bx ∉ [g] := by simp only [List.mem_singleton]; exact h.box.ne h.row (by decide)
  exact ⟨⟨h.m3.one.fr hf h0, h.m3.two.fr hf h1, h.m3.res.fr hf h2, h.m3.bel.trans (hf.below h.m3.bel.size (fun i hi => by simp only [List.mem_singleton] at hi; omega)), h.m3.le⟩, h.box.fr hf h3, hr, h.one.fr hf (by simp; omega), h.two.fr hf (by simp; omega)⟩
end
end Go.Proofs.Ytbnfnijjldimkab
