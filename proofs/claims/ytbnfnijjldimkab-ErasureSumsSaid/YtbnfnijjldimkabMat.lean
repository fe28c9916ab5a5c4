/-
  Matrices in memory: tables of bytes, and values of the type Matrix.
-/
import Derived.Test.YtbnfnijjldimkabGscale
import Derived.Test.YtbnfnijjldimkabMx
import Derived.Test.YtbnfnijjldimkabFrame
namespace Go.Proofs.Ytbnfnijjldimkab
open Go.RowKit
/-- bytes as cells -/
def ncells (l : List (BitVec 8)) : List Value := l.map fun x => .int .u8 (nv x)
theorem ncells_length (l : List (BitVec 8)) : (ncells l).length = l.length := by simp [ncells]
theorem ncells_get (l : List (BitVec 8)) (j : Nat) (h : j < l.length) : (ncells l)[j]? = some (.int .u8 (nv l[j])) := by simp [ncells, h]
theorem ncells_append (a b : List (BitVec 8)) : ncells (a ++ b) = ncells a ++ ncells b := by simp [ncells]
theorem ncells_bcells (l : List UInt8) : bcells l = ncells (l.map UInt8.toBitVec) := by
  simp [ncells, bcells, nv_u8]
/-- a table of n numbers -/
def tab (n : Nat) (f : Nat → BitVec 8) : List (BitVec 8) := (List.range n).map f
theorem tab_length (n : Nat) (f : Nat → BitVec 8) : (tab n f).length = n := by simp [tab]
theorem tab_get (n : Nat) (f : Nat → BitVec 8) (j : Nat) (h : j < n) : (tab n f)[j]'(by rw [tab_length]; exact h) = f j := by simp [tab]
theorem tab_get? (n : Nat) (f : Nat → BitVec 8) (j : Nat) (h : j < n) : (tab n f)[j]? = some (f j) := by simp [tab, h]
theorem tab_congr {n : Nat} {f g : Nat → BitVec 8} (h : ∀ j, j < n → f j = g j) : tab n f = tab n g := by
  unfold tab; exact List.map_congr_left fun j hj => h j (List.mem_range.1 hj)
theorem tab_inj {n : Nat} {f g : Nat → BitVec 8} (h : tab n f = tab n g) : ∀ j, j < n → f j = g j := by
  intro j hj
  have := congrArg (fun l : List (BitVec 8) => l[j]?) h
  simp only [tab_get? _ _ _ hj] at this
  exact Option.some.inj this
theorem tab_set {n : Nat} (f : Nat → BitVec 8) (k : Nat) (x : BitVec 8) : (tab n f).set k x = tab n (fun j => if j = k then x else f j) := by
  apply List.ext_getElem
  · simp [tab_length]
  · intro i h1 h2
    have hi : i < n := by rw [tab_length] at h2; exact h2
    rw [List.getElem_set, tab_get _ _ _ hi, tab_get _ _ _ hi]
    by_cases e : k = i
    · rw [if_pos e, if_pos e.symm]
    · rw [if_neg e, if_neg (fun h => e h.symm)]
theorem ncells_set (l : List (BitVec 8)) (k : Nat) (x : BitVec 8) : (ncells l).set k (.int .u8 (nv x)) = ncells (l.set k x) := by simp [ncells, List.map_set]
theorem list_tab (l : List (BitVec 8)) : l = tab l.length (fun j => l.getD j 0#8) := by
  apply List.ext_getElem
  · simp [tab_length]
  · intro i h1 h2
    rw [tab_get _ _ _ h1]
    simp [List.getD_eq_getElem?_getD, List.getElem?_eq_getElem h1]
theorem tab_zero (n : Nat) : tab n (fun _ => 0#8) = List.replicate n 0#8 := by
  simp [tab, List.map_const']
theorem ncells_zero (n : Nat) : ncells (List.replicate n 0#8) = bcells (List.replicate n 0) := by
  simp [ncells, bcells, nv_zero]
/-- a slice at a that reads as the list -/
def Rd (w : World) (a : Option Addr) (L : List (BitVec 8)) : Prop := ∀ j (h : j < L.length), ∃ g o, a = some ⟨g, o, none⟩ ∧ w.cell? ⟨g, o + j, none⟩ = some (.int .u8 (nv L[j]))
theorem rd_cell_lt {w : World} {p : Addr} {v : Value} (h : w.cell? p = some v) : p.block < w.heap.size := by
  unfold World.cell? at h
  by_cases h9 : p.block < w.heap.size
  · exact h9
  · rw [Array.getElem?_eq_none (by omega)] at h; cases h
theorem Rd.after {w w' : World} {a : Option Addr} {L : List (BitVec 8)} (h : Rd w a L) (hb : Below w.heap.size w w') : Rd w' a L := fun j hj => by
  obtain ⟨g, o, ha, hc⟩ := h j hj
  exact ⟨g, o, ha, (hb.cell (p := ⟨g, o + j, none⟩) (rd_cell_lt hc)).trans hc⟩
theorem Rd.below {B : Nat} {w w' : World} {a : Option Addr} {L : List (BitVec 8)} (h : Rd w a L) (hb : Below B w w') (ha : ∀ g o, a = some ⟨g, o, none⟩ → g < B) : Rd w' a L := fun j hj => by
  obtain ⟨g, o, he, hc⟩ := h j hj
  exact ⟨g, o, he, (hb.cell (p := ⟨g, o + j, none⟩) (ha g o he)).trans hc⟩
theorem cell_fr {w w' : World} {Ls : List Nat} (hf : Fr Ls w w') {g o : Nat} {v : Value} (hg : g ∉ Ls) (hc : w.cell? ⟨g, o, none⟩ = some v) : w'.cell? ⟨g, o, none⟩ = some v := by
  have hl := rd_cell_lt hc
  have hk := hf.block g hl hg
  unfold World.cell? at hc ⊢
  simp only at hc ⊢
  rw [hk]; exact hc
theorem Rd.fr {w w' : World} {Ls : List Nat} {a : Option Addr} {L : List (BitVec 8)} (h : Rd w a L) (hf : Fr Ls w w') (ha : ∀ g o, a = some ⟨g, o, none⟩ → g ∉ Ls) : Rd w' a L := fun j hj => by
  obtain ⟨g, o, he, hc⟩ := h j hj
  exact ⟨g, o, he, cell_fr hf (ha g o he) hc⟩
theorem Rd.nil (w : World) (a : Option Addr) : Rd w a [] := fun j hj => by simp at hj
/-- a slice of bytes reads so, when it is not empty -/
theorem Rd.open {w : World} {a : Option Addr} {L : List (BitVec 8)} (h : Rd w a L) (hn : 0 < L.length) : ∃ g o, a = some ⟨g, o, none⟩ ∧ g < w.heap.size ∧ ∀ j (hj : j < L.length), w.cell? ⟨g, o + j, none⟩ = some (.int .u8 (nv L[j])) := by
  obtain ⟨g, o, ha, hc⟩ := h 0 hn
  refine ⟨g, o, ha, rd_cell_lt hc, fun j hj => ?_⟩
  obtain ⟨g', o', ha', hc'⟩ := h j hj
  rw [ha] at ha'
  simp only [Option.some.injEq, Addr.mk.injEq] at ha'
  rw [ha'.1, ha'.2.1]; exact hc'
theorem Rd.of_row {w : World} {g o : Nat} {L : List (BitVec 8)} {l : List Value} (h : Row w g 5 l) (hl : (l.drop o).take L.length = ncells L) : Rd w (some ⟨g, o, none⟩) L := fun j hj => by
  refine ⟨g, o, rfl, h.cell ?_⟩
  have : ((l.drop o).take L.length)[j]? = l[o + j]? := by rw [List.getElem?_take, if_pos hj, List.getElem?_drop]
  rw [← this, hl, ncells_get _ _ hj]
/-- a matrix as it is handed: rows, columns, cells -/
structure Mt where
  rows : Int
  cols : Int
  cells : List (BitVec 8)
def Mt.val (m : Mt) (a : Option Addr) (cap : Nat) : Value := .agg #[.int .i64 m.rows, .int .i64 m.cols, .slice a m.cells.length cap]
/-- is it one? -/
def Mt.right (m : Mt) : Bool := decide (1 ≤ m.rows ∧ m.rows ≤ 255 ∧ 1 ≤ m.cols ∧ m.cols ≤ 255 ∧ (m.cells.length : Int) = m.rows * m.cols)
/-- the matrix of a function -/
def mat (r c : Nat) (M : Nat → Nat → BitVec 8) : Mt := ⟨r, c, tab (r * c) (fun j => M (j / c) (j % c))⟩
/-- a matrix' cell -/
def Mt.at_ (m : Mt) (i j : Nat) : BitVec 8 := m.cells.getD (i * m.cols.toNat + j) 0#8
theorem idx_div {c : Nat} (i j : Nat) (h : j < c) : (i * c + j) / c = i := by
  rw [Nat.mul_comm, Nat.mul_add_div (by omega), Nat.div_eq_of_lt h]; omega
theorem idx_mod {c : Nat} (i j : Nat) (h : j < c) : (i * c + j) % c = j := by
  rw [Nat.mul_comm, Nat.mul_add_mod, Nat.mod_eq_of_lt h]
theorem idx_lt {r c : Nat} {i j : Nat} (hi : i < r) (hj : j < c) : i * c + j < r * c := by
  have : (i + 1) * c ≤ r * c := Nat.mul_le_mul_right c hi
  rw [Nat.add_mul] at this; omega
theorem row_lt {r c k : Nat} (h : k < r * c) : k / c < r := Nat.div_lt_of_lt_mul (by rw [Nat.mul_comm]; exact h)
theorem mat_at {r c : Nat} {M : Nat → Nat → BitVec 8} {i j : Nat} (hi : i < r) (hj : j < c) : (mat r c M).at_ i j = M i j := by
  unfold Mt.at_ mat
  simp only [Int.toNat_natCast]
  rw [List.getD_eq_getElem?_getD, tab_get? _ _ _ (idx_lt hi hj), Option.getD_some, idx_div i j hj, idx_mod i j hj]
theorem Mt.right_eq {m : Mt} (h : m.right = true) : ∃ r c : Nat, m.rows = r ∧ m.cols = c ∧ 1 ≤ r ∧ r ≤ 255 ∧ 1 ≤ c ∧ c ≤ 255 ∧ m.cells.length = r * c ∧ m = mat r c m.at_ := by
  unfold Mt.right at h
  simp only [decide_eq_true_eq] at h
  obtain ⟨h1, h2, h3, h4, h5⟩ := h
  obtain ⟨r, hr⟩ : ∃ r : Nat, m.rows = r := ⟨m.rows.toNat, by omega⟩
  obtain ⟨c, hc⟩ : ∃ r : Nat, m.cols = r := ⟨m.cols.toNat, by omega⟩
  have hl : m.cells.length = r * c := by
    rw [hr, hc] at h5
    have : (m.cells.length : Int) = ((r * c : Nat) : Int) := by rw [h5]; simp
    omega
  refine ⟨r, c, hr, hc, by omega, by omega, by omega, by omega, hl, ?_⟩
  obtain ⟨mr, mc, ml⟩ := m
  simp only at hr hc hl
  subst hr hc
  unfold mat
  simp only [Mt.mk.injEq, true_and]
  rw [← hl]
  conv => lhs; rw [list_tab ml]
  refine tab_congr fun j hj => ?_
  unfold Mt.at_
  simp only [Int.toNat_natCast]
  rw [Nat.mul_comm, Nat.div_add_mod]
theorem mat_congr {r c : Nat} {M N : Nat → Nat → BitVec 8} (h : ∀ i j, i < r → j < c → M i j = N i j) : mat r c M = mat r c N := by
  unfold mat
  congr 1
  refine tab_congr fun j hj => h _ _ (row_lt hj) (Nat.mod_lt _ ?_)
  rcases Nat.eq_zero_or_pos c with rfl | hc
  · simp at hj
  · exact hc
theorem mat_inj {r c : Nat} {M N : Nat → Nat → BitVec 8} (h : mat r c M = mat r c N) {i j : Nat} (hi : i < r) (hj : j < c) : M i j = N i j := by
  rw [← mat_at (M := M) hi hj, h, mat_at hi hj]
theorem mat_right {r c : Nat} (M : Nat → Nat → BitVec 8) (h1 : 1 ≤ r) (h2 : r ≤ 255) (h3 : 1 ≤ c) (h4 : c ≤ 255) : (mat r c M).right = true := by
  unfold Mt.right mat
  simp only [decide_eq_true_eq, tab_length]
  refine ⟨by omega, by omega, by omega, by omega, by simp⟩
section
variable {w : World} {g N i : Nat} {f : Nat → BitVec 8} {sp : List Value}
theorem tab_cell (h : Row w g 5 (ncells (tab N f) ++ sp)) (hi : i < N) : w.cell? ⟨g, i, none⟩ = some (.int .u8 (nv (f i))) :=
  h.cell (by rw [List.getElem?_append_left (by rw [ncells_length, tab_length]; exact hi), ncells_get _ _ (by rw [tab_length]; exact hi), tab_get _ _ _ hi])
theorem tab_free (h : Row w g 5 (ncells (tab N f) ++ sp)) (hi : i < N) : w.frozen? ⟨g, i, none⟩ = false :=
  h.free (by rw [List.length_append, ncells_length, tab_length]; omega)
theorem tab_store (h : Row w g 5 (ncells (tab N f) ++ sp)) (hi : i < N) (x : BitVec 8) : Row (w.setCell ⟨g, i, none⟩ (.int .u8 (nv x))) g 5 (ncells (tab N (fun j => if j = i then x else f j)) ++ sp) := by
  have hm := h.set i (.int .u8 (nv x))
  rw [List.set_append_left _ _ (by rw [ncells_length, tab_length]; exact hi), ncells_set, tab_set] at hm
  exact hm
theorem tab0_cell (h : Row0 w g 5 (ncells (tab N f))) (hi : i < N) : w.cell? ⟨g, i, none⟩ = some (.int .u8 (nv (f i))) :=
  h.row.cell (by rw [ncells_get _ _ (by rw [tab_length]; exact hi), tab_get _ _ _ hi])
theorem tab0_free (h : Row0 w g 5 (ncells (tab N f))) (hi : i < N) : w.frozen? ⟨g, i, none⟩ = false :=
  h.row.free (by rw [ncells_length, tab_length]; exact hi)
theorem tab0_store (h : Row0 w g 5 (ncells (tab N f))) (x : BitVec 8) : Row0 (w.setCell ⟨g, i, none⟩ (.int .u8 (nv x))) g 5 (ncells (tab N (fun j => if j = i then x else f j))) := by
  have hm := h.set i (.int .u8 (nv x))
  rw [ncells_set, tab_set] at hm
  exact hm
end
end Go.Proofs.Ytbnfnijjldimkab
