/-
  Rows: a block of cells that is known whole. What it says of its cells; what stores, new blocks and draws do to it; conversions between strings and rows of bytes.
-/
import Derived.WalkKit
import Derived.WalkSpells
import Derived.WalkLawsBesides
import Derived.Laws.IdiomStrings
import Derived.Laws.CopyOwn
import Derived.Lib.Hide
namespace Go.Proofs.Ytbnfnijjldimkab
open Go.RowKit

/-- block g holds just the cells l, of type e, and none of them is frozen -/
def Row (w : World) (g : Nat) (e : TypeId) (l : List Value) : Prop := ∃ f : Nat × Nat, w.heap[g]? = some (.cells l.toArray e f) ∧ (f = (0, 0) ∨ l.length ≤ f.1)

theorem Row.mk {w : World} {g : Nat} {e : TypeId} {l : List Value} (h : w.heap[g]? = some (.cells l.toArray e (0, 0))) : Row w g e l := ⟨_, h, Or.inl rfl⟩
theorem Row.cell {w : World} {g : Nat} {e : TypeId} {l : List Value} (h : Row w g e l) {j : Nat} {v : Value} (hj : l[j]? = some v) : w.cell? ⟨g, j, none⟩ = some v := by
  obtain ⟨f, hg, _⟩ := h
  rw [cell_of_row w g j _ e f hg]; simpa using hj
theorem Row.free {w : World} {g : Nat} {e : TypeId} {l : List Value} (h : Row w g e l) {j : Nat} (hj : j < l.length) : w.frozen? ⟨g, j, none⟩ = false := by
  obtain ⟨f, hg, hf⟩ := h
  simp only [World.frozen?, hg]
  rcases hf with rfl | hf
  · simp
  · simp; omega
theorem Row.lt {w : World} {g : Nat} {e : TypeId} {l : List Value} (h : Row w g e l) : g < w.heap.size := by
  obtain ⟨f, hg, _⟩ := h
  exact (Array.getElem?_eq_some_iff.1 hg).1
theorem Row.set {w : World} {g : Nat} {e : TypeId} {l : List Value} (h : Row w g e l) (j : Nat) (v : Value) : Row (w.setCell ⟨g, j, none⟩ v) g e (l.set j v) := by
  obtain ⟨f, hg, hf⟩ := h
  refine ⟨f, ?_, by simpa using hf⟩
  rw [setCell_eq_setRow w g j _ e f v hg]
  have := setRow_heap w g _ (l.toArray.setIfInBounds j v) e f hg
  rw [this]; simp
theorem Row.other {w : World} {g : Nat} {e : TypeId} {l : List Value} (h : Row w g e l) {p : Addr} (hp : g ≠ p.block) (v : Value) : Row (w.setCell p v) g e l := by
  obtain ⟨f, hg, hf⟩ := h
  exact ⟨f, by rw [Below.heap_setCell w p v g hp]; exact hg, hf⟩
theorem Row.drew {w : World} {g : Nat} {e : TypeId} {l : List Value} (h : Row w g e l) : Row w.drew g e l := h
theorem Row.drewN {w : World} {g : Nat} {e : TypeId} {l : List Value} (h : Row w g e l) (n : Nat) : Row (w.drewN n) g e l := h
theorem Row.alloc {w : World} {g : Nat} {e : TypeId} {l : List Value} (h : Row w g e l) (o : Obj) : Row (w.alloc o) g e l := by
  have hl := h.lt
  obtain ⟨f, hg, hf⟩ := h
  exact ⟨f, by rw [Below.heap_alloc w o g hl]; exact hg, hf⟩
theorem Row.new (w : World) (e : TypeId) (l : List Value) : Row (w.alloc (.cells l.toArray e)) w.heap.size e l := ⟨_, heap_alloc_new _ _, Or.inl rfl⟩
theorem Row.below {B : Nat} {w w' : World} {g : Nat} {e : TypeId} {l : List Value} (h : Row w g e l) (hb : Below B w w') (hg : g < B) : Row w' g e l := by
  obtain ⟨f, hh, hf⟩ := h
  exact ⟨f, (hb.block g hg).trans hh, hf⟩
/-- seen from w's own size on, all that is below w's size stays -/
theorem Row.after {w w' : World} {g : Nat} {e : TypeId} {l : List Value} (h : Row w g e l) (hb : Below w.heap.size w w') : Row w' g e l := h.below hb h.lt
theorem Row.setRow {w : World} {g : Nat} {e : TypeId} {l : List Value} (h : Row w g e l) (l' : List Value) (hl : l'.length = l.length) : Row (w.setRow g l'.toArray) g e l' := by
  obtain ⟨f, hg, hf⟩ := h
  exact ⟨f, setRow_heap w g _ _ e f hg, by rw [hl]; exact hf⟩

/-- bytes as cells -/
def bcells (l : List UInt8) : List Value := l.map fun u => .int .u8 (u.toNat : Int)
theorem bcells_length (l : List UInt8) : (bcells l).length = l.length := by simp [bcells]
theorem bcells_get (l : List UInt8) (j : Nat) (h : j < l.length) : (bcells l)[j]? = some (.int .u8 (l[j].toNat : Int)) := by
  simp [bcells, h]
theorem bcells_append (a b : List UInt8) : bcells (a ++ b) = bcells a ++ bcells b := by simp [bcells]
theorem bcells_take (l : List UInt8) (n : Nat) : (bcells l).take n = bcells (l.take n) := by simp [bcells, List.map_take]
theorem bcells_drop (l : List UInt8) (n : Nat) : (bcells l).drop n = bcells (l.drop n) := by simp [bcells, List.map_drop]
theorem bcells_set (l : List UInt8) (n : Nat) (u : UInt8) : (bcells l).set n (.int .u8 (u.toNat : Int)) = bcells (l.set n u) := by simp [bcells, List.map_set]
theorem bcells_replicate (n : Nat) : List.replicate n (Value.int .u8 0) = bcells (List.replicate n 0) := by simp [bcells]

section
variable {P : Program}
/-- an operation whose run is known -/
theorem wpList_run {ops : Array Oper} {rest : List Oper} {o : Oper} {a : Act} {w w' : World} {Q : Exit → Act → World → Prop} (hg : o.guard = none) {v : Value}
    (hrun : (execOp a.eval o).run P w = .ok (.value v) w') (h : wpList P ops Q rest (a.put o.dst v) w') : wpList P ops Q (o :: rest) a w :=
  wpList_plain hg fun _ hK => by
    unfold Oper.wp
    rw [hrun]
    exact hK _ _ h

/-- '[]byte(s)': a new row that begins with the string's bytes -/
theorem wpList_bytes {ops : Array Oper} {rest : List Oper} {o : Oper} {a : Act} {w : World} {Q : Exit → Act → World → Prop} (hg : o.guard = none) (src dst e : TypeId) (x : Operand) (ho : o.op = .convert src dst x)
    (s : ByteArray) (hx : a.eval x = .string s) (hs : P.underlying src = some .string) (hd : P.underlying dst = some (.slice e)) (he : P.underlying e = some (.int .u8))
    (h : ∀ (g cap : Nat) (r : List Value) (w1 : World), w.heap.size ≤ g → Row w1 g e (bcells s.data.toList ++ r) → s.size + r.length = cap → Below w.heap.size w w1 →
      wpList P ops Q rest (a.put o.dst (.slice (some ⟨g, 0, none⟩) s.size cap)) w1) : wpList P ops Q (o :: rest) a w := by
  have hr := run_bytes_of_string (P := P) w src dst e s hs hd he
  generalize hcap : grownCap w s.size 0 e = cap at hr
  have hge := grownCap_ge w s.size 0 e
  rw [hcap] at hge
  refine wpList_run (w' := (w.drew.alloc (.cells (bytesRow s cap) e ((bytesRow s cap).size, (bytesRow s cap).size + 1)))) hg ?_ (h w.heap.size cap (List.replicate (cap - s.size) (Value.int .u8 0)) _ (Nat.le_refl _) ?_ ?_ ?_)
  · unfold execOp
    simp only [ho, hx, Sem.run_bind, hr, Result.andThen_ok, Sem.run_pure]
  · have e1 : bytesRow s cap = (bcells s.data.toList ++ List.replicate (cap - s.size) (Value.int .u8 0)).toArray := by
      simp [bytesRow, bcells]
    refine ⟨((bytesRow s cap).size, (bytesRow s cap).size + 1), ?_, Or.inr ?_⟩
    · rw [← e1]; exact heap_alloc_new w.drew _
    · rw [e1]; simp
  · simp; omega
  · exact ((Below.refl _ _).drew).alloc (by show w.heap.size ≤ w.heap.size; omega) _

/-- 'string(b)' of a piece of a row of bytes -/
theorem run_string_of_row (w : World) (src dst e : TypeId) (hs : P.underlying src = some (.slice e)) (he : P.underlying e = some (.int .u8)) (hd : P.underlying dst = some .string)
    {g : Nat} {L : List Value} (h : Row w g e L) (off n cap : Nat) (l : List UInt8) (hn : l.length = n) (hl : (L.drop off).take n = bcells l) :
    (convert src dst (.slice (some ⟨g, off, none⟩) n cap)).run P w = .ok (.string ⟨l.toArray⟩) w := by
  subst hn
  refine run_convert_bytes_back w src dst e ⟨g, off, none⟩ cap l hs he hd fun j hj => ?_
  have e1 : (⟨g, off, none⟩ : Addr).add j = ⟨g, off + j, none⟩ := by unfold Addr.add; split <;> simp_all
  rw [e1]
  apply h.cell
  have e2 : ((L.drop off).take l.length)[j]? = L[off + j]? := by
    rw [List.getElem?_take, if_pos hj, List.getElem?_drop]
  rw [← e2, hl, bcells_get l j hj]
end
theorem getElem_data (t : ByteArray) (k : Nat) (_h : k < t.size) (h' : k < t.data.toList.length) : t.data.toList[k] = t[k] := by
  simp; rfl
end Go.Proofs.Ytbnfnijjldimkab
