/-
  Frames: which blocks a call may have changed. Errors: a fault that lies in memory.
-/
import Derived.Test.YtbnfnijjldimkabMem
import Derived.Deep.AppendLies
namespace Go.Proofs.Ytbnfnijjldimkab
open Go.RowKit
/-- of what was there in w nothing has changed in w' but the blocks of the list -/
structure Fr (L : List Nat) (w w' : World) : Prop where
  os : w'.os = w.os
  tape : w'.tape = w.tape
  output : w'.output = w.output
  size : w.heap.size ≤ w'.heap.size
  block : ∀ k, k < w.heap.size → k ∉ L → w'.heap[k]? = w.heap[k]?
theorem Fr.refl (L : List Nat) (w : World) : Fr L w w := ⟨rfl, rfl, rfl, Nat.le_refl _, fun _ _ _ => rfl⟩
theorem Fr.trans {L L' : List Nat} {a b c : World} (h : Fr L a b) (k : Fr L' b c) (hL : ∀ i, i ∈ L' → i < a.heap.size → i ∈ L) : Fr L a c :=
  ⟨k.os.trans h.os, k.tape.trans h.tape, k.output.trans h.output, Nat.le_trans h.size k.size, fun i hi hn =>
    (k.block i (Nat.lt_of_lt_of_le hi h.size) (fun hm => hn (hL i hm hi))).trans (h.block i hi hn)⟩
theorem Fr.mono {L L' : List Nat} {a b : World} (h : Fr L a b) (hL : ∀ i, i ∈ L → i < a.heap.size → i ∈ L') : Fr L' a b :=
  ⟨h.os, h.tape, h.output, h.size, fun i hi hn => h.block i hi (fun hm => hn (hL i hm hi))⟩
theorem Fr.of_below {L : List Nat} {w w' : World} (h : Below w.heap.size w w') : Fr L w w' := ⟨h.os, h.tape, h.output, h.size, fun k hk _ => h.block k hk⟩
theorem Fr.below {L : List Nat} {w w' : World} {B : Nat} (h : Fr L w w') (hB : B ≤ w.heap.size) (hL : ∀ i, i ∈ L → B ≤ i) : Below B w w' :=
  ⟨h.os, h.tape, h.output, h.size, fun k hk => h.block k (by omega) (fun hm => by have := hL k hm; omega)⟩
theorem Fr.nil_below {w w' : World} (h : Fr [] w w') : Below w.heap.size w w' := h.below (Nat.le_refl _) (fun i hi => by simp at hi)
theorem Fr.drew {L : List Nat} {a w : World} (h : Fr L a w) : Fr L a w.drew := ⟨h.os, h.tape, h.output, h.size, h.block⟩
theorem Fr.alloc {L : List Nat} {a w : World} (h : Fr L a w) (o : Obj) : Fr L a (w.alloc o) :=
  ⟨h.os, h.tape, h.output, Nat.le_trans h.size (by simp), fun k hk hn => (Below.heap_alloc w o k (Nat.lt_of_lt_of_le hk h.size)).trans (h.block k hk hn)⟩
theorem Fr.setCell {L : List Nat} {a w : World} (h : Fr L a w) {p : Addr} (hp : p.block ∈ L ∨ a.heap.size ≤ p.block) (v : Value) : Fr L a (w.setCell p v) :=
  ⟨h.os, h.tape, h.output, Nat.le_trans h.size (by simp [World.setCell]), fun k hk hn =>
    (Below.heap_setCell w p v k (by rintro rfl; rcases hp with hp | hp; exact hn hp; omega)).trans (h.block k hk hn)⟩
theorem Fr.setRow {L : List Nat} {a w : World} (h : Fr L a w) {g : Nat} (hp : g ∈ L ∨ a.heap.size ≤ g) (cs : Array Value) : Fr L a (w.setRow g cs) :=
  ⟨h.os, h.tape, h.output, Nat.le_trans h.size (by simp), fun k hk hn =>
    (setRow_other w g k cs (by rintro rfl; rcases hp with hp | hp; exact hn hp; omega)).trans (h.block k hk hn)⟩
theorem Fr.grown {L : List Nat} {a w w' : World} {row : Option Nat} (h : Fr L a w) (hg : w.grownBy w' row) (hr : ∀ k, row = some k → k ∈ L ∨ a.heap.size ≤ k) : Fr L a w' :=
  ⟨hg.os.trans h.os, hg.tape.trans h.tape, hg.output.trans h.output, Nat.le_trans h.size hg.size, fun k hk hn =>
    (hg.block k (Nat.lt_of_lt_of_le hk h.size) (fun e => by rcases hr k e.symm with hp | hp; exact hn hp; omega)).trans (h.block k hk hn)⟩
theorem Row.fr {w w' : World} {g : Nat} {e : TypeId} {l : List Value} (h : Row w g e l) {L : List Nat} (hf : Fr L w w') (hg : g ∉ L) : Row w' g e l := by
  have hl := h.lt
  obtain ⟨f, hh, hb⟩ := h
  exact ⟨f, (hf.block g hl hg).trans hh, hb⟩
theorem ownsRow_fr {w w' : World} {base : Nat} {e : TypeId} {size : Nat} {v : Value} {n : Nat} {xs : List Value} (h : w.ownsRow base e size v n xs) {L : List Nat} (hf : Fr L w w') (hg : ∀ g, v.ownBlock = some g → g ∉ L) : w'.ownsRow base e size v n xs := by
  obtain ⟨h1, h2⟩ := h
  refine ⟨h1, ?_⟩
  rcases h2 with h2 | ⟨g, cap, cur, hv, hb, hh, r⟩
  · exact Or.inl h2
  · have hlt : g < w.heap.size := (Array.getElem?_eq_some_iff.1 hh).1
    exact Or.inr ⟨g, cap, cur, hv, hb, (hf.block g hlt (hg g (by rw [hv]; rfl))).trans hh, r⟩
/-- two rows of different types are two blocks -/
theorem Row.ne {w : World} {g g' : Nat} {e e' : TypeId} {l l' : List Value} (h : Row w g e l) (h' : Row w g' e' l') (he : e ≠ e') : g ≠ g' := by
  rintro rfl
  obtain ⟨f, hh, _⟩ := h
  obtain ⟨f', hh', _⟩ := h'
  rw [hh] at hh'
  simp only [Option.some.injEq, Obj.cells.injEq] at hh'
  exact he hh'.2.1
theorem Row.ne_own {w : World} {g : Nat} {e e' : TypeId} {l : List Value} {base size : Nat} {v : Value} {n : Nat} {xs : List Value} (h : Row w g e l) (h' : w.ownsRow base e' size v n xs) (he : e ≠ e') : v.ownBlock ≠ some g := by
  intro e1
  rcases h'.2 with ⟨hv, _⟩ | ⟨g', cap, cur, hv, _, hh, _⟩
  · rw [hv] at e1; cases e1
  · rw [hv] at e1
    simp only [Value.ownBlock, Option.some.injEq] at e1
    subst e1
    obtain ⟨f, hg, _⟩ := h
    rw [hg] at hh
    simp only [Option.some.injEq, Obj.cells.injEq] at hh
    exact he hh.2.1
/-- a cell of what a slice owns -/
theorem own_cell {w : World} {base : Nat} {e : TypeId} {size : Nat} {v : Value} {n : Nat} {xs : List Value} (h : w.ownsRow base e size v n xs) {g : Nat} (hg : v.ownBlock = some g) {j : Nat} {u : Value} (hj : xs[j]? = some u) : w.cell? ⟨g, j, none⟩ = some u := by
  have := h.cells hg j u hj
  have e1 : (⟨g, 0, none⟩ : Addr).add j = ⟨g, j, none⟩ := by unfold Addr.add; split <;> simp_all
  rwa [e1] at this
/-- block g holds just the cells l, none frozen -/
def Row0 (w : World) (g : Nat) (e : TypeId) (l : List Value) : Prop := w.heap[g]? = some (.cells l.toArray e (0, 0))
theorem Row0.row {w : World} {g : Nat} {e : TypeId} {l : List Value} (h : Row0 w g e l) : Row w g e l := Row.mk h
theorem Row0.fr {w w' : World} {g : Nat} {e : TypeId} {l : List Value} (h : Row0 w g e l) {L : List Nat} (hf : Fr L w w') (hg : g ∉ L) : Row0 w' g e l := (hf.block g h.row.lt hg).trans h
theorem Row0.new (w : World) (e : TypeId) (l : List Value) : Row0 (w.alloc (.cells l.toArray e)) w.heap.size e l := heap_alloc_new _ _
theorem Row0.set {w : World} {g : Nat} {e : TypeId} {l : List Value} (h : Row0 w g e l) (j : Nat) (v : Value) : Row0 (w.setCell ⟨g, j, none⟩ v) g e (l.set j v) := by
  have := heap_setCell_same w g j _ e v h
  unfold Row0; rw [this]; simp
theorem Row0.setRow {w : World} {g : Nat} {e : TypeId} {l : List Value} (h : Row0 w g e l) (l' : List Value) : Row0 (w.setRow g l'.toArray) g e l' := setRow_heap w g _ _ e (0, 0) h
section
variable {P : Program}
/-- 'make([]byte, n)' -/
theorem run_make_bytes (T E : TypeId) (i0 : TypeInfo) (hT : P.underlying T = some (.slice E)) (hi : P.info? E = some i0) (hz : i0.zero = some (.int .u8 0)) (hs : i0.size = 1) (hb : i0.bytes = 1) (n : Nat) (hn : n ≤ 140737488355328) (W : World) :
    (Instr.makeSlice T (.int .i64 (n : Int)) (.int .i64 (n : Int))).run P W = .ok (.slice (some ⟨W.heap.size, 0, none⟩) n n) (W.alloc (.cells (bcells (List.replicate n 0)).toArray E)) := by
  have h := run_make (P := P) W T E i0 (.int .u8 0) hT hi hz .i64 .i64 (n : Int) (n : Int) (by omega) (by omega) (by rw [hb]; omega) (by omega)
  have e : madeCells (Value.int .u8 0).cells (((n : Nat) : Int).toNat * i0.size) = (bcells (List.replicate n 0)).toArray := by
    rw [hs, Int.toNat_natCast, Nat.mul_one]
    apply Array.ext
    · simp [madeCells, bcells]
    · intro i h1 h2
      simp [madeCells, bcells, Value.cells, Nat.mod_one]
  rw [e] at h
  simpa using h
end
end Go.Proofs.Ytbnfnijjldimkab
