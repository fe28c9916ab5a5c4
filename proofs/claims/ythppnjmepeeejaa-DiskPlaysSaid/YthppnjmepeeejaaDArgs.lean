/-
  Slices of strings and of bools among a law's arguments, as the walks want them.
-/
import Derived.Test.YthppnjmepeeejaaProg
import Derived.Test.YthppnjmepeeejaaDiskLose
import Derived.SliceStrings
import Derived.Deep.Grids
namespace Go.Proofs.Ythppnjmepeeejaa
open Go.RowKit Go.ChangeShapes Go.WideShapes Go.Deep
theorem cell_lt {w : World} {p : Addr} {v : Value} (h : w.cell? p = some v) : p.block < w.heap.size := by
  unfold World.cell? at h
  by_cases h9 : p.block < w.heap.size
  · exact h9
  · rw [Array.getElem?_eq_none (by omega)] at h; cases h
/-- strings that lie behind a slice -/
def StrsAt (w : World) (a : Option Addr) (ss : List ByteArray) : Prop := ∀ i (h : i < ss.length), ss[i].size ≤ maxLen ∧ ∃ b o, a = some ⟨b, o, none⟩ ∧ w.cell? ⟨b, o + i, none⟩ = some (.string ss[i])
/-- bools that lie behind a slice -/
def BoolsArg (w : World) (a : Option Addr) (bs : List Bool) : Prop := ∀ i (h : i < bs.length), ∃ b o, a = some ⟨b, o, none⟩ ∧ w.cell? ⟨b, o + i, none⟩ = some (.bool bs[i])
theorem BoolsArg.at_ {w w' : World} {gh : Nat} {a : Option Addr} {bs : List Bool} (h : BoolsArg w a bs) (hg : w.heap.size ≤ gh) (hb : Below w.heap.size w w') : BoolsAt w' gh a bs := by
  intro i hi
  obtain ⟨b, o, ha, hc⟩ := h i hi
  have hl := cell_lt hc
  simp only at hl
  exact ⟨b, o, ha, by omega, (hb.cell (p := ⟨b, o + i, none⟩) hl).trans hc⟩
section
variable {H : Type} {enc : TypeId × Value → H} {W : World}
theorem strs_open {a : Option Addr} {len cap : Nat} {d : DataW H} {p : List MemPlace} (h : DataW.Trod enc Try.prog W 0 (fun _ => true) true 22 (.slice a len cap) d p) : ∃ ss : List ByteArray, len = ss.length ∧ StrsAt W a ss := by
  obtain ⟨fuel, hf⟩ := h
  rcases open_strings Try.underlying22 Try.underlying9 (by kernel_rfl) hf with ⟨hcs, _⟩ | ⟨x, l, c, ss, hcs, _, hl, _, hlen, _, hcell, hsz⟩
  · simp [Value.cells] at hcs
    obtain ⟨rfl, rfl, rfl⟩ := hcs
    exact ⟨[], rfl, fun i hi => by simp at hi⟩
  · simp [Value.cells] at hcs
    obtain ⟨rfl, rfl, rfl⟩ := hcs
    simp only [if_true] at hlen
    refine ⟨ss.take len, by simp [hlen]; omega, fun i hi => ?_⟩
    have hi2 : i < ss.length := by simp at hi; omega
    have hc := hcell i hi2
    have hc0 := hcell 0 (by omega)
    obtain ⟨b, o, spot⟩ := x
    have hspot : spot = none := by simpa [Addr.add] using World.cell?_spot hc0
    subst hspot
    refine ⟨by simpa using hsz _ (List.getElem_mem hi2), b, o, rfl, ?_⟩
    have e1 : (⟨b, o, none⟩ : Addr).add i = ⟨b, o + i, none⟩ := by unfold Addr.add; split <;> simp_all
    rw [e1] at hc
    rw [hc]
    simp [List.getD_eq_getElem?_getD, List.getElem?_eq_getElem hi2]
theorem strsc_open {a : Option Addr} {len cap : Nat} {d : DataW H} {p : List MemPlace} (h : DataW.Trod enc Try.prog W 0 (fun _ => true) true 22 (.slice a len cap) d p) : ∃ ss : List ByteArray, len = ss.length ∧ StrsAt W a ss ∧ len ≤ cap := by
  obtain ⟨ss, h1, h2⟩ := strs_open h
  refine ⟨ss, h1, h2, ?_⟩
  obtain ⟨fuel, hf⟩ := h
  rcases open_strings Try.underlying22 Try.underlying9 (by kernel_rfl) hf with ⟨hcs, _⟩ | ⟨x, l, c, ss', hcs, _, hl, _⟩
  · simp [Value.cells] at hcs
    omega
  · simp [Value.cells] at hcs
    obtain ⟨rfl, rfl, rfl⟩ := hcs
    exact hl
theorem bools_open {a : Option Addr} {len cap : Nat} {d : DataW H} {p : List MemPlace} (h : DataW.Trod enc Try.prog W 0 (fun _ => true) true 23 (.slice a len cap) d p) : ∃ bs : List Bool, len = bs.length ∧ BoolsArg W a bs := by
  obtain ⟨fuel, hf⟩ := h
  rcases open_bools Try.underlying23 Try.underlying4 (by kernel_rfl) hf with ⟨hcs, _⟩ | ⟨x, l, c, B, hcs, _, hl, _, _, hcell⟩
  · simp [Value.cells] at hcs
    obtain ⟨rfl, rfl, rfl⟩ := hcs
    exact ⟨[], rfl, fun i hi => by simp at hi⟩
  · simp [Value.cells] at hcs
    obtain ⟨rfl, rfl, rfl⟩ := hcs
    refine ⟨(List.range len).map B, by simp, fun i hi => ?_⟩
    have hi2 : i < len := by simpa using hi
    have hc := hcell i (by omega)
    have hc0 := hcell 0 (by omega)
    obtain ⟨b, o, spot⟩ := x
    have hspot : spot = none := by simpa [Addr.add] using World.cell?_spot hc0
    subst hspot
    refine ⟨b, o, rfl, ?_⟩
    have e1 : (⟨b, o, none⟩ : Addr).add i = ⟨b, o + i, none⟩ := by unfold Addr.add; split <;> simp_all
    rw [e1] at hc
    rw [hc]
    simp
end
end Go.Proofs.Ythppnjmepeeejaa
