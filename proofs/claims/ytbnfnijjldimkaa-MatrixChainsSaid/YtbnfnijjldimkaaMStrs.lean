/-
  Slices of strings among a law's arguments, with their size.
-/
import Derived.Test.YtbnfnijjldimkaaMMat
import Derived.Test.YtbnfnijjldimkaaMappG
import Derived.SliceStrings
import Derived.SizedLaws
namespace Go.Proofs.Ytbnfnijjldimkaa
open Go.RowKit Go.ChangeShapes Go.WideShapes Go.Deep
set_option linter.unusedVariables false
/-- strings that were handed in -/
structure StrsArg (W : World) (a : Option Addr) (cap : Nat) (ss : List ByteArray) : Prop where
  rd : StrsRd W a ss
  sz : ∀ s ∈ ss, s.size ≤ maxLen
  nn : a = none → cap = 0
  le : ss.length ≤ cap
theorem bytes_str : Try.prog.bytesOf 9 = 16 := by kernel_rfl
section
variable {H : Type} {enc : TypeId × Value → H} {W : World}
theorem strsz_open {a : Option Addr} {len cap : Nat} {d : DataW H} {p : List MemPlace} (h : DataW.Trod enc Try.prog W 0 (fun _ => true) true 25 (.slice a len cap) d p) : ∃ ss : List ByteArray, len = ss.length ∧ StrsArg W a cap ss ∧ ∀ B : Nat, (∀ x y, d = .slice x y → (x.length + y.length) * Try.prog.bytesOf 9 ≤ B) → ss.length * 16 ≤ B := by
  obtain ⟨fuel, hf⟩ := h
  rcases open_strings Try.underlying25 Try.underlying9 (by kernel_rfl) hf with ⟨hcs, _⟩ | ⟨x, l, c, ss, hcs, _, hl, _, hlen, hd, hcell, hsz⟩
  · simp [Value.cells] at hcs
    obtain ⟨rfl, rfl, rfl⟩ := hcs
    exact ⟨[], rfl, ⟨fun i hi => by simp at hi, by simp, fun _ => rfl, by simp⟩, fun B _ => by simp⟩
  · simp [Value.cells] at hcs
    obtain ⟨rfl, rfl, rfl⟩ := hcs
    simp only [if_true] at hlen
    have hll : (ss.take len).length = len := by simp [hlen]; omega
    refine ⟨ss.take len, hll.symm, ⟨fun i hi => ?_, fun s hs => hsz s (List.mem_of_mem_take hs), fun h => (by cases h), by rw [hll]; exact hl⟩, fun B hB => ?_⟩
    · have hi2 : i < ss.length := by simp at hi; omega
      have hc := hcell i hi2
      have hc0 := hcell 0 (by omega)
      obtain ⟨b, o, spot⟩ := x
      have hspot : spot = none := by simpa [Addr.add] using World.cell?_spot hc0
      subst hspot
      refine ⟨b, o, rfl, ?_⟩
      have e1 : (⟨b, o, none⟩ : Addr).add i = ⟨b, o + i, none⟩ := by unfold Addr.add; split <;> simp_all
      rw [e1] at hc
      rw [hc]
      simp [List.getD_eq_getElem?_getD, List.getElem?_eq_getElem hi2]
    · have h1 := congrArg Prod.fst hd
      simp only at h1
      have h2 := hB _ _ h1
      rw [bytes_str] at h2
      simp only [strs, List.length_map, List.length_take, List.length_drop] at h2
      rw [hll]
      omega
end
end Go.Proofs.Ytbnfnijjldimkaa
