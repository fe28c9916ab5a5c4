/-
  Slices of bytes and of numbers among a law's arguments, as the walks want them.
-/
import Derived.Test.YtbnfnijjldimkaaProg
import Derived.Test.YtbnfnijjldimkaaMLinv
import Derived.ChangeSlices
import Derived.Deep.Grids
namespace Go.Proofs.Ytbnfnijjldimkaa
open Go.RowKit Go.ChangeShapes Go.WideShapes Go.Deep
set_option linter.unusedVariables false
set_option linter.unusedSimpArgs false
section
variable {H : Type} {enc : TypeId × Value → H} {W : World}
theorem bytes_open {a : Option Addr} {len cap : Nat} {d : DataW H} {p : List MemPlace} (h : DataW.Trod enc Try.prog W 0 (fun _ => true) true 22 (.slice a len cap) d p) : ∃ L : List (BitVec 8), len = L.length ∧ (Rd W a L ∧ L.length ≤ maxLen) := by
  obtain ⟨fuel, hf⟩ := h
  rcases open_ints Try.underlying22 Try.underlying5 (by kernel_rfl) hf with ⟨hcs, _⟩ | ⟨x, l, c, zs, hcs, _, hl, hm, hlen, _, hcell, hwf⟩
  · simp [Value.cells] at hcs
    obtain ⟨rfl, rfl, rfl⟩ := hcs
    exact ⟨[], rfl, fun i hi => by simp at hi, by simp⟩
  · simp [Value.cells] at hcs
    obtain ⟨rfl, rfl, rfl⟩ := hcs
    simp only [if_true] at hlen
    refine ⟨(zs.take len).map bv, by simp [hlen]; omega, fun i hi => ?_, by simp; omega⟩
    have hi2 : i < zs.length := by simp at hi; omega
    have hc := hcell i hi2
    have hc0 := hcell 0 (by omega)
    obtain ⟨b, o, spot⟩ := x
    have hspot : spot = none := by simpa [Addr.add] using World.cell?_spot hc0
    subst hspot
    refine ⟨b, o, rfl, ?_⟩
    have e1 : (⟨b, o, none⟩ : Addr).add i = ⟨b, o + i, none⟩ := by unfold Addr.add; split <;> simp_all
    rw [e1] at hc
    rw [hc]
    have hw := hwf _ (List.getElem_mem hi2)
    simp [Lit.wf, IntKind.min, IntKind.max, IntKind.signed, IntKind.bits] at hw
    simp only [List.getElem_map, List.getElem_take, List.getD_eq_getElem?_getD, List.getElem?_eq_getElem hi2, Option.getD_some]
    rw [nv_bv (by omega) (by omega)]
theorem ints_open {a : Option Addr} {len cap : Nat} {d : DataW H} {p : List MemPlace} (h : DataW.Trod enc Try.prog W 0 (fun _ => true) true 54 (.slice a len cap) d p) : ∃ L : List Int, len = L.length ∧ (RdI W a L ∧ L.length ≤ maxLen ∧ ∀ x ∈ L, -9223372036854775808 ≤ x ∧ x ≤ 9223372036854775807) := by
  obtain ⟨fuel, hf⟩ := h
  rcases open_ints Try.underlying54 Try.underlying3 (by kernel_rfl) hf with ⟨hcs, _⟩ | ⟨x, l, c, zs, hcs, _, hl, hm, hlen, _, hcell, hwf⟩
  · simp [Value.cells] at hcs
    obtain ⟨rfl, rfl, rfl⟩ := hcs
    exact ⟨[], rfl, fun i hi => by simp at hi, by simp, fun x hx => by simp at hx⟩
  · simp [Value.cells] at hcs
    obtain ⟨rfl, rfl, rfl⟩ := hcs
    simp only [if_true] at hlen
    refine ⟨zs.take len, by simp [hlen]; omega, fun i hi => ?_, by simp; omega, fun x hx => ?_⟩
    · have hi2 : i < zs.length := by simp at hi; omega
      have hc := hcell i hi2
      have hc0 := hcell 0 (by omega)
      obtain ⟨b, o, spot⟩ := x
      have hspot : spot = none := by simpa [Addr.add] using World.cell?_spot hc0
      subst hspot
      refine ⟨b, o, rfl, ?_⟩
      have e1 : (⟨b, o, none⟩ : Addr).add i = ⟨b, o + i, none⟩ := by unfold Addr.add; split <;> simp_all
      rw [e1] at hc
      rw [hc]
      simp only [List.getElem_take, List.getD_eq_getElem?_getD, List.getElem?_eq_getElem hi2, Option.getD_some]
    · have hw := hwf x (List.mem_of_mem_take hx)
      simp [Lit.wf, IntKind.min, IntKind.max, IntKind.signed, IntKind.bits] at hw
      omega
end
theorem inverse_walk (c : Int) (a : Option Addr) (cap : Nat) (L : List (BitVec 8)) (h0 : -9223372036854775808 ≤ c) (h1 : c ≤ 9223372036854775807) (w : World) (hw : Rd w a L ∧ L.length ≤ maxLen) :
    Calls Try.prog 4 #[.int .i64 c, .slice a L.length cap] w fun e w' => e = .returned (.bool true) ∧ Below w.heap.size w w' :=
  inverse_any c a L.length cap L w h0 h1 rfl hw.2 hw.1
end Go.Proofs.Ytbnfnijjldimkaa
