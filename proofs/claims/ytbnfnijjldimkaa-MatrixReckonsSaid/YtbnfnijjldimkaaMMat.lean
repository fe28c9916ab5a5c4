/-
  Matrices among a law's arguments, as the walks want them.
-/
import Derived.Test.YtbnfnijjldimkaaMArgs
import Derived.Lib.SmallJoins
namespace Go.Proofs.Ytbnfnijjldimkaa
open Go.RowKit Go.ChangeShapes Go.WideShapes Go.Deep Go.Joins
section
variable {H : Type} {enc : TypeId × Value → H} {W : World}
theorem bytes_of {n : Nat} {v : Value} {y : DataW H × List MemPlace} (h : DataW.trod enc Try.prog W 0 (fun _ => true) true n 22 [v] = some y) : ∃ a cap L, v = .slice a (List.length L) cap ∧ Rd W a L ∧ L.length ≤ cap ∧ cap ≤ maxLen ∧ (a = none → cap = 0) := by
  rcases open_ints Try.underlying22 Try.underlying5 (by kernel_rfl) h with ⟨hcs, _⟩ | ⟨x, l, c, zs, hcs, _, hl, hm, hlen, _, hcell, hwf⟩
  · obtain rfl := List.singleton_inj.1 hcs
    exact ⟨none, 0, [], rfl, fun i hi => by simp at hi, by simp, by simp, fun _ => rfl⟩
  · obtain rfl := List.singleton_inj.1 hcs
    simp only [if_true] at hlen
    have hll : ((zs.take l).map bv).length = l := by simp [hlen]; omega
    refine ⟨some x, c, (zs.take l).map bv, by rw [hll], fun i hi => ?_, by rw [hll]; exact hl, hm, fun h => by cases h⟩
    have hi2 : i < zs.length := by simp at hi; omega
    have hc := hcell i hi2
    have hc0 := hcell 0 (by omega)
    obtain ⟨b, o, spot⟩ := x
    have hspot : spot = none := by simpa [Addr.add] using World.cell?_spot hc0
    subst hspot
    refine ⟨b, o, rfl, ?_⟩
    have e1 : (⟨b, o, none⟩ : Addr).add i = ⟨b, o + i, none⟩ := by unfold Addr.add; split <;> simp_all
    rw [e1] at hc
    rw [hc]
    have hw := hwf _ (List.getElem_mem hi2)
    simp [Lit.wf, IntKind.min, IntKind.max, IntKind.signed, IntKind.bits] at hw
    simp only [List.getElem_map, List.getElem_take, List.getD_eq_getElem?_getD, List.getElem?_eq_getElem hi2, Option.getD_some]
    rw [nv_bv (by omega) (by omega)]
theorem intw_of {n : Nat} {v : Value} {y : DataW H × List MemPlace} (h : DataW.trod enc Try.prog W 0 (fun _ => true) true n 3 [v] = some y) : ∃ m : Int, v = .int .i64 m ∧ -9223372036854775808 ≤ m ∧ m ≤ 9223372036854775807 := by
  obtain ⟨m, hcs, _, hw⟩ := DataW.trod_int Try.underlying3 h
  simp [Lit.wf, IntKind.min, IntKind.max, IntKind.signed, IntKind.bits] at hw
  exact ⟨m, List.singleton_inj.1 hcs, by omega, by omega⟩
/-- a matrix that was handed in: its numbers, and its cells as they read -/
structure MatArg (W : World) (r c : Int) (a : Option Addr) (cap : Nat) (L : List (BitVec 8)) : Prop where
  r0 : -9223372036854775808 ≤ r
  r1 : r ≤ 9223372036854775807
  c0 : -9223372036854775808 ≤ c
  c1 : c ≤ 9223372036854775807
  rd : Rd W a L
  le : L.length ≤ cap
  nn : a = none → cap = 0
  cap : cap ≤ maxLen
set_option maxRecDepth 100000 in
theorem mat_open {r : Reach} {b0 : Nat} {v : Value} {d : DataW H} {p : List MemPlace} (hv : Value.okWide Try.prog W r b0 24 v) (h : DataW.Trod enc Try.prog W 0 (fun _ => true) true 24 v d p) :
    ∃ (m c : Int) (a : Option Addr) (cap : Nat) (L : List (BitVec 8)), v = .agg #[.int .i64 m, .int .i64 c, .slice a L.length cap] ∧ MatArg W m c a cap L := by
  obtain ⟨v0, v1, v2, y0, y1, y2, n, rfl, _, _, h0, h1, h2⟩ := open_agg3 Try.underlying24 (by kernel_rfl) (by kernel_rfl) hv h
  obtain ⟨m, rfl, m0, m1⟩ := intw_of h0
  obtain ⟨c, rfl, c0, c1⟩ := intw_of h1
  obtain ⟨a, cap, L, rfl, g1, g2, g3, g4⟩ := bytes_of h2
  exact ⟨m, c, a, cap, L, rfl, m0, m1, c0, c1, g1, g2, g4, g3⟩
end
end Go.Proofs.Ytbnfnijjldimkaa
