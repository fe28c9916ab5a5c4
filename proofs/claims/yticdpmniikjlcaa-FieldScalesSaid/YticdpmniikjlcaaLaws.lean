/-
  Small laws on single operations, over any program.
-/
import Derived.WalkKit
import Derived.DeepKeys
namespace Go.Proofs.Yticdpmniikjlcaa
open Go.RowKit
section
variable {P : Program}
/-- an element of an array by value -/
theorem run_index_agg (w : World) (t e : TypeId) (n : Nat) (cs : Array Value) (k : IntKind) (i : Int) (v : Value) (i0 : TypeInfo) (h : P.underlying t = some (.array n e)) (he : P.plainKey e = true) (hi : P.info? e = some i0) (hc : P.cellsOf e = 1)
    (h0 : 0 ≤ i) (h1 : i < n) (hv : cs[i.toNat]? = some v) : (Instr.index t (.agg cs) (.int k i)).run P w = .ok v w := by
  have e : (Instr.index t (.agg cs) (.int k i)).run P w = (part e cs (i.toNat * 1)).run P w := by
    simp [Instr.index, run_underlying h, asIntOf, h0, h1, Sem.run_bind, run_sizeOf w hi, hc]
  rw [e, Nat.mul_one]
  exact run_part_plain w he hv
end
end Go.Proofs.Yticdpmniikjlcaa
