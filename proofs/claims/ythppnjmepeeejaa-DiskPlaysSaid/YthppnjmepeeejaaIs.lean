/-
  errors.Is of a fault and a number: whether the fault's own number is that one (for a fault without an inner error).
-/
import Derived.Test.YthppnjmepeeejaaProg
import Derived.Test.YthppnjmepeeejaaMem
import Derived.WalkKit
import Derived.LaidEql
import Derived.Stop.Asserts
import Derived.RowKitTokens
import Derived.Lib.Hide
namespace Go.Proofs.Ythppnjmepeeejaa
open Go.RowKit Go.Extern.Stop Go.Stop Go.Extern
theorem isTypeOf (c : Int) (w : World) : (Extern.ReflectliteType.typeOf #[.iface 52 (.int .i64 c)]).run Try.prog w = .ok (.iface 97 (.agg #[.pointer (some ⟨0, 52, none⟩)])) w := by kernel_rfl
theorem isComparable (w : World) : ((Extern.ReflectliteType.method fun t => do Go.Extern.Rtype.noPackHeld "Comparable" t; pure (.bool (← typeInfo t).comparable)) #[.agg #[.pointer (some ⟨0, 52, none⟩)]]).run Try.prog w = .ok (.bool true) w := by kernel_rfl
theorem callTypeOf (args : Array Value) (w : World) : (callFunc 39 args).run Try.prog w = ((Extern.ReflectliteType.typeOf args).run Try.prog w).andThen fun v w' => .ok (.value v) w' :=
  @run_callFunc_extern Try.prog 39 _ Extern.ReflectliteType.typeOf Try.func39 (by kernel_rfl) (by kernel_rfl) (by kernel_rfl) (by kernel_rfl) args w
theorem callComparable (w : World) : (callFunc 78 #[.agg #[.pointer (some ⟨0, 52, none⟩)]]).run Try.prog w = .ok (.value (.bool true)) w := by
  rw [@run_callFunc_extern Try.prog 78 _ (Extern.ReflectliteType.method fun t => do Go.Extern.Rtype.noPackHeld "Comparable" t; pure (.bool (← typeInfo t).comparable)) Try.func78 (by kernel_rfl) (by kernel_rfl) (by kernel_rfl) (by kernel_rfl), isComparable]
  rfl
theorem callType (c : Int) (w : World) : (callFunc 39 #[.iface 52 (.int .i64 c)]).run Try.prog w = .ok (.value (.iface 97 (.agg #[.pointer (some ⟨0, 52, none⟩)]))) w := by
  rw [callTypeOf, isTypeOf]
  rfl
theorem methodComparable (v : Value) (w : World) : (Go.method 242 97 v "Comparable").run Try.prog w = .ok (78, v) w := by kernel_rfl
theorem methodIs (a : Addr) (w : World) : (Go.method 242 81 (.pointer (some a)) "Is").run Try.prog w = .ok (73, .pointer (some a)) w := by kernel_rfl
theorem assertErrno (c : Int) (xT : TypeId) (w : World) : (Instr.typeAssert (.iface 52 (.int .i64 c)) xT 52 true).run Try.prog w = .ok (.tuple #[.int .i64 c, .bool true]) w := by kernel_rfl

set_option maxHeartbeats 400000 in
/-- the fault's own Is: of its number -/
theorem faultIs (a : Addr) (c : Int) (w : World) (hc : w.cell? a = some (.int .i64 c)) :
    Calls Try.prog 73 #[.pointer (some a), .iface 52 (.int .i64 c)] w fun e w' => e = .returned (.bool true) ∧ w = w' := by
  have hA := assertErrno
  go_enter Try.func73, Try.ntmps73
  go_wp2
  go_ret
  exact ⟨rfl, rfl⟩

theorem hasIs (v : Value) (xT : TypeId) (w : World) : (Instr.typeAssert (.iface 81 v) xT 99 true).run Try.prog w = .ok (.tuple #[.iface 81 v, .bool true]) w := run_typeAssert_hasB Try.underlying99 (by kernel_rfl) v xT w
set_option maxRecDepth 100000 in
set_option maxHeartbeats 400000 in
theorem errorsis (b : Nat) (c : Int) (w : World) (hc : w.cell? ⟨b, 0, none⟩ = some (.int .i64 c)) :
    Calls Try.prog 40 #[.iface 81 (.pointer (some ⟨b, 0, none⟩)), .iface 52 (.int .i64 c), .bool true] w fun e w' => e = .returned (.bool true) ∧ w = w' := by
  have hI := hasIs
  have h4 := methodIs
  have hty := fun v1 v2 (W : World) => run_eql_iface_types (P := Try.prog) 81 52 v1 v2 Try.underlying31 (by decide) W
  go_enter Try.func40, Try.ntmps40
  go_wp2_with fail
  refine wp_loop_rounds 1 ?_
  rw [rounds_succ]
  go_wp2_with (go_at_call 73; refine (faultIs _ _ _ hc).mono ?_; rintro e w' ⟨rfl, rfl⟩)
  go_ret
  exact ⟨rfl, rfl⟩
set_option maxRecDepth 100000 in
set_option maxHeartbeats 400000 in
/-- errors.Is of a fault and its number -/
theorem errorsIs (b : Nat) (c : Int) (w : World) (hc : w.cell? ⟨b, 0, none⟩ = some (.int .i64 c)) :
    Calls Try.prog 28 #[.iface 81 (.pointer (some ⟨b, 0, none⟩)), .iface 52 (.int .i64 c)] w fun e w' => e = .returned (.bool true) ∧ w = w' := by
  have h1 := callType
  have h2 := callComparable
  have h3 := methodComparable
  go_enter Try.func28, Try.ntmps28
  go_wp2_with (go_at_call 40; refine (errorsis _ _ _ hc).mono ?_; rintro e w' ⟨rfl, rfl⟩)
  go_ret
  exact ⟨rfl, rfl⟩
end Go.Proofs.Ythppnjmepeeejaa
