/-
  errors.Is of a fault and a number: whether the fault's own number is that one (for a fault without an inner error).
-/
import Derived.Test.YtbnfnijjldimkabProg
import Derived.Test.YtbnfnijjldimkabMem
import Derived.WalkKit
import Derived.LaidEql
import Derived.Stop.Asserts
import Derived.RowKitTokens
import Derived.Lib.Hide
namespace Go.Proofs.Ytbnfnijjldimkab
open Go.RowKit Go.Extern.Stop Go.Stop Go.Extern
theorem isTypeOf (c : Int) (w : World) : (Extern.ReflectliteType.typeOf #[.iface 61 (.int .i64 c)]).run Try.prog w = .ok (.iface 110 (.agg #[.pointer (some ⟨1, 61, none⟩)])) w := by kernel_rfl
theorem isComparable (w : World) : ((Extern.ReflectliteType.method fun t => do Go.Extern.Rtype.noPackHeld "Comparable" t; pure (.bool (← typeInfo t).comparable)) #[.agg #[.pointer (some ⟨1, 61, none⟩)]]).run Try.prog w = .ok (.bool true) w := by kernel_rfl
theorem callTypeOf (args : Array Value) (w : World) : (callFunc 40 args).run Try.prog w = ((Extern.ReflectliteType.typeOf args).run Try.prog w).andThen fun v w' => .ok (.value v) w' :=
  @run_callFunc_extern Try.prog 40 _ Extern.ReflectliteType.typeOf Try.func40 (by kernel_rfl) (by kernel_rfl) (by kernel_rfl) (by kernel_rfl) args w
theorem callComparable (w : World) : (callFunc 103 #[.agg #[.pointer (some ⟨1, 61, none⟩)]]).run Try.prog w = .ok (.value (.bool true)) w := by
  rw [@run_callFunc_extern Try.prog 103 _ (Extern.ReflectliteType.method fun t => do Go.Extern.Rtype.noPackHeld "Comparable" t; pure (.bool (← typeInfo t).comparable)) Try.func103 (by kernel_rfl) (by kernel_rfl) (by kernel_rfl) (by kernel_rfl), isComparable]
  rfl
theorem callType (c : Int) (w : World) : (callFunc 40 #[.iface 61 (.int .i64 c)]).run Try.prog w = .ok (.value (.iface 110 (.agg #[.pointer (some ⟨1, 61, none⟩)]))) w := by
  rw [callTypeOf, isTypeOf]
  rfl
theorem methodComparable (v : Value) (w : World) : (Go.method 269 110 v "Comparable").run Try.prog w = .ok (103, v) w := by kernel_rfl
theorem methodIs (a : Addr) (w : World) : (Go.method 269 62 (.pointer (some a)) "Is").run Try.prog w = .ok (97, .pointer (some a)) w := by kernel_rfl
theorem assertErrno (c : Int) (xT : TypeId) (w : World) : (Instr.typeAssert (.iface 61 (.int .i64 c)) xT 61 true).run Try.prog w = .ok (.tuple #[.int .i64 c, .bool true]) w := by kernel_rfl

set_option maxHeartbeats 400000 in
/-- the fault's own Is: of its number -/
theorem faultIs (a : Addr) (c : Int) (w : World) (hc : w.cell? a = some (.int .i64 c)) :
    Calls Try.prog 97 #[.pointer (some a), .iface 61 (.int .i64 c)] w fun e w' => e = .returned (.bool true) ∧ w = w' := by
  have hA := assertErrno
  go_enter Try.func97, Try.ntmps97
  go_wp2
  go_ret
  exact ⟨rfl, rfl⟩

theorem hasIs (v : Value) (xT : TypeId) (w : World) : (Instr.typeAssert (.iface 62 v) xT 112 true).run Try.prog w = .ok (.tuple #[.iface 62 v, .bool true]) w := run_typeAssert_hasB Try.underlying112 (by kernel_rfl) v xT w
set_option maxRecDepth 100000 in
set_option maxHeartbeats 400000 in
theorem errorsis (b : Nat) (c : Int) (w : World) (hc : w.cell? ⟨b, 0, none⟩ = some (.int .i64 c)) :
    Calls Try.prog 41 #[.iface 62 (.pointer (some ⟨b, 0, none⟩)), .iface 61 (.int .i64 c), .bool true] w fun e w' => e = .returned (.bool true) ∧ w = w' := by
  have hI := hasIs
  have h4 := methodIs
  have hty := fun v1 v2 (W : World) => run_eql_iface_types (P := Try.prog) 62 61 v1 v2 Try.underlying24 (by decide) W
  go_enter Try.func41, Try.ntmps41
  go_wp2_with fail
  refine wp_loop_rounds 1 ?_
  rw [rounds_succ]
  go_wp2_with (go_at_call 97; refine (faultIs _ _ _ hc).mono ?_; rintro e w' ⟨rfl, rfl⟩)
  go_ret
  exact ⟨rfl, rfl⟩
set_option maxRecDepth 100000 in
set_option maxHeartbeats 400000 in
/-- errors.Is of a fault and its number -/
theorem errorsIs (b : Nat) (c : Int) (w : World) (hc : w.cell? ⟨b, 0, none⟩ = some (.int .i64 c)) :
    Calls Try.prog 27 #[.iface 62 (.pointer (some ⟨b, 0, none⟩)), .iface 61 (.int .i64 c)] w fun e w' => e = .returned (.bool true) ∧ w = w' := by
  have h1 := callType
  have h2 := callComparable
  have h3 := methodComparable
  go_enter Try.func27, Try.ntmps27
  go_wp2_with (go_at_call 41; refine (errorsis _ _ _ hc).mono ?_; rintro e w' ⟨rfl, rfl⟩)
  go_ret
  exact ⟨rfl, rfl⟩
end Go.Proofs.Ytbnfnijjldimkab
