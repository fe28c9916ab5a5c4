/-
  NARROWER THAN 'FOR EVERY INPUT', by the rows' own cells (each row's printed sentence says how): StorageKeeps: laid · StorageRacks: laid · StorageSurvives: laid · StorageCalm: laid.
  DERIVED. THE GIVEN ROWS OF THIS SEAT. 4 by the template 'for every input the law returns true; each argument reads behind the call as it read before'; 0 by the template 'total and deterministic' (their statements: YthppfllkocphbaaGreatDoorTotals.lean).
  GIVEN WITH THE SEED: the statements are not yours to turn. If you find one false, say at which input.
  Laid BY PROGRAM, IN A SANDBOX (cutbox-rows.mjs): the forced cells as the released guide's own fill.sh prints them over the translation f6d988e4d4cab80a… (all of the seat's roots in one cut). By AI agents, Wed Nov 11 2026. No macro, syntax, notation, axiom, sorry.
-/
import Derived.Test.YthppfllkocphbaaGreatDoorChecked
import GoSem.Claim
import GoSem.ClaimJoined
import GoSem.ClaimMapViews
import Derived.JoinedTies
import Derived.KernelRfl
namespace Go.Proofs.YthppfllkocphbaaGreatDoor
/- THE CELL 'sum', in the pinned program and in every row, IS THE sha256 OF THE DUMP (.gsa) THAT YthppfllkocphbaaGreatDoorProg.lean LOADS. Nothing in Lean hashes anything: it is a label: what it is worth is what the hold of that sum in a sandbox is worth. -/
noncomputable def Tryz.pinned : Pinned := { name := "ythppfllkocphbaagreatdoor", sum := "f6d988e4d4cab80a6351087f3754146fe1e02dfb42fe366450d892afbcc47fd1", checked := Tryz.checked }
namespace Rows
def none {H : Type} : Left H := { results := [], args := [] }

/- WHAT THE LISTED PACKAGE-LEVEL VARIABLES READ AS WHEN THE CALL BEGINS. Each datum BY PROGRAM (the guide's laid-datum.mjs) off the statement by which the dump's own 'gosem.cut.vars' lays the variable. In a bare row this is a premise. The card (YthppfllkocphbaaGreatDoorCards.lean) ties it to the program's text. -/
def laid_errors_errorType {H : Type} : DataW H := .iface "internal/reflectlite.rtype" (.agg [.ptr (.lit (.string [101, 114, 114, 111, 114]))])

/-- 'storehousetop.StorageKeeps': WHATEVER THE INPUT: true; the input reads as it did. -/
def storageKeepsSpec : ChangeSpec := { name := "storageKeeps", fn := fun _ => fun
  | [d1, d2, d3] => { results := [.lit (.bool true)], args := [d1, d2, d3] }
  | _ => none }
def storageKeepsRow : OpenClaim := { program := "ythppfllkocphbaagreatdoor", sum := "f6d988e4d4cab80a6351087f3754146fe1e02dfb42fe366450d892afbcc47fd1", func := "storehouse/storehousetop.StorageKeeps", spec := "storageKeeps", inPlace := ["internal/reflectlite.ValueOf", "(internal/reflectlite.Value).Type", "(internal/reflectlite.Value).IsNil", "internal/reflectlite.TypeOf", "(internal/reflectlite.Value).Elem", "(internal/reflectlite.Value).Set", "internal/abi.NoEscape", "internal/bytealg.MakeNoZero", "maps.clone", "internal/bytealg.abigen_runtime_cmpstring"], unfollowed := true, recurses := true, named := ["errors.errorType"], apart := false, laid := [("errors.errorType", laid_errors_errorType)] }
def StorageKeepsSaid : Prop := storageKeepsRow.holds Tryz.pinned (OpenSpec.ofChange storageKeepsSpec)

/-- ITS FALSE NEIGHBOUR: 'it returns false'. Refute it at one input. -/
def storageKeepsWrong : ChangeSpec := { name := "storageKeeps", fn := fun _ => fun
  | [d1, d2, d3] => { results := [.lit (.bool false)], args := [d1, d2, d3] }
  | _ => none }
def StorageKeepsWrongFalsely : Prop := storageKeepsRow.holds Tryz.pinned (OpenSpec.ofChange storageKeepsWrong)

/-- 'storehousetop.StorageRacks': WHATEVER THE INPUT: true; the input reads as it did. -/
def storageRacksSpec : ChangeSpec := { name := "storageRacks", fn := fun _ => fun
  | [d1, d2, d3, d4, d5] => { results := [.lit (.bool true)], args := [d1, d2, d3, d4, d5] }
  | _ => none }
def storageRacksRow : OpenClaim := { program := "ythppfllkocphbaagreatdoor", sum := "f6d988e4d4cab80a6351087f3754146fe1e02dfb42fe366450d892afbcc47fd1", func := "storehouse/storehousetop.StorageRacks", spec := "storageRacks", inPlace := ["internal/reflectlite.ValueOf", "(internal/reflectlite.Value).Type", "(internal/reflectlite.Value).IsNil", "internal/reflectlite.TypeOf", "(internal/reflectlite.Value).Elem", "(internal/reflectlite.Value).Set", "internal/abi.NoEscape", "internal/bytealg.MakeNoZero", "maps.clone", "internal/bytealg.abigen_runtime_cmpstring"], unfollowed := true, recurses := true, named := ["errors.errorType"], apart := false, laid := [("errors.errorType", laid_errors_errorType)] }
def StorageRacksSaid : Prop := storageRacksRow.holds Tryz.pinned (OpenSpec.ofChange storageRacksSpec)

/-- ITS FALSE NEIGHBOUR: 'it returns false'. Refute it at one input. -/
def storageRacksWrong : ChangeSpec := { name := "storageRacks", fn := fun _ => fun
  | [d1, d2, d3, d4, d5] => { results := [.lit (.bool false)], args := [d1, d2, d3, d4, d5] }
  | _ => none }
def StorageRacksWrongFalsely : Prop := storageRacksRow.holds Tryz.pinned (OpenSpec.ofChange storageRacksWrong)

/-- 'storehousetop.StorageSurvives': WHATEVER THE INPUT: true; the input reads as it did. -/
def storageSurvivesSpec : ChangeSpec := { name := "storageSurvives", fn := fun _ => fun
  | [d1, d2, d3] => { results := [.lit (.bool true)], args := [d1, d2, d3] }
  | _ => none }
def storageSurvivesRow : OpenClaim := { program := "ythppfllkocphbaagreatdoor", sum := "f6d988e4d4cab80a6351087f3754146fe1e02dfb42fe366450d892afbcc47fd1", func := "storehouse/storehousetop.StorageSurvives", spec := "storageSurvives", inPlace := ["internal/reflectlite.ValueOf", "(internal/reflectlite.Value).Type", "(internal/reflectlite.Value).IsNil", "internal/reflectlite.TypeOf", "(internal/reflectlite.Value).Elem", "(internal/reflectlite.Value).Set", "internal/abi.NoEscape", "internal/bytealg.MakeNoZero", "maps.clone", "internal/bytealg.abigen_runtime_cmpstring"], unfollowed := true, recurses := true, named := ["errors.errorType"], apart := false, laid := [("errors.errorType", laid_errors_errorType)] }
def StorageSurvivesSaid : Prop := storageSurvivesRow.holds Tryz.pinned (OpenSpec.ofChange storageSurvivesSpec)

/-- ITS FALSE NEIGHBOUR: 'it returns false'. Refute it at one input. -/
def storageSurvivesWrong : ChangeSpec := { name := "storageSurvives", fn := fun _ => fun
  | [d1, d2, d3] => { results := [.lit (.bool false)], args := [d1, d2, d3] }
  | _ => none }
def StorageSurvivesWrongFalsely : Prop := storageSurvivesRow.holds Tryz.pinned (OpenSpec.ofChange storageSurvivesWrong)

/-- 'storehousetop.StorageCalm': WHATEVER THE INPUT: true; the input reads as it did. -/
def storageCalmSpec : ChangeSpec := { name := "storageCalm", fn := fun _ => fun
  | [d1, d2, d3, d4] => { results := [.lit (.bool true)], args := [d1, d2, d3, d4] }
  | _ => none }
def storageCalmRow : OpenClaim := { program := "ythppfllkocphbaagreatdoor", sum := "f6d988e4d4cab80a6351087f3754146fe1e02dfb42fe366450d892afbcc47fd1", func := "storehouse/storehousetop.StorageCalm", spec := "storageCalm", inPlace := ["internal/reflectlite.ValueOf", "(internal/reflectlite.Value).Type", "(internal/reflectlite.Value).IsNil", "internal/reflectlite.TypeOf", "(internal/reflectlite.Value).Elem", "(internal/reflectlite.Value).Set", "internal/abi.NoEscape", "internal/bytealg.MakeNoZero", "maps.clone", "internal/bytealg.abigen_runtime_cmpstring"], unfollowed := true, recurses := true, named := ["errors.errorType"], apart := false, laid := [("errors.errorType", laid_errors_errorType)] }
def StorageCalmSaid : Prop := storageCalmRow.holds Tryz.pinned (OpenSpec.ofChange storageCalmSpec)

/-- ITS FALSE NEIGHBOUR: 'it returns false'. Refute it at one input. -/
def storageCalmWrong : ChangeSpec := { name := "storageCalm", fn := fun _ => fun
  | [d1, d2, d3, d4] => { results := [.lit (.bool false)], args := [d1, d2, d3, d4] }
  | _ => none }
def StorageCalmWrongFalsely : Prop := storageCalmRow.holds Tryz.pinned (OpenSpec.ofChange storageCalmWrong)

/- THE SECOND FORM. 'bulk': how many values and letters a reading holds, each counted each time it is reached (what is shared counts as often as it is met; a slice's spare places count too). A statement '..UptoSaid' is the law's where the arguments, and the package variables that the reading takes, are together of bulk at most 1048576: NARROWER than '..Said'. Prove '..Said' where nothing that the law and all that it calls make is longer than what came in: it says more and counts as full. Else prove '..UptoSaid'. A law counts once. -/
mutual
def uptoBulk {H : Type} : DataW H → Nat
  | .lit (.string bytes) => bytes.length + 1
  | .lit _ => 1
  | .nil => 1
  | .ptr d => uptoBulk d + 1
  | .slice elems spare => uptoBulkAll elems + uptoBulkAll spare + 1
  | .agg parts => uptoBulkAll parts + 1
  | .iface _ d => uptoBulk d + 1
  | .map entries => uptoBulkEntries entries + 1
  | .held _ => 1
def uptoBulkAll {H : Type} : List (DataW H) → Nat
  | [] => 0
  | d :: r => uptoBulk d + uptoBulkAll r
def uptoBulkEntries {H : Type} : List (Lit × DataW H) → Nat
  | [] => 0
  | x :: r => uptoBulkEntry x + uptoBulkEntries r
def uptoBulkEntry {H : Type} : Lit × DataW H → Nat
  | (.string bytes, d) => bytes.length + uptoBulk d + 1
  | (_, d) => uptoBulk d + 1
 end
def uptoSmall : (H : Type) → List (DataW H) → Bool := fun _ ds => decide (uptoBulkAll ds ≤ 1048576)
def OpenSpec.upto (s : _root_.Go.ChangeSpec) : _root_.Go.OpenSpec := { _root_.Go.OpenSpec.ofChange s with cond := some uptoSmall }

/-- 'storehousetop.StorageKeeps', WHERE WHAT IT READS IS OF BULK AT MOST 1048576: true; the input reads as it did. -/
def storageKeepsUptoRow : OpenClaim := { program := "ythppfllkocphbaagreatdoor", sum := "f6d988e4d4cab80a6351087f3754146fe1e02dfb42fe366450d892afbcc47fd1", func := "storehouse/storehousetop.StorageKeeps", spec := "storageKeeps", inPlace := ["internal/reflectlite.ValueOf", "(internal/reflectlite.Value).Type", "(internal/reflectlite.Value).IsNil", "internal/reflectlite.TypeOf", "(internal/reflectlite.Value).Elem", "(internal/reflectlite.Value).Set", "internal/abi.NoEscape", "internal/bytealg.MakeNoZero", "maps.clone", "internal/bytealg.abigen_runtime_cmpstring"], unfollowed := true, recurses := true, named := ["errors.errorType"], apart := false, laid := [("errors.errorType", laid_errors_errorType)], narrowed := true }
def StorageKeepsUptoSaid : Prop := storageKeepsUptoRow.holds Tryz.pinned (OpenSpec.upto storageKeepsSpec)

/-- 'storehousetop.StorageRacks', WHERE WHAT IT READS IS OF BULK AT MOST 1048576: true; the input reads as it did. -/
def storageRacksUptoRow : OpenClaim := { program := "ythppfllkocphbaagreatdoor", sum := "f6d988e4d4cab80a6351087f3754146fe1e02dfb42fe366450d892afbcc47fd1", func := "storehouse/storehousetop.StorageRacks", spec := "storageRacks", inPlace := ["internal/reflectlite.ValueOf", "(internal/reflectlite.Value).Type", "(internal/reflectlite.Value).IsNil", "internal/reflectlite.TypeOf", "(internal/reflectlite.Value).Elem", "(internal/reflectlite.Value).Set", "internal/abi.NoEscape", "internal/bytealg.MakeNoZero", "maps.clone", "internal/bytealg.abigen_runtime_cmpstring"], unfollowed := true, recurses := true, named := ["errors.errorType"], apart := false, laid := [("errors.errorType", laid_errors_errorType)], narrowed := true }
def StorageRacksUptoSaid : Prop := storageRacksUptoRow.holds Tryz.pinned (OpenSpec.upto storageRacksSpec)

/-- 'storehousetop.StorageSurvives', WHERE WHAT IT READS IS OF BULK AT MOST 1048576: true; the input reads as it did. -/
def storageSurvivesUptoRow : OpenClaim := { program := "ythppfllkocphbaagreatdoor", sum := "f6d988e4d4cab80a6351087f3754146fe1e02dfb42fe366450d892afbcc47fd1", func := "storehouse/storehousetop.StorageSurvives", spec := "storageSurvives", inPlace := ["internal/reflectlite.ValueOf", "(internal/reflectlite.Value).Type", "(internal/reflectlite.Value).IsNil", "internal/reflectlite.TypeOf", "(internal/reflectlite.Value).Elem", "(internal/reflectlite.Value).Set", "internal/abi.NoEscape", "internal/bytealg.MakeNoZero", "maps.clone", "internal/bytealg.abigen_runtime_cmpstring"], unfollowed := true, recurses := true, named := ["errors.errorType"], apart := false, laid := [("errors.errorType", laid_errors_errorType)], narrowed := true }
def StorageSurvivesUptoSaid : Prop := storageSurvivesUptoRow.holds Tryz.pinned (OpenSpec.upto storageSurvivesSpec)

/-- 'storehousetop.StorageCalm', WHERE WHAT IT READS IS OF BULK AT MOST 1048576: true; the input reads as it did. -/
def storageCalmUptoRow : OpenClaim := { program := "ythppfllkocphbaagreatdoor", sum := "f6d988e4d4cab80a6351087f3754146fe1e02dfb42fe366450d892afbcc47fd1", func := "storehouse/storehousetop.StorageCalm", spec := "storageCalm", inPlace := ["internal/reflectlite.ValueOf", "(internal/reflectlite.Value).Type", "(internal/reflectlite.Value).IsNil", "internal/reflectlite.TypeOf", "(internal/reflectlite.Value).Elem", "(internal/reflectlite.Value).Set", "internal/abi.NoEscape", "internal/bytealg.MakeNoZero", "maps.clone", "internal/bytealg.abigen_runtime_cmpstring"], unfollowed := true, recurses := true, named := ["errors.errorType"], apart := false, laid := [("errors.errorType", laid_errors_errorType)], narrowed := true }
def StorageCalmUptoSaid : Prop := storageCalmUptoRow.holds Tryz.pinned (OpenSpec.upto storageCalmSpec)

end Rows
end Go.Proofs.YthppfllkocphbaaGreatDoor
