/-
  No cell of these rows narrows 'for every input' (looked for: loops, veiled, ifaces, maps, wideKeys, modest, calm, conditions, laid).
  DERIVED. THE GIVEN ROWS OF THIS SEAT. 16 by the template 'for every input the law returns true; each argument reads behind the call as it read before'; 0 by the template 'total and deterministic' (their statements: YticdpmniikjlcaaTotals.lean).
  GIVEN WITH THE SEED: the statements are not yours to turn. If you find one false, say at which input.
  Laid BY PROGRAM, IN A SANDBOX (cutbox-rows.mjs): the forced cells as the released guide's own fill.sh prints them over the translation 36ff243eecbc2cf5… (all of the seat's roots in one cut). By AI agents, Wed Nov 11 2026. No macro, syntax, notation, axiom, sorry.
-/
import Derived.Test.YticdpmniikjlcaaChecked
import GoSem.Claim
import GoSem.ClaimJoined
import GoSem.ClaimMapViews
import Derived.JoinedTies
import Derived.KernelRfl
namespace Go.Proofs.Yticdpmniikjlcaa
/- THE CELL 'sum', in the pinned program and in every row, IS THE sha256 OF THE DUMP (.gsa) THAT YticdpmniikjlcaaProg.lean LOADS. Nothing in Lean hashes anything: it is a label: what it is worth is what the hold of that sum in a sandbox is worth. -/
noncomputable def Try.pinned : Pinned := { name := "yticdpmniikjlcaa", sum := "36ff243eecbc2cf5375ad87f514406f6f2d0d0b53b82a31e5421fd2c071b89b8", checked := Try.checked }
namespace Rows
def none {H : Type} : Left H := { results := [], args := [] }

/-- 'storehouselaw06.FieldReckons': WHATEVER THE INPUT: true; the input reads as it did. -/
def fieldReckonsSpec : ChangeSpec := { name := "fieldReckons", fn := fun _ => fun
  | [d1, d2, d3] => { results := [.lit (.bool true)], args := [d1, d2, d3] }
  | _ => none }
def fieldReckonsRow : OpenClaim := { program := "yticdpmniikjlcaa", sum := "36ff243eecbc2cf5375ad87f514406f6f2d0d0b53b82a31e5421fd2c071b89b8", func := "storehouse/storehouselaw06.FieldReckons", spec := "fieldReckons", apart := false }
def FieldReckonsSaid : Prop := fieldReckonsRow.holds Try.pinned (OpenSpec.ofChange fieldReckonsSpec)

/-- ITS FALSE NEIGHBOUR: 'it returns false'. Refute it at one input. -/
def fieldReckonsWrong : ChangeSpec := { name := "fieldReckons", fn := fun _ => fun
  | [d1, d2, d3] => { results := [.lit (.bool false)], args := [d1, d2, d3] }
  | _ => none }
def FieldReckonsWrongFalsely : Prop := fieldReckonsRow.holds Try.pinned (OpenSpec.ofChange fieldReckonsWrong)

/-- 'storehouselaw06.FieldScales': WHATEVER THE INPUT: true; the input reads as it did. -/
def fieldScalesSpec : ChangeSpec := { name := "fieldScales", fn := fun _ => fun
  | [d1, d2, d3] => { results := [.lit (.bool true)], args := [d1, d2, d3] }
  | _ => none }
def fieldScalesRow : OpenClaim := { program := "yticdpmniikjlcaa", sum := "36ff243eecbc2cf5375ad87f514406f6f2d0d0b53b82a31e5421fd2c071b89b8", func := "storehouse/storehouselaw06.FieldScales", spec := "fieldScales", apart := false }
def FieldScalesSaid : Prop := fieldScalesRow.holds Try.pinned (OpenSpec.ofChange fieldScalesSpec)

/-- ITS FALSE NEIGHBOUR: 'it returns false'. Refute it at one input. -/
def fieldScalesWrong : ChangeSpec := { name := "fieldScales", fn := fun _ => fun
  | [d1, d2, d3] => { results := [.lit (.bool false)], args := [d1, d2, d3] }
  | _ => none }
def FieldScalesWrongFalsely : Prop := fieldScalesRow.holds Try.pinned (OpenSpec.ofChange fieldScalesWrong)

/-- 'storehouselaw06.FieldLaws': WHATEVER THE INPUT: true; the input reads as it did. -/
def fieldLawsSpec : ChangeSpec := { name := "fieldLaws", fn := fun _ => fun
  | [d1, d2, d3] => { results := [.lit (.bool true)], args := [d1, d2, d3] }
  | _ => none }
def fieldLawsRow : OpenClaim := { program := "yticdpmniikjlcaa", sum := "36ff243eecbc2cf5375ad87f514406f6f2d0d0b53b82a31e5421fd2c071b89b8", func := "storehouse/storehouselaw06.FieldLaws", spec := "fieldLaws", apart := false }
def FieldLawsSaid : Prop := fieldLawsRow.holds Try.pinned (OpenSpec.ofChange fieldLawsSpec)

/-- ITS FALSE NEIGHBOUR: 'it returns false'. Refute it at one input. -/
def fieldLawsWrong : ChangeSpec := { name := "fieldLaws", fn := fun _ => fun
  | [d1, d2, d3] => { results := [.lit (.bool false)], args := [d1, d2, d3] }
  | _ => none }
def FieldLawsWrongFalsely : Prop := fieldLawsRow.holds Try.pinned (OpenSpec.ofChange fieldLawsWrong)

/-- 'storehouselaw06.FieldPowers': WHATEVER THE INPUT: true; the input reads as it did. -/
def fieldPowersSpec : ChangeSpec := { name := "fieldPowers", fn := fun _ => fun
  | [d1, d2, d3] => { results := [.lit (.bool true)], args := [d1, d2, d3] }
  | _ => none }
def fieldPowersRow : OpenClaim := { program := "yticdpmniikjlcaa", sum := "36ff243eecbc2cf5375ad87f514406f6f2d0d0b53b82a31e5421fd2c071b89b8", func := "storehouse/storehouselaw06.FieldPowers", spec := "fieldPowers", apart := false }
def FieldPowersSaid : Prop := fieldPowersRow.holds Try.pinned (OpenSpec.ofChange fieldPowersSpec)

/-- ITS FALSE NEIGHBOUR: 'it returns false'. Refute it at one input. -/
def fieldPowersWrong : ChangeSpec := { name := "fieldPowers", fn := fun _ => fun
  | [d1, d2, d3] => { results := [.lit (.bool false)], args := [d1, d2, d3] }
  | _ => none }
def FieldPowersWrongFalsely : Prop := fieldPowersRow.holds Try.pinned (OpenSpec.ofChange fieldPowersWrong)

/-- 'storehouselaw07.MatrixApplies': WHATEVER THE INPUT: true; the input reads as it did. -/
def matrixAppliesSpec : ChangeSpec := { name := "matrixApplies", fn := fun _ => fun
  | [d1, d2] => { results := [.lit (.bool true)], args := [d1, d2] }
  | _ => none }
def matrixAppliesRow : OpenClaim := { program := "yticdpmniikjlcaa", sum := "36ff243eecbc2cf5375ad87f514406f6f2d0d0b53b82a31e5421fd2c071b89b8", func := "storehouse/storehouselaw07.MatrixApplies", spec := "matrixApplies", inPlace := ["internal/reflectlite.TypeOf"], unfollowed := true, recurses := true, apart := false }
def MatrixAppliesSaid : Prop := matrixAppliesRow.holds Try.pinned (OpenSpec.ofChange matrixAppliesSpec)

/-- ITS FALSE NEIGHBOUR: 'it returns false'. Refute it at one input. -/
def matrixAppliesWrong : ChangeSpec := { name := "matrixApplies", fn := fun _ => fun
  | [d1, d2] => { results := [.lit (.bool false)], args := [d1, d2] }
  | _ => none }
def MatrixAppliesWrongFalsely : Prop := matrixAppliesRow.holds Try.pinned (OpenSpec.ofChange matrixAppliesWrong)

/-- 'storehouselaw07.MatrixInverse': WHATEVER THE INPUT: true; the input reads as it did. -/
def matrixInverseSpec : ChangeSpec := { name := "matrixInverse", fn := fun _ => fun
  | [d1, d2] => { results := [.lit (.bool true)], args := [d1, d2] }
  | _ => none }
def matrixInverseRow : OpenClaim := { program := "yticdpmniikjlcaa", sum := "36ff243eecbc2cf5375ad87f514406f6f2d0d0b53b82a31e5421fd2c071b89b8", func := "storehouse/storehouselaw07.MatrixInverse", spec := "matrixInverse", inPlace := ["internal/reflectlite.TypeOf"], unfollowed := true, recurses := true, apart := false }
def MatrixInverseSaid : Prop := matrixInverseRow.holds Try.pinned (OpenSpec.ofChange matrixInverseSpec)

/-- ITS FALSE NEIGHBOUR: 'it returns false'. Refute it at one input. -/
def matrixInverseWrong : ChangeSpec := { name := "matrixInverse", fn := fun _ => fun
  | [d1, d2] => { results := [.lit (.bool false)], args := [d1, d2] }
  | _ => none }
def MatrixInverseWrongFalsely : Prop := matrixInverseRow.holds Try.pinned (OpenSpec.ofChange matrixInverseWrong)

/-- 'storehouselaw07.MatrixChains': WHATEVER THE INPUT: true; the input reads as it did. -/
def matrixChainsSpec : ChangeSpec := { name := "matrixChains", fn := fun _ => fun
  | [d1, d2, d3, d4, d5] => { results := [.lit (.bool true)], args := [d1, d2, d3, d4, d5] }
  | _ => none }
def matrixChainsRow : OpenClaim := { program := "yticdpmniikjlcaa", sum := "36ff243eecbc2cf5375ad87f514406f6f2d0d0b53b82a31e5421fd2c071b89b8", func := "storehouse/storehouselaw07.MatrixChains", spec := "matrixChains", inPlace := ["internal/reflectlite.TypeOf"], unfollowed := true, recurses := true, apart := false }
def MatrixChainsSaid : Prop := matrixChainsRow.holds Try.pinned (OpenSpec.ofChange matrixChainsSpec)

/-- ITS FALSE NEIGHBOUR: 'it returns false'. Refute it at one input. -/
def matrixChainsWrong : ChangeSpec := { name := "matrixChains", fn := fun _ => fun
  | [d1, d2, d3, d4, d5] => { results := [.lit (.bool false)], args := [d1, d2, d3, d4, d5] }
  | _ => none }
def MatrixChainsWrongFalsely : Prop := matrixChainsRow.holds Try.pinned (OpenSpec.ofChange matrixChainsWrong)

/-- 'storehouselaw07.MatrixMakes': WHATEVER THE INPUT: true; the input reads as it did. -/
def matrixMakesSpec : ChangeSpec := { name := "matrixMakes", fn := fun _ => fun
  | [d1, d2, d3, d4] => { results := [.lit (.bool true)], args := [d1, d2, d3, d4] }
  | _ => none }
def matrixMakesRow : OpenClaim := { program := "yticdpmniikjlcaa", sum := "36ff243eecbc2cf5375ad87f514406f6f2d0d0b53b82a31e5421fd2c071b89b8", func := "storehouse/storehouselaw07.MatrixMakes", spec := "matrixMakes", inPlace := ["internal/reflectlite.TypeOf"], unfollowed := true, recurses := true, apart := false }
def MatrixMakesSaid : Prop := matrixMakesRow.holds Try.pinned (OpenSpec.ofChange matrixMakesSpec)

/-- ITS FALSE NEIGHBOUR: 'it returns false'. Refute it at one input. -/
def matrixMakesWrong : ChangeSpec := { name := "matrixMakes", fn := fun _ => fun
  | [d1, d2, d3, d4] => { results := [.lit (.bool false)], args := [d1, d2, d3, d4] }
  | _ => none }
def MatrixMakesWrongFalsely : Prop := matrixMakesRow.holds Try.pinned (OpenSpec.ofChange matrixMakesWrong)

/-- 'storehouselaw07.MatrixReckons': WHATEVER THE INPUT: true; the input reads as it did. -/
def matrixReckonsSpec : ChangeSpec := { name := "matrixReckons", fn := fun _ => fun
  | [d1, d2, d3] => { results := [.lit (.bool true)], args := [d1, d2, d3] }
  | _ => none }
def matrixReckonsRow : OpenClaim := { program := "yticdpmniikjlcaa", sum := "36ff243eecbc2cf5375ad87f514406f6f2d0d0b53b82a31e5421fd2c071b89b8", func := "storehouse/storehouselaw07.MatrixReckons", spec := "matrixReckons", inPlace := ["internal/reflectlite.TypeOf"], unfollowed := true, recurses := true, apart := false }
def MatrixReckonsSaid : Prop := matrixReckonsRow.holds Try.pinned (OpenSpec.ofChange matrixReckonsSpec)

/-- ITS FALSE NEIGHBOUR: 'it returns false'. Refute it at one input. -/
def matrixReckonsWrong : ChangeSpec := { name := "matrixReckons", fn := fun _ => fun
  | [d1, d2, d3] => { results := [.lit (.bool false)], args := [d1, d2, d3] }
  | _ => none }
def MatrixReckonsWrongFalsely : Prop := matrixReckonsRow.holds Try.pinned (OpenSpec.ofChange matrixReckonsWrong)

/-- 'storehouselaw07.MatrixCauchy': WHATEVER THE INPUT: true; the input reads as it did. -/
def matrixCauchySpec : ChangeSpec := { name := "matrixCauchy", fn := fun _ => fun
  | [d1, d2, d3] => { results := [.lit (.bool true)], args := [d1, d2, d3] }
  | _ => none }
def matrixCauchyRow : OpenClaim := { program := "yticdpmniikjlcaa", sum := "36ff243eecbc2cf5375ad87f514406f6f2d0d0b53b82a31e5421fd2c071b89b8", func := "storehouse/storehouselaw07.MatrixCauchy", spec := "matrixCauchy", inPlace := ["internal/reflectlite.TypeOf"], unfollowed := true, recurses := true, apart := false }
def MatrixCauchySaid : Prop := matrixCauchyRow.holds Try.pinned (OpenSpec.ofChange matrixCauchySpec)

/-- ITS FALSE NEIGHBOUR: 'it returns false'. Refute it at one input. -/
def matrixCauchyWrong : ChangeSpec := { name := "matrixCauchy", fn := fun _ => fun
  | [d1, d2, d3] => { results := [.lit (.bool false)], args := [d1, d2, d3] }
  | _ => none }
def MatrixCauchyWrongFalsely : Prop := matrixCauchyRow.holds Try.pinned (OpenSpec.ofChange matrixCauchyWrong)

/-- 'storehouselaw08.ErasureEncodes': WHATEVER THE INPUT: true; the input reads as it did. -/
def erasureEncodesSpec : ChangeSpec := { name := "erasureEncodes", fn := fun _ => fun
  | [d1, d2, d3, d4] => { results := [.lit (.bool true)], args := [d1, d2, d3, d4] }
  | _ => none }
def erasureEncodesRow : OpenClaim := { program := "yticdpmniikjlcaa", sum := "36ff243eecbc2cf5375ad87f514406f6f2d0d0b53b82a31e5421fd2c071b89b8", func := "storehouse/storehouselaw08.ErasureEncodes", spec := "erasureEncodes", inPlace := ["internal/abi.NoEscape", "internal/bytealg.MakeNoZero", "internal/reflectlite.TypeOf"], unfollowed := true, recurses := true, apart := false }
def ErasureEncodesSaid : Prop := erasureEncodesRow.holds Try.pinned (OpenSpec.ofChange erasureEncodesSpec)

/-- ITS FALSE NEIGHBOUR: 'it returns false'. Refute it at one input. -/
def erasureEncodesWrong : ChangeSpec := { name := "erasureEncodes", fn := fun _ => fun
  | [d1, d2, d3, d4] => { results := [.lit (.bool false)], args := [d1, d2, d3, d4] }
  | _ => none }
def ErasureEncodesWrongFalsely : Prop := erasureEncodesRow.holds Try.pinned (OpenSpec.ofChange erasureEncodesWrong)

/-- 'storehouselaw08.ErasureRestores': WHATEVER THE INPUT: true; the input reads as it did. -/
def erasureRestoresSpec : ChangeSpec := { name := "erasureRestores", fn := fun _ => fun
  | [d1, d2, d3, d4] => { results := [.lit (.bool true)], args := [d1, d2, d3, d4] }
  | _ => none }
def erasureRestoresRow : OpenClaim := { program := "yticdpmniikjlcaa", sum := "36ff243eecbc2cf5375ad87f514406f6f2d0d0b53b82a31e5421fd2c071b89b8", func := "storehouse/storehouselaw08.ErasureRestores", spec := "erasureRestores", inPlace := ["internal/abi.NoEscape", "internal/bytealg.MakeNoZero", "internal/reflectlite.TypeOf"], unfollowed := true, recurses := true, apart := false }
def ErasureRestoresSaid : Prop := erasureRestoresRow.holds Try.pinned (OpenSpec.ofChange erasureRestoresSpec)

/-- ITS FALSE NEIGHBOUR: 'it returns false'. Refute it at one input. -/
def erasureRestoresWrong : ChangeSpec := { name := "erasureRestores", fn := fun _ => fun
  | [d1, d2, d3, d4] => { results := [.lit (.bool false)], args := [d1, d2, d3, d4] }
  | _ => none }
def ErasureRestoresWrongFalsely : Prop := erasureRestoresRow.holds Try.pinned (OpenSpec.ofChange erasureRestoresWrong)

/-- 'storehouselaw08.ErasureAny': WHATEVER THE INPUT: true; the input reads as it did. -/
def erasureAnySpec : ChangeSpec := { name := "erasureAny", fn := fun _ => fun
  | [d1, d2, d3, d4, d5] => { results := [.lit (.bool true)], args := [d1, d2, d3, d4, d5] }
  | _ => none }
def erasureAnyRow : OpenClaim := { program := "yticdpmniikjlcaa", sum := "36ff243eecbc2cf5375ad87f514406f6f2d0d0b53b82a31e5421fd2c071b89b8", func := "storehouse/storehouselaw08.ErasureAny", spec := "erasureAny", inPlace := ["internal/abi.NoEscape", "internal/bytealg.MakeNoZero", "internal/reflectlite.TypeOf"], unfollowed := true, recurses := true, apart := false }
def ErasureAnySaid : Prop := erasureAnyRow.holds Try.pinned (OpenSpec.ofChange erasureAnySpec)

/-- ITS FALSE NEIGHBOUR: 'it returns false'. Refute it at one input. -/
def erasureAnyWrong : ChangeSpec := { name := "erasureAny", fn := fun _ => fun
  | [d1, d2, d3, d4, d5] => { results := [.lit (.bool false)], args := [d1, d2, d3, d4, d5] }
  | _ => none }
def ErasureAnyWrongFalsely : Prop := erasureAnyRow.holds Try.pinned (OpenSpec.ofChange erasureAnyWrong)

/-- 'storehouselaw08.ErasureFew': WHATEVER THE INPUT: true; the input reads as it did. -/
def erasureFewSpec : ChangeSpec := { name := "erasureFew", fn := fun _ => fun
  | [d1, d2, d3, d4] => { results := [.lit (.bool true)], args := [d1, d2, d3, d4] }
  | _ => none }
def erasureFewRow : OpenClaim := { program := "yticdpmniikjlcaa", sum := "36ff243eecbc2cf5375ad87f514406f6f2d0d0b53b82a31e5421fd2c071b89b8", func := "storehouse/storehouselaw08.ErasureFew", spec := "erasureFew", inPlace := ["internal/abi.NoEscape", "internal/bytealg.MakeNoZero", "internal/reflectlite.TypeOf"], unfollowed := true, recurses := true, apart := false }
def ErasureFewSaid : Prop := erasureFewRow.holds Try.pinned (OpenSpec.ofChange erasureFewSpec)

/-- ITS FALSE NEIGHBOUR: 'it returns false'. Refute it at one input. -/
def erasureFewWrong : ChangeSpec := { name := "erasureFew", fn := fun _ => fun
  | [d1, d2, d3, d4] => { results := [.lit (.bool false)], args := [d1, d2, d3, d4] }
  | _ => none }
def ErasureFewWrongFalsely : Prop := erasureFewRow.holds Try.pinned (OpenSpec.ofChange erasureFewWrong)

/-- 'storehouselaw08.ErasureOne': WHATEVER THE INPUT: true; the input reads as it did. -/
def erasureOneSpec : ChangeSpec := { name := "erasureOne", fn := fun _ => fun
  | [d1, d2, d3, d4, d5, d6] => { results := [.lit (.bool true)], args := [d1, d2, d3, d4, d5, d6] }
  | _ => none }
def erasureOneRow : OpenClaim := { program := "yticdpmniikjlcaa", sum := "36ff243eecbc2cf5375ad87f514406f6f2d0d0b53b82a31e5421fd2c071b89b8", func := "storehouse/storehouselaw08.ErasureOne", spec := "erasureOne", inPlace := ["internal/abi.NoEscape", "internal/bytealg.MakeNoZero", "internal/reflectlite.TypeOf"], unfollowed := true, recurses := true, apart := false }
def ErasureOneSaid : Prop := erasureOneRow.holds Try.pinned (OpenSpec.ofChange erasureOneSpec)

/-- ITS FALSE NEIGHBOUR: 'it returns false'. Refute it at one input. -/
def erasureOneWrong : ChangeSpec := { name := "erasureOne", fn := fun _ => fun
  | [d1, d2, d3, d4, d5, d6] => { results := [.lit (.bool false)], args := [d1, d2, d3, d4, d5, d6] }
  | _ => none }
def ErasureOneWrongFalsely : Prop := erasureOneRow.holds Try.pinned (OpenSpec.ofChange erasureOneWrong)

/-- 'storehouselaw08.ErasureSums': WHATEVER THE INPUT: true; the input reads as it did. -/
def erasureSumsSpec : ChangeSpec := { name := "erasureSums", fn := fun _ => fun
  | [d1, d2, d3, d4] => { results := [.lit (.bool true)], args := [d1, d2, d3, d4] }
  | _ => none }
def erasureSumsRow : OpenClaim := { program := "yticdpmniikjlcaa", sum := "36ff243eecbc2cf5375ad87f514406f6f2d0d0b53b82a31e5421fd2c071b89b8", func := "storehouse/storehouselaw08.ErasureSums", spec := "erasureSums", inPlace := ["internal/abi.NoEscape", "internal/bytealg.MakeNoZero", "internal/reflectlite.TypeOf"], unfollowed := true, recurses := true, apart := false }
def ErasureSumsSaid : Prop := erasureSumsRow.holds Try.pinned (OpenSpec.ofChange erasureSumsSpec)

/-- ITS FALSE NEIGHBOUR: 'it returns false'. Refute it at one input. -/
def erasureSumsWrong : ChangeSpec := { name := "erasureSums", fn := fun _ => fun
  | [d1, d2, d3, d4] => { results := [.lit (.bool false)], args := [d1, d2, d3, d4] }
  | _ => none }
def ErasureSumsWrongFalsely : Prop := erasureSumsRow.holds Try.pinned (OpenSpec.ofChange erasureSumsWrong)

/- THE SECOND FORM. 'bulk': how many values and letters a reading holds, each counted each time it is reached (what is shared counts as often as it is met; a slice's spare places count too). A statement '..UptoSaid' is the law's where the arguments, and the package variables that the reading takes, are together of bulk at most 1048576: NARROWER than '..Said'. Prove '..Said' where nothing that the law and all that it calls make is longer than what came in: it says more and counts as full. Else prove '..UptoSaid'. A law counts once. -/
mutual
def uptoBulk {H : Type} : DataW H → Nat
  | .lit (.string bytes) => bytes.length + 1
  | .lit _ => 1
  | .nil => 1
  | .ptr d => uptoBulk d + 1
  | .slice elems spare => uptoBulkAll elems + uptoBulkAll spare + 1
  | .agg parts => uptoBulkAll parts + 1
  | .iface _ d => uptoBulk d + 1
  | .map entries => uptoBulkEntries entries + 1
  | .held _ => 1
def uptoBulkAll {H : Type} : List (DataW H) → Nat
  | [] => 0
  | d :: r => uptoBulk d + uptoBulkAll r
def uptoBulkEntries {H : Type} : List (Lit × DataW H) → Nat
  | [] => 0
  | x :: r => uptoBulkEntry x + uptoBulkEntries r
def uptoBulkEntry {H : Type} : Lit × DataW H → Nat
  | (.string bytes, d) => bytes.length + uptoBulk d + 1
  | (_, d) => uptoBulk d + 1
 end
def uptoSmall : (H : Type) → List (DataW H) → Bool := fun _ ds => decide (uptoBulkAll ds ≤ 1048576)
def OpenSpec.upto (s : _root_.Go.ChangeSpec) : _root_.Go.OpenSpec := { _root_.Go.OpenSpec.ofChange s with cond := some uptoSmall }

/-- 'storehouselaw06.FieldReckons', WHERE WHAT IT READS IS OF BULK AT MOST 1048576: true; the input reads as it did. -/
def fieldReckonsUptoRow : OpenClaim := { program := "yticdpmniikjlcaa", sum := "36ff243eecbc2cf5375ad87f514406f6f2d0d0b53b82a31e5421fd2c071b89b8", func := "storehouse/storehouselaw06.FieldReckons", spec := "fieldReckons", apart := false, narrowed := true }
def FieldReckonsUptoSaid : Prop := fieldReckonsUptoRow.holds Try.pinned (OpenSpec.upto fieldReckonsSpec)

/-- 'storehouselaw06.FieldScales', WHERE WHAT IT READS IS OF BULK AT MOST 1048576: true; the input reads as it did. -/
def fieldScalesUptoRow : OpenClaim := { program := "yticdpmniikjlcaa", sum := "36ff243eecbc2cf5375ad87f514406f6f2d0d0b53b82a31e5421fd2c071b89b8", func := "storehouse/storehouselaw06.FieldScales", spec := "fieldScales", apart := false, narrowed := true }
def FieldScalesUptoSaid : Prop := fieldScalesUptoRow.holds Try.pinned (OpenSpec.upto fieldScalesSpec)

/-- 'storehouselaw06.FieldLaws', WHERE WHAT IT READS IS OF BULK AT MOST 1048576: true; the input reads as it did. -/
def fieldLawsUptoRow : OpenClaim := { program := "yticdpmniikjlcaa", sum := "36ff243eecbc2cf5375ad87f514406f6f2d0d0b53b82a31e5421fd2c071b89b8", func := "storehouse/storehouselaw06.FieldLaws", spec := "fieldLaws", apart := false, narrowed := true }
def FieldLawsUptoSaid : Prop := fieldLawsUptoRow.holds Try.pinned (OpenSpec.upto fieldLawsSpec)

/-- 'storehouselaw06.FieldPowers', WHERE WHAT IT READS IS OF BULK AT MOST 1048576: true; the input reads as it did. -/
def fieldPowersUptoRow : OpenClaim := { program := "yticdpmniikjlcaa", sum := "36ff243eecbc2cf5375ad87f514406f6f2d0d0b53b82a31e5421fd2c071b89b8", func := "storehouse/storehouselaw06.FieldPowers", spec := "fieldPowers", apart := false, narrowed := true }
def FieldPowersUptoSaid : Prop := fieldPowersUptoRow.holds Try.pinned (OpenSpec.upto fieldPowersSpec)

/-- 'storehouselaw07.MatrixApplies', WHERE WHAT IT READS IS OF BULK AT MOST 1048576: true; the input reads as it did. -/
def matrixAppliesUptoRow : OpenClaim := { program := "yticdpmniikjlcaa", sum := "36ff243eecbc2cf5375ad87f514406f6f2d0d0b53b82a31e5421fd2c071b89b8", func := "storehouse/storehouselaw07.MatrixApplies", spec := "matrixApplies", inPlace := ["internal/reflectlite.TypeOf"], unfollowed := true, recurses := true, apart := false, narrowed := true }
def MatrixAppliesUptoSaid : Prop := matrixAppliesUptoRow.holds Try.pinned (OpenSpec.upto matrixAppliesSpec)

/-- 'storehouselaw07.MatrixInverse', WHERE WHAT IT READS IS OF BULK AT MOST 1048576: true; the input reads as it did. -/
def matrixInverseUptoRow : OpenClaim := { program := "yticdpmniikjlcaa", sum := "36ff243eecbc2cf5375ad87f514406f6f2d0d0b53b82a31e5421fd2c071b89b8", func := "storehouse/storehouselaw07.MatrixInverse", spec := "matrixInverse", inPlace := ["internal/reflectlite.TypeOf"], unfollowed := true, recurses := true, apart := false, narrowed := true }
def MatrixInverseUptoSaid : Prop := matrixInverseUptoRow.holds Try.pinned (OpenSpec.upto matrixInverseSpec)

/-- 'storehouselaw07.MatrixChains', WHERE WHAT IT READS IS OF BULK AT MOST 1048576: true; the input reads as it did. -/
def matrixChainsUptoRow : OpenClaim := { program := "yticdpmniikjlcaa", sum := "36ff243eecbc2cf5375ad87f514406f6f2d0d0b53b82a31e5421fd2c071b89b8", func := "storehouse/storehouselaw07.MatrixChains", spec := "matrixChains", inPlace := ["internal/reflectlite.TypeOf"], unfollowed := true, recurses := true, apart := false, narrowed := true }
def MatrixChainsUptoSaid : Prop := matrixChainsUptoRow.holds Try.pinned (OpenSpec.upto matrixChainsSpec)

/-- 'storehouselaw07.MatrixMakes', WHERE WHAT IT READS IS OF BULK AT MOST 1048576: true; the input reads as it did. -/
def matrixMakesUptoRow : OpenClaim := { program := "yticdpmniikjlcaa", sum := "36ff243eecbc2cf5375ad87f514406f6f2d0d0b53b82a31e5421fd2c071b89b8", func := "storehouse/storehouselaw07.MatrixMakes", spec := "matrixMakes", inPlace := ["internal/reflectlite.TypeOf"], unfollowed := true, recurses := true, apart := false, narrowed := true }
def MatrixMakesUptoSaid : Prop := matrixMakesUptoRow.holds Try.pinned (OpenSpec.upto matrixMakesSpec)

/-- 'storehouselaw07.MatrixReckons', WHERE WHAT IT READS IS OF BULK AT MOST 1048576: true; the input reads as it did. -/
def matrixReckonsUptoRow : OpenClaim := { program := "yticdpmniikjlcaa", sum := "36ff243eecbc2cf5375ad87f514406f6f2d0d0b53b82a31e5421fd2c071b89b8", func := "storehouse/storehouselaw07.MatrixReckons", spec := "matrixReckons", inPlace := ["internal/reflectlite.TypeOf"], unfollowed := true, recurses := true, apart := false, narrowed := true }
def MatrixReckonsUptoSaid : Prop := matrixReckonsUptoRow.holds Try.pinned (OpenSpec.upto matrixReckonsSpec)

/-- 'storehouselaw07.MatrixCauchy', WHERE WHAT IT READS IS OF BULK AT MOST 1048576: true; the input reads as it did. -/
def matrixCauchyUptoRow : OpenClaim := { program := "yticdpmniikjlcaa", sum := "36ff243eecbc2cf5375ad87f514406f6f2d0d0b53b82a31e5421fd2c071b89b8", func := "storehouse/storehouselaw07.MatrixCauchy", spec := "matrixCauchy", inPlace := ["internal/reflectlite.TypeOf"], unfollowed := true, recurses := true, apart := false, narrowed := true }
def MatrixCauchyUptoSaid : Prop := matrixCauchyUptoRow.holds Try.pinned (OpenSpec.upto matrixCauchySpec)

/-- 'storehouselaw08.ErasureEncodes', WHERE WHAT IT READS IS OF BULK AT MOST 1048576: true; the input reads as it did. -/
def erasureEncodesUptoRow : OpenClaim := { program := "yticdpmniikjlcaa", sum := "36ff243eecbc2cf5375ad87f514406f6f2d0d0b53b82a31e5421fd2c071b89b8", func := "storehouse/storehouselaw08.ErasureEncodes", spec := "erasureEncodes", inPlace := ["internal/abi.NoEscape", "internal/bytealg.MakeNoZero", "internal/reflectlite.TypeOf"], unfollowed := true, recurses := true, apart := false, narrowed := true }
def ErasureEncodesUptoSaid : Prop := erasureEncodesUptoRow.holds Try.pinned (OpenSpec.upto erasureEncodesSpec)

/-- 'storehouselaw08.ErasureRestores', WHERE WHAT IT READS IS OF BULK AT MOST 1048576: true; the input reads as it did. -/
def erasureRestoresUptoRow : OpenClaim := { program := "yticdpmniikjlcaa", sum := "36ff243eecbc2cf5375ad87f514406f6f2d0d0b53b82a31e5421fd2c071b89b8", func := "storehouse/storehouselaw08.ErasureRestores", spec := "erasureRestores", inPlace := ["internal/abi.NoEscape", "internal/bytealg.MakeNoZero", "internal/reflectlite.TypeOf"], unfollowed := true, recurses := true, apart := false, narrowed := true }
def ErasureRestoresUptoSaid : Prop := erasureRestoresUptoRow.holds Try.pinned (OpenSpec.upto erasureRestoresSpec)

/-- 'storehouselaw08.ErasureAny', WHERE WHAT IT READS IS OF BULK AT MOST 1048576: true; the input reads as it did. -/
def erasureAnyUptoRow : OpenClaim := { program := "yticdpmniikjlcaa", sum := "36ff243eecbc2cf5375ad87f514406f6f2d0d0b53b82a31e5421fd2c071b89b8", func := "storehouse/storehouselaw08.ErasureAny", spec := "erasureAny", inPlace := ["internal/abi.NoEscape", "internal/bytealg.MakeNoZero", "internal/reflectlite.TypeOf"], unfollowed := true, recurses := true, apart := false, narrowed := true }
def ErasureAnyUptoSaid : Prop := erasureAnyUptoRow.holds Try.pinned (OpenSpec.upto erasureAnySpec)

/-- 'storehouselaw08.ErasureFew', WHERE WHAT IT READS IS OF BULK AT MOST 1048576: true; the input reads as it did. -/
def erasureFewUptoRow : OpenClaim := { program := "yticdpmniikjlcaa", sum := "36ff243eecbc2cf5375ad87f514406f6f2d0d0b53b82a31e5421fd2c071b89b8", func := "storehouse/storehouselaw08.ErasureFew", spec := "erasureFew", inPlace := ["internal/abi.NoEscape", "internal/bytealg.MakeNoZero", "internal/reflectlite.TypeOf"], unfollowed := true, recurses := true, apart := false, narrowed := true }
def ErasureFewUptoSaid : Prop := erasureFewUptoRow.holds Try.pinned (OpenSpec.upto erasureFewSpec)

/-- 'storehouselaw08.ErasureOne', WHERE WHAT IT READS IS OF BULK AT MOST 1048576: true; the input reads as it did. -/
def erasureOneUptoRow : OpenClaim := { program := "yticdpmniikjlcaa", sum := "36ff243eecbc2cf5375ad87f514406f6f2d0d0b53b82a31e5421fd2c071b89b8", func := "storehouse/storehouselaw08.ErasureOne", spec := "erasureOne", inPlace := ["internal/abi.NoEscape", "internal/bytealg.MakeNoZero", "internal/reflectlite.TypeOf"], unfollowed := true, recurses := true, apart := false, narrowed := true }
def ErasureOneUptoSaid : Prop := erasureOneUptoRow.holds Try.pinned (OpenSpec.upto erasureOneSpec)

/-- 'storehouselaw08.ErasureSums', WHERE WHAT IT READS IS OF BULK AT MOST 1048576: true; the input reads as it did. -/
def erasureSumsUptoRow : OpenClaim := { program := "yticdpmniikjlcaa", sum := "36ff243eecbc2cf5375ad87f514406f6f2d0d0b53b82a31e5421fd2c071b89b8", func := "storehouse/storehouselaw08.ErasureSums", spec := "erasureSums", inPlace := ["internal/abi.NoEscape", "internal/bytealg.MakeNoZero", "internal/reflectlite.TypeOf"], unfollowed := true, recurses := true, apart := false, narrowed := true }
def ErasureSumsUptoSaid : Prop := erasureSumsUptoRow.holds Try.pinned (OpenSpec.upto erasureSumsSpec)

end Rows
end Go.Proofs.Yticdpmniikjlcaa
