/-
  DERIVED. GIVEN WITH THE SEED: THE CARDS: each row of YthppfllkocphbaaGreatDoorRows.lean that lists a variable, with what it lists TIED to the program's text (the seventh form; the later family's looks); each row that meets fmt, with fmt's text TOLD by the authors' own Lean function (tested against real Go, not proved from fmt's source: count such statements apart). THE CARD IS WHAT COUNTS. Prove the row's statement (the work); the ties are given (YthppfllkocphbaaGreatDoorTie.lean); close each card by the builder's one call (the guide's Derived/Test/ToyasCard.lean, 'card_holds'). Laid BY PROGRAM, IN A SANDBOX (cutbox-door.mjs). By AI agents, Wed Nov 11 2026. No macro, syntax, notation, axiom, sorry.
-/
import Derived.Test.YthppfllkocphbaaGreatDoorRows
import GoSem.ClaimSeven
namespace Go.Proofs.YthppfllkocphbaaGreatDoor
namespace Rows

/-- THE TIED CARD OF 'storehousetop.StorageKeeps'. -/
def storageKeepsCard : Claim7 := { stood := { row := storageKeepsRow, standIns := [], harness := (true, "f1ef87e999e440c143a0b51e1efd823de63b90ee25da11266b0a5ab7af6e6796"), looks := true }, kinds := [], alts := [], laidByText := true, laidKinds := [.handle], laidTests := true, laidLooks := .later }
def StorageKeepsCardSaid : Prop := Claim7.holds Tryz.pinned (.plain (OpenSpec.ofChange storageKeepsSpec)) storageKeepsCard

/-- THE TIED CARD OF 'storehousetop.StorageRacks'. -/
def storageRacksCard : Claim7 := { stood := { row := storageRacksRow, standIns := [], harness := (true, "f1ef87e999e440c143a0b51e1efd823de63b90ee25da11266b0a5ab7af6e6796"), looks := true }, kinds := [], alts := [], laidByText := true, laidKinds := [.handle], laidTests := true, laidLooks := .later }
def StorageRacksCardSaid : Prop := Claim7.holds Tryz.pinned (.plain (OpenSpec.ofChange storageRacksSpec)) storageRacksCard

/-- THE TIED CARD OF 'storehousetop.StorageSurvives'. -/
def storageSurvivesCard : Claim7 := { stood := { row := storageSurvivesRow, standIns := [], harness := (true, "f1ef87e999e440c143a0b51e1efd823de63b90ee25da11266b0a5ab7af6e6796"), looks := true }, kinds := [], alts := [], laidByText := true, laidKinds := [.handle], laidTests := true, laidLooks := .later }
def StorageSurvivesCardSaid : Prop := Claim7.holds Tryz.pinned (.plain (OpenSpec.ofChange storageSurvivesSpec)) storageSurvivesCard

/-- THE TIED CARD OF 'storehousetop.StorageCalm'. -/
def storageCalmCard : Claim7 := { stood := { row := storageCalmRow, standIns := [], harness := (true, "f1ef87e999e440c143a0b51e1efd823de63b90ee25da11266b0a5ab7af6e6796"), looks := true }, kinds := [], alts := [], laidByText := true, laidKinds := [.handle], laidTests := true, laidLooks := .later }
def StorageCalmCardSaid : Prop := Claim7.holds Tryz.pinned (.plain (OpenSpec.ofChange storageCalmSpec)) storageCalmCard

/-- THE SECOND FORM's CARD OF 'storehousetop.StorageKeeps'. -/
def storageKeepsUptoCard : Claim7 := { stood := { row := storageKeepsUptoRow, standIns := [], harness := (true, "f1ef87e999e440c143a0b51e1efd823de63b90ee25da11266b0a5ab7af6e6796"), looks := true }, kinds := [], alts := [], laidByText := true, laidKinds := [.handle], laidTests := true, laidLooks := .later }
def StorageKeepsUptoCardSaid : Prop := Claim7.holds Tryz.pinned (.plain (OpenSpec.upto storageKeepsSpec)) storageKeepsUptoCard

/-- THE SECOND FORM's CARD OF 'storehousetop.StorageRacks'. -/
def storageRacksUptoCard : Claim7 := { stood := { row := storageRacksUptoRow, standIns := [], harness := (true, "f1ef87e999e440c143a0b51e1efd823de63b90ee25da11266b0a5ab7af6e6796"), looks := true }, kinds := [], alts := [], laidByText := true, laidKinds := [.handle], laidTests := true, laidLooks := .later }
def StorageRacksUptoCardSaid : Prop := Claim7.holds Tryz.pinned (.plain (OpenSpec.upto storageRacksSpec)) storageRacksUptoCard

/-- THE SECOND FORM's CARD OF 'storehousetop.StorageSurvives'. -/
def storageSurvivesUptoCard : Claim7 := { stood := { row := storageSurvivesUptoRow, standIns := [], harness := (true, "f1ef87e999e440c143a0b51e1efd823de63b90ee25da11266b0a5ab7af6e6796"), looks := true }, kinds := [], alts := [], laidByText := true, laidKinds := [.handle], laidTests := true, laidLooks := .later }
def StorageSurvivesUptoCardSaid : Prop := Claim7.holds Tryz.pinned (.plain (OpenSpec.upto storageSurvivesSpec)) storageSurvivesUptoCard

/-- THE SECOND FORM's CARD OF 'storehousetop.StorageCalm'. -/
def storageCalmUptoCard : Claim7 := { stood := { row := storageCalmUptoRow, standIns := [], harness := (true, "f1ef87e999e440c143a0b51e1efd823de63b90ee25da11266b0a5ab7af6e6796"), looks := true }, kinds := [], alts := [], laidByText := true, laidKinds := [.handle], laidTests := true, laidLooks := .later }
def StorageCalmUptoCardSaid : Prop := Claim7.holds Tryz.pinned (.plain (OpenSpec.upto storageCalmSpec)) storageCalmUptoCard
end Rows
end Go.Proofs.YthppfllkocphbaaGreatDoor
