/-
  DERIVED. GIVEN WITH THE SEED: THE CARDS: each row of YtpdlmdlkecnpgaaGreatDoorRows.lean that lists a variable, with what it lists TIED to the program's text (the seventh form; the later family's looks); each row that meets fmt, with fmt's text TOLD by the authors' own Lean function (tested against real Go, not proved from fmt's source: count such statements apart). THE CARD IS WHAT COUNTS. Prove the row's statement (the work); the ties are given (YtpdlmdlkecnpgaaGreatDoorTie.lean); close each card by the builder's one call (the guide's Derived/Test/ToyasCard.lean, 'card_holds'). Laid BY PROGRAM, IN A SANDBOX (cutbox-door.mjs). By AI agents, Wed Nov 11 2026. No macro, syntax, notation, axiom, sorry.
-/
import Derived.Test.YtpdlmdlkecnpgaaGreatDoorRows
import GoSem.ClaimSeven
namespace Go.Proofs.YtpdlmdlkecnpgaaGreatDoor
namespace Rows

/-- THE TIED CARD OF 'geodelaw08.ModuleBack'. -/
def moduleBackCard : Claim7 := { stood := { row := moduleBackRow, standIns := [], harness := (true, "92312e80e7478b06e1e4e4682b88a942b96d86c35e05c09bd9c68c8ab6d3af2f"), looks := false }, kinds := [], alts := [], laidByText := true, laidKinds := [.data, .data, .data], laidTests := true, laidLooks := .later }
def ModuleBackCardSaid : Prop := Claim7.holds Tryz.pinned (.plain (OpenSpec.ofChange moduleBackSpec)) moduleBackCard

/-- THE TIED CARD OF 'geodelaw08.ModuleCut'. -/
def moduleCutCard : Claim7 := { stood := { row := moduleCutRow, standIns := [], harness := (true, "92312e80e7478b06e1e4e4682b88a942b96d86c35e05c09bd9c68c8ab6d3af2f"), looks := false }, kinds := [], alts := [], laidByText := true, laidKinds := [.data, .data, .data], laidTests := true, laidLooks := .later }
def ModuleCutCardSaid : Prop := Claim7.holds Tryz.pinned (.plain (OpenSpec.ofChange moduleCutSpec)) moduleCutCard

/-- THE TIED CARD OF 'geodelaw08.ModuleLess'. -/
def moduleLessCard : Claim7 := { stood := { row := moduleLessRow, standIns := [], harness := (true, "92312e80e7478b06e1e4e4682b88a942b96d86c35e05c09bd9c68c8ab6d3af2f"), looks := false }, kinds := [], alts := [], laidByText := true, laidKinds := [.data, .data, .data], laidTests := true, laidLooks := .later }
def ModuleLessCardSaid : Prop := Claim7.holds Tryz.pinned (.plain (OpenSpec.ofChange moduleLessSpec)) moduleLessCard

/-- THE SECOND FORM's CARD OF 'geodelaw08.ModuleBack'. -/
def moduleBackUptoCard : Claim7 := { stood := { row := moduleBackUptoRow, standIns := [], harness := (true, "92312e80e7478b06e1e4e4682b88a942b96d86c35e05c09bd9c68c8ab6d3af2f"), looks := false }, kinds := [], alts := [], laidByText := true, laidKinds := [.data, .data, .data], laidTests := true, laidLooks := .later }
def ModuleBackUptoCardSaid : Prop := Claim7.holds Tryz.pinned (.plain (OpenSpec.upto moduleBackSpec)) moduleBackUptoCard

/-- THE SECOND FORM's CARD OF 'geodelaw08.ModuleCut'. -/
def moduleCutUptoCard : Claim7 := { stood := { row := moduleCutUptoRow, standIns := [], harness := (true, "92312e80e7478b06e1e4e4682b88a942b96d86c35e05c09bd9c68c8ab6d3af2f"), looks := false }, kinds := [], alts := [], laidByText := true, laidKinds := [.data, .data, .data], laidTests := true, laidLooks := .later }
def ModuleCutUptoCardSaid : Prop := Claim7.holds Tryz.pinned (.plain (OpenSpec.upto moduleCutSpec)) moduleCutUptoCard

/-- THE SECOND FORM's CARD OF 'geodelaw08.ModuleLess'. -/
def moduleLessUptoCard : Claim7 := { stood := { row := moduleLessUptoRow, standIns := [], harness := (true, "92312e80e7478b06e1e4e4682b88a942b96d86c35e05c09bd9c68c8ab6d3af2f"), looks := false }, kinds := [], alts := [], laidByText := true, laidKinds := [.data, .data, .data], laidTests := true, laidLooks := .later }
def ModuleLessUptoCardSaid : Prop := Claim7.holds Tryz.pinned (.plain (OpenSpec.upto moduleLessSpec)) moduleLessUptoCard
end Rows
end Go.Proofs.YtpdlmdlkecnpgaaGreatDoor
