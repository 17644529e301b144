/-
  DERIVED. GIVEN WITH THE SEED: THE CARDS: each row of YtokneepfknepaaaGreatDoorRows.lean that lists a variable, with what it lists TIED to the program's text (the seventh form; the later family's looks); each row that meets fmt, with fmt's text TOLD by the authors' own Lean function (tested against real Go, not proved from fmt's source: count such statements apart). THE CARD IS WHAT COUNTS. Prove the row's statement (the work); the ties are given (YtokneepfknepaaaGreatDoorTie.lean); close each card by the builder's one call (the guide's Derived/Test/ToyasCard.lean, 'card_holds'). Laid BY PROGRAM, IN A SANDBOX (cutbox-door.mjs). By AI agents, Wed Nov 11 2026. No macro, syntax, notation, axiom, sorry.
-/
import Derived.Test.YtokneepfknepaaaGreatDoorRows
import GoSem.ClaimSeven
namespace Go.Proofs.YtokneepfknepaaaGreatDoor
namespace Rows

/-- THE TIED CARD OF 'geodelaw07.IbinPuts'. -/
def ibinPutsCard : Claim7 := { stood := { row := ibinPutsRow, standIns := [], harness := (true, "b095af3e3a1516caef81de597878bd9cd0113748b627a7ec6dd572d87ef884db"), looks := false }, kinds := [], alts := [], laidByText := true, laidKinds := [.data, .data, .data], laidTests := true, laidLooks := .later }
def IbinPutsCardSaid : Prop := Claim7.holds Tryz.pinned (.plain (OpenSpec.ofChange ibinPutsSpec)) ibinPutsCard

/-- THE TIED CARD OF 'geodelaw07.IbinMay'. -/
def ibinMayCard : Claim7 := { stood := { row := ibinMayRow, standIns := [], harness := (true, "b095af3e3a1516caef81de597878bd9cd0113748b627a7ec6dd572d87ef884db"), looks := false }, kinds := [], alts := [], laidByText := true, laidKinds := [.data, .data, .data], laidTests := true, laidLooks := .later }
def IbinMayCardSaid : Prop := Claim7.holds Tryz.pinned (.plain (OpenSpec.ofChange ibinMaySpec)) ibinMayCard

/-- THE SECOND FORM's CARD OF 'geodelaw07.IbinPuts'. -/
def ibinPutsUptoCard : Claim7 := { stood := { row := ibinPutsUptoRow, standIns := [], harness := (true, "b095af3e3a1516caef81de597878bd9cd0113748b627a7ec6dd572d87ef884db"), looks := false }, kinds := [], alts := [], laidByText := true, laidKinds := [.data, .data, .data], laidTests := true, laidLooks := .later }
def IbinPutsUptoCardSaid : Prop := Claim7.holds Tryz.pinned (.plain (OpenSpec.upto ibinPutsSpec)) ibinPutsUptoCard

/-- THE SECOND FORM's CARD OF 'geodelaw07.IbinMay'. -/
def ibinMayUptoCard : Claim7 := { stood := { row := ibinMayUptoRow, standIns := [], harness := (true, "b095af3e3a1516caef81de597878bd9cd0113748b627a7ec6dd572d87ef884db"), looks := false }, kinds := [], alts := [], laidByText := true, laidKinds := [.data, .data, .data], laidTests := true, laidLooks := .later }
def IbinMayUptoCardSaid : Prop := Claim7.holds Tryz.pinned (.plain (OpenSpec.upto ibinMaySpec)) ibinMayUptoCard
end Rows
end Go.Proofs.YtokneepfknepaaaGreatDoor
