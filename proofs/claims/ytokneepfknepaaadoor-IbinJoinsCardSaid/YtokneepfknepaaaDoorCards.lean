/-
  DERIVED. GIVEN WITH THE SEED: THE CARDS: each row of YtokneepfknepaaaDoorRows.lean that lists a variable, with what it lists TIED to the program's text (the seventh form; the later family's looks); each row that meets fmt, with fmt's text TOLD by the authors' own Lean function (tested against real Go, not proved from fmt's source: count such statements apart). THE CARD IS WHAT COUNTS. Prove the row's statement (the work); the ties are given (YtokneepfknepaaaDoorTie.lean); close each card by the builder's one call (the guide's Derived/Test/ToyasCard.lean, 'card_holds'). Laid BY PROGRAM, IN A SANDBOX (cutbox-door.mjs). By AI agents, Wed Nov 11 2026. No macro, syntax, notation, axiom, sorry.
-/
import Derived.Test.YtokneepfknepaaaDoorRows
import GoSem.ClaimSeven
namespace Go.Proofs.YtokneepfknepaaaDoor
namespace Rows

/-- THE TIED CARD OF 'geodelaw06.TbinNone'. -/
def tbinNoneCard : Claim7 := { stood := { row := tbinNoneRow, standIns := [], harness := (true, "c69c14673ca84a3f3bcf01c116dbc5c15df4db373d0fc15f75978c34536dfd59"), looks := false }, kinds := [], alts := [], laidByText := true, laidKinds := [.data], laidTests := true, laidLooks := .later }
def TbinNoneCardSaid : Prop := Claim7.holds Tryd.pinned (.plain (OpenSpec.ofChange tbinNoneSpec)) tbinNoneCard

/-- THE TIED CARD OF 'geodelaw06.TbinCut'. -/
def tbinCutCard : Claim7 := { stood := { row := tbinCutRow, standIns := [], harness := (true, "c69c14673ca84a3f3bcf01c116dbc5c15df4db373d0fc15f75978c34536dfd59"), looks := false }, kinds := [], alts := [], laidByText := true, laidKinds := [.data], laidTests := true, laidLooks := .later }
def TbinCutCardSaid : Prop := Claim7.holds Tryd.pinned (.plain (OpenSpec.ofChange tbinCutSpec)) tbinCutCard

/-- THE TIED CARD OF 'geodelaw06.TbinPuts'. -/
def tbinPutsCard : Claim7 := { stood := { row := tbinPutsRow, standIns := [], harness := (true, "c69c14673ca84a3f3bcf01c116dbc5c15df4db373d0fc15f75978c34536dfd59"), looks := false }, kinds := [], alts := [], laidByText := true, laidKinds := [.data], laidTests := true, laidLooks := .later }
def TbinPutsCardSaid : Prop := Claim7.holds Tryd.pinned (.plain (OpenSpec.ofChange tbinPutsSpec)) tbinPutsCard

/-- THE TIED CARD OF 'geodelaw06.TbinBack'. -/
def tbinBackCard : Claim7 := { stood := { row := tbinBackRow, standIns := [], harness := (true, "c69c14673ca84a3f3bcf01c116dbc5c15df4db373d0fc15f75978c34536dfd59"), looks := false }, kinds := [], alts := [], laidByText := true, laidKinds := [.data], laidTests := true, laidLooks := .later }
def TbinBackCardSaid : Prop := Claim7.holds Tryd.pinned (.plain (OpenSpec.ofChange tbinBackSpec)) tbinBackCard

/-- THE TIED CARD OF 'geodelaw07.IbinJoins'. -/
def ibinJoinsCard : Claim7 := { stood := { row := ibinJoinsRow, standIns := [], harness := (true, "c69c14673ca84a3f3bcf01c116dbc5c15df4db373d0fc15f75978c34536dfd59"), looks := false }, kinds := [], alts := [], laidByText := true, laidKinds := [.data, .data, .data], laidTests := true, laidLooks := .later }
def IbinJoinsCardSaid : Prop := Claim7.holds Tryd.pinned (.plain (OpenSpec.ofChange ibinJoinsSpec)) ibinJoinsCard

/-- THE TIED CARD OF 'geodelaw07.IbinCut'. -/
def ibinCutCard : Claim7 := { stood := { row := ibinCutRow, standIns := [], harness := (true, "c69c14673ca84a3f3bcf01c116dbc5c15df4db373d0fc15f75978c34536dfd59"), looks := false }, kinds := [], alts := [], laidByText := true, laidKinds := [.data, .data, .data], laidTests := true, laidLooks := .later }
def IbinCutCardSaid : Prop := Claim7.holds Tryd.pinned (.plain (OpenSpec.ofChange ibinCutSpec)) ibinCutCard

/-- THE TIED CARD OF 'geodelaw07.IbinNests'. -/
def ibinNestsCard : Claim7 := { stood := { row := ibinNestsRow, standIns := [], harness := (true, "c69c14673ca84a3f3bcf01c116dbc5c15df4db373d0fc15f75978c34536dfd59"), looks := false }, kinds := [], alts := [], laidByText := true, laidKinds := [.data, .data, .data], laidTests := true, laidLooks := .later }
def IbinNestsCardSaid : Prop := Claim7.holds Tryd.pinned (.plain (OpenSpec.ofChange ibinNestsSpec)) ibinNestsCard

/-- THE TIED CARD OF 'geodelaw07.IbinBack'. -/
def ibinBackCard : Claim7 := { stood := { row := ibinBackRow, standIns := [], harness := (true, "c69c14673ca84a3f3bcf01c116dbc5c15df4db373d0fc15f75978c34536dfd59"), looks := false }, kinds := [], alts := [], laidByText := true, laidKinds := [.data, .data, .data], laidTests := true, laidLooks := .later }
def IbinBackCardSaid : Prop := Claim7.holds Tryd.pinned (.plain (OpenSpec.ofChange ibinBackSpec)) ibinBackCard

/-- THE SECOND FORM's CARD OF 'geodelaw06.TbinNone'. -/
def tbinNoneUptoCard : Claim7 := { stood := { row := tbinNoneUptoRow, standIns := [], harness := (true, "c69c14673ca84a3f3bcf01c116dbc5c15df4db373d0fc15f75978c34536dfd59"), looks := false }, kinds := [], alts := [], laidByText := true, laidKinds := [.data], laidTests := true, laidLooks := .later }
def TbinNoneUptoCardSaid : Prop := Claim7.holds Tryd.pinned (.plain (OpenSpec.upto tbinNoneSpec)) tbinNoneUptoCard

/-- THE SECOND FORM's CARD OF 'geodelaw06.TbinCut'. -/
def tbinCutUptoCard : Claim7 := { stood := { row := tbinCutUptoRow, standIns := [], harness := (true, "c69c14673ca84a3f3bcf01c116dbc5c15df4db373d0fc15f75978c34536dfd59"), looks := false }, kinds := [], alts := [], laidByText := true, laidKinds := [.data], laidTests := true, laidLooks := .later }
def TbinCutUptoCardSaid : Prop := Claim7.holds Tryd.pinned (.plain (OpenSpec.upto tbinCutSpec)) tbinCutUptoCard

/-- THE SECOND FORM's CARD OF 'geodelaw06.TbinPuts'. -/
def tbinPutsUptoCard : Claim7 := { stood := { row := tbinPutsUptoRow, standIns := [], harness := (true, "c69c14673ca84a3f3bcf01c116dbc5c15df4db373d0fc15f75978c34536dfd59"), looks := false }, kinds := [], alts := [], laidByText := true, laidKinds := [.data], laidTests := true, laidLooks := .later }
def TbinPutsUptoCardSaid : Prop := Claim7.holds Tryd.pinned (.plain (OpenSpec.upto tbinPutsSpec)) tbinPutsUptoCard

/-- THE SECOND FORM's CARD OF 'geodelaw06.TbinBack'. -/
def tbinBackUptoCard : Claim7 := { stood := { row := tbinBackUptoRow, standIns := [], harness := (true, "c69c14673ca84a3f3bcf01c116dbc5c15df4db373d0fc15f75978c34536dfd59"), looks := false }, kinds := [], alts := [], laidByText := true, laidKinds := [.data], laidTests := true, laidLooks := .later }
def TbinBackUptoCardSaid : Prop := Claim7.holds Tryd.pinned (.plain (OpenSpec.upto tbinBackSpec)) tbinBackUptoCard

/-- THE SECOND FORM's CARD OF 'geodelaw07.IbinJoins'. -/
def ibinJoinsUptoCard : Claim7 := { stood := { row := ibinJoinsUptoRow, standIns := [], harness := (true, "c69c14673ca84a3f3bcf01c116dbc5c15df4db373d0fc15f75978c34536dfd59"), looks := false }, kinds := [], alts := [], laidByText := true, laidKinds := [.data, .data, .data], laidTests := true, laidLooks := .later }
def IbinJoinsUptoCardSaid : Prop := Claim7.holds Tryd.pinned (.plain (OpenSpec.upto ibinJoinsSpec)) ibinJoinsUptoCard

/-- THE SECOND FORM's CARD OF 'geodelaw07.IbinCut'. -/
def ibinCutUptoCard : Claim7 := { stood := { row := ibinCutUptoRow, standIns := [], harness := (true, "c69c14673ca84a3f3bcf01c116dbc5c15df4db373d0fc15f75978c34536dfd59"), looks := false }, kinds := [], alts := [], laidByText := true, laidKinds := [.data, .data, .data], laidTests := true, laidLooks := .later }
def IbinCutUptoCardSaid : Prop := Claim7.holds Tryd.pinned (.plain (OpenSpec.upto ibinCutSpec)) ibinCutUptoCard

/-- THE SECOND FORM's CARD OF 'geodelaw07.IbinNests'. -/
def ibinNestsUptoCard : Claim7 := { stood := { row := ibinNestsUptoRow, standIns := [], harness := (true, "c69c14673ca84a3f3bcf01c116dbc5c15df4db373d0fc15f75978c34536dfd59"), looks := false }, kinds := [], alts := [], laidByText := true, laidKinds := [.data, .data, .data], laidTests := true, laidLooks := .later }
def IbinNestsUptoCardSaid : Prop := Claim7.holds Tryd.pinned (.plain (OpenSpec.upto ibinNestsSpec)) ibinNestsUptoCard

/-- THE SECOND FORM's CARD OF 'geodelaw07.IbinBack'. -/
def ibinBackUptoCard : Claim7 := { stood := { row := ibinBackUptoRow, standIns := [], harness := (true, "c69c14673ca84a3f3bcf01c116dbc5c15df4db373d0fc15f75978c34536dfd59"), looks := false }, kinds := [], alts := [], laidByText := true, laidKinds := [.data, .data, .data], laidTests := true, laidLooks := .later }
def IbinBackUptoCardSaid : Prop := Claim7.holds Tryd.pinned (.plain (OpenSpec.upto ibinBackSpec)) ibinBackUptoCard
end Rows
end Go.Proofs.YtokneepfknepaaaDoor
