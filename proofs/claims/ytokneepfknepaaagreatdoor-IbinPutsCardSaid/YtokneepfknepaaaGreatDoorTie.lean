/-
  DERIVED. GIVEN WITH THE SEED: THE PROGRAM's TIES (one call each: nine closed facts by the kernel) AND EACH ROW's TIE, after the 31st guide's Derived/Test/Toyas{Tie, Card}.lean. No idea stands in it: it is a product of the set-up. Laid BY PROGRAM, IN A SANDBOX (cutbox-door.mjs). By AI agents, Wed Nov 11 2026. No macro, syntax, notation, axiom, sorry.
-/
import Derived.Test.YtokneepfknepaaaGreatDoorRows
import Derived.LaidByTextLater
import Derived.SevenTiedAt
import Derived.LaidSub
import Derived.LaidOnce
namespace Go.Proofs.YtokneepfknepaaaGreatDoor
open Go
set_option maxRecDepth 100000
theorem seatTie1 : Tryz.prog.laidByTextLater [("geode/ops.runs", Rows.laid_geode_ops_runs), ("geode/ops.known", Rows.laid_geode_ops_known), ("geode/tbin.heaps", Rows.laid_geode_tbin_heaps)] [.data, .data, .data] true :=
  Program.laidByTextLater_by_one 49 8 33 (by kernel_rfl) (by kernel_rfl) (by kernel_rfl) (by kernel_rfl) (by kernel_rfl) (by kernel_rfl) (fun _ _ => by kernel_rfl)
theorem noOwnUnsafe : Tryz.pinned.checked.prog.headLifts.contains "ownunsafe" = false := by kernel_rfl
theorem tie : Tryz.prog.laidByTextLater [("geode/ops.runs", Rows.laid_geode_ops_runs), ("geode/ops.known", Rows.laid_geode_ops_known), ("geode/tbin.heaps", Rows.laid_geode_tbin_heaps)] [.data, .data, .data] true :=
  Program.laidByTextLater.sub seatTie1 ["geode/ops.runs", "geode/ops.known", "geode/tbin.heaps"] (by kernel_rfl) (by kernel_rfl)
theorem ibinPuts_row_tie : Rows.ibinPutsRow.laidByTextAt .later Tryz.pinned [.data, .data, .data] true :=
  OpenClaim.laidByTextAt_later rfl rfl tie noOwnUnsafe
theorem ibinMay_row_tie : Rows.ibinMayRow.laidByTextAt .later Tryz.pinned [.data, .data, .data] true :=
  OpenClaim.laidByTextAt_later rfl rfl tie noOwnUnsafe
theorem ibinPutsUpto_row_tie : Rows.ibinPutsUptoRow.laidByTextAt .later Tryz.pinned [.data, .data, .data] true :=
  OpenClaim.laidByTextAt_later rfl rfl tie noOwnUnsafe
theorem ibinMayUpto_row_tie : Rows.ibinMayUptoRow.laidByTextAt .later Tryz.pinned [.data, .data, .data] true :=
  OpenClaim.laidByTextAt_later rfl rfl tie noOwnUnsafe
end Go.Proofs.YtokneepfknepaaaGreatDoor
