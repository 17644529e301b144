/-
  NARROWER THAN 'FOR EVERY INPUT', by the rows' own cells (each row's printed sentence says how): ModuleBack: laid · ModuleCut: laid · ModuleLess: laid.
  DERIVED. THE GIVEN ROWS OF THIS SEAT. 3 by the template 'for every input the law returns true; each argument reads behind the call as it read before'; 0 by the template 'total and deterministic' (their statements: YtpdlmdlkecnpgaaGreatDoorTotals.lean).
  GIVEN WITH THE SEED: the statements are not yours to turn. If you find one false, say at which input.
  Laid BY PROGRAM, IN A SANDBOX (cutbox-rows.mjs): the forced cells as the released guide's own fill.sh prints them over the translation ced2e8d06a8439fb… (all of the seat's roots in one cut). By AI agents, Wed Nov 11 2026. No macro, syntax, notation, axiom, sorry.
-/
import Derived.Test.YtpdlmdlkecnpgaaGreatDoorChecked
import GoSem.Claim
import GoSem.ClaimJoined
import GoSem.ClaimMapViews
import Derived.JoinedTies
import Derived.KernelRfl
namespace Go.Proofs.YtpdlmdlkecnpgaaGreatDoor
/- THE CELL 'sum', in the pinned program and in every row, IS THE sha256 OF THE DUMP (.gsa) THAT YtpdlmdlkecnpgaaGreatDoorProg.lean LOADS. Nothing in Lean hashes anything: it is a label: what it is worth is what the hold of that sum in a sandbox is worth. -/
noncomputable def Tryz.pinned : Pinned := { name := "ytpdlmdlkecnpgaagreatdoor", sum := "ced2e8d06a8439fbc3ea6a5c2f00909c840e4b43cfac1c6f9747213ea330008e", checked := Tryz.checked }
namespace Rows
def none {H : Type} : Left H := { results := [], args := [] }

/- WHAT THE LISTED PACKAGE-LEVEL VARIABLES READ AS WHEN THE CALL BEGINS. Each datum BY PROGRAM (the guide's laid-datum.mjs) off the statement by which the dump's own 'gosem.cut.vars' lays the variable. In a bare row this is a premise. The card (YtpdlmdlkecnpgaaGreatDoorCards.lean) ties it to the program's text. -/
def laid_geode_ops_runs {H : Type} : DataW H := .agg [.agg [.lit (.int .i64 0), .lit (.string [46, 46, 98, 98, 98, 46])], .agg [.lit (.int .i64 8), .lit (.string [105])], .agg [.lit (.int .i64 10), .lit (.string [46, 46, 108, 108, 116, 46, 105, 50, 105, 50, 105, 105])], .agg [.lit (.int .i64 26), .lit (.string [46, 46, 118])], .agg [.lit (.int .i64 31), .lit (.string [121, 105, 105, 105, 105, 105, 105, 105])], .agg [.lit (.int .i64 40), .lit (.string [109, 109])], .agg [.lit (.int .i64 44), .lit (.string [109, 109, 109, 109, 109, 109, 109, 109, 109, 109, 109, 109])], .agg [.lit (.int .i64 58), .lit (.string [109, 109, 109, 109, 109, 105, 105, 51, 54])], .agg [.lit (.int .i64 69), .lit (.string [46, 46, 46, 46, 46, 46, 46, 46, 46, 46, 46, 46, 46, 46, 46, 46, 46, 46, 46, 46, 46, 46])], .agg [.lit (.int .i64 103), .lit (.string [46, 46, 46, 46, 46, 46, 46, 46, 46, 46, 46, 46, 46, 46, 46, 46, 46, 46, 46, 46, 46, 46, 46, 46, 46, 46, 46, 46, 46, 46, 46, 46, 46, 46, 46, 46])], .agg [.lit (.int .i64 167), .lit (.string [46])], .agg [.lit (.int .i64 172), .lit (.string [46, 46])], .agg [.lit (.int .i64 192), .lit (.string [46, 46, 46, 46, 46])], .agg [.lit (.int .i64 208), .lit (.string [104, 46, 105, 46, 46, 108, 108])], .agg [.lit (.int .i64 64256), .lit (.string [105, 105, 50, 50, 50, 50, 105, 105, 50, 50, 50, 105, 105, 105, 105, 46, 105, 50, 50, 50, 104, 104, 104, 104, 99, 99, 46, 46, 46, 46, 46])], .agg [.lit (.int .i64 64520), .lit (.string [50, 105, 50, 105, 50, 105, 50, 105, 105, 105])]]
def laid_geode_ops_known {H : Type} : DataW H := .agg [.agg [.lit (.int .i64 42), .lit (.int .i64 43)], .agg [.lit (.int .i64 56), .lit (.int .i64 57)], .agg [.lit (.int .i64 67), .lit (.int .i64 68)], .agg [.lit (.int .i64 91), .lit (.int .i64 102)], .agg [.lit (.int .i64 139), .lit (.int .i64 166)], .agg [.lit (.int .i64 168), .lit (.int .i64 171)], .agg [.lit (.int .i64 174), .lit (.int .i64 191)], .agg [.lit (.int .i64 64512), .lit (.int .i64 64519)], .agg [.lit (.int .i64 253), .lit (.int .i64 253)]]
def laid_geode_tbin_heaps {H : Type} : DataW H := .agg [.lit (.int .i64 11), .lit (.int .i64 5), .lit (.int .i64 4), .lit (.int .i64 3), .lit (.int .i64 2), .lit (.int .i64 1), .lit (.int .i64 9), .lit (.int .i64 7), .lit (.int .i64 6), .lit (.int .i64 10), .lit (.int .i64 8), .lit (.int .i64 12)]

/-- 'geodelaw08.ModuleBack': WHATEVER THE INPUT: true; the input reads as it did. -/
def moduleBackSpec : ChangeSpec := { name := "moduleBack", fn := fun _ => fun
  | [d1, d2] => { results := [.lit (.bool true)], args := [d1, d2] }
  | _ => none }
def moduleBackRow : OpenClaim := { program := "ytpdlmdlkecnpgaagreatdoor", sum := "ced2e8d06a8439fbc3ea6a5c2f00909c840e4b43cfac1c6f9747213ea330008e", func := "geode/geodelaw08.ModuleBack", spec := "moduleBack", inPlace := ["internal/bytealg.IndexByteString"], unfollowed := true, recurses := true, named := ["geode/tbin.heaps", "geode/ops.known", "geode/ops.runs"], apart := false, laid := [("geode/ops.runs", laid_geode_ops_runs), ("geode/ops.known", laid_geode_ops_known), ("geode/tbin.heaps", laid_geode_tbin_heaps)] }
def ModuleBackSaid : Prop := moduleBackRow.holds Tryz.pinned (OpenSpec.ofChange moduleBackSpec)

/-- ITS FALSE NEIGHBOUR: 'it returns false'. Refute it at one input. -/
def moduleBackWrong : ChangeSpec := { name := "moduleBack", fn := fun _ => fun
  | [d1, d2] => { results := [.lit (.bool false)], args := [d1, d2] }
  | _ => none }
def ModuleBackWrongFalsely : Prop := moduleBackRow.holds Tryz.pinned (OpenSpec.ofChange moduleBackWrong)

/-- 'geodelaw08.ModuleCut': WHATEVER THE INPUT: true; the input reads as it did. -/
def moduleCutSpec : ChangeSpec := { name := "moduleCut", fn := fun _ => fun
  | [d1, d2, d3] => { results := [.lit (.bool true)], args := [d1, d2, d3] }
  | _ => none }
def moduleCutRow : OpenClaim := { program := "ytpdlmdlkecnpgaagreatdoor", sum := "ced2e8d06a8439fbc3ea6a5c2f00909c840e4b43cfac1c6f9747213ea330008e", func := "geode/geodelaw08.ModuleCut", spec := "moduleCut", inPlace := ["internal/bytealg.IndexByteString"], unfollowed := true, recurses := true, named := ["geode/tbin.heaps", "geode/ops.known", "geode/ops.runs"], apart := false, laid := [("geode/ops.runs", laid_geode_ops_runs), ("geode/ops.known", laid_geode_ops_known), ("geode/tbin.heaps", laid_geode_tbin_heaps)] }
def ModuleCutSaid : Prop := moduleCutRow.holds Tryz.pinned (OpenSpec.ofChange moduleCutSpec)

/-- ITS FALSE NEIGHBOUR: 'it returns false'. Refute it at one input. -/
def moduleCutWrong : ChangeSpec := { name := "moduleCut", fn := fun _ => fun
  | [d1, d2, d3] => { results := [.lit (.bool false)], args := [d1, d2, d3] }
  | _ => none }
def ModuleCutWrongFalsely : Prop := moduleCutRow.holds Tryz.pinned (OpenSpec.ofChange moduleCutWrong)

/-- 'geodelaw08.ModuleLess': WHATEVER THE INPUT: true; the input reads as it did. -/
def moduleLessSpec : ChangeSpec := { name := "moduleLess", fn := fun _ => fun
  | [d] => { results := [.lit (.bool true)], args := [d] }
  | _ => none }
def moduleLessRow : OpenClaim := { program := "ytpdlmdlkecnpgaagreatdoor", sum := "ced2e8d06a8439fbc3ea6a5c2f00909c840e4b43cfac1c6f9747213ea330008e", func := "geode/geodelaw08.ModuleLess", spec := "moduleLess", inPlace := ["internal/bytealg.IndexByteString"], unfollowed := true, recurses := true, named := ["geode/tbin.heaps", "geode/ops.known", "geode/ops.runs"], apart := false, laid := [("geode/ops.runs", laid_geode_ops_runs), ("geode/ops.known", laid_geode_ops_known), ("geode/tbin.heaps", laid_geode_tbin_heaps)] }
def ModuleLessSaid : Prop := moduleLessRow.holds Tryz.pinned (OpenSpec.ofChange moduleLessSpec)

/-- ITS FALSE NEIGHBOUR: 'it returns false'. Refute it at one input. -/
def moduleLessWrong : ChangeSpec := { name := "moduleLess", fn := fun _ => fun
  | [d] => { results := [.lit (.bool false)], args := [d] }
  | _ => none }
def ModuleLessWrongFalsely : Prop := moduleLessRow.holds Tryz.pinned (OpenSpec.ofChange moduleLessWrong)

/- THE SECOND FORM. 'bulk': how many values and letters a reading holds, each counted each time it is reached (what is shared counts as often as it is met; a slice's spare places count too). A statement '..UptoSaid' is the law's where the arguments, and the package variables that the reading takes, are together of bulk at most 1048576: NARROWER than '..Said'. Prove '..Said' where nothing that the law and all that it calls make is longer than what came in: it says more and counts as full. Else prove '..UptoSaid'. A law counts once. -/
mutual
def uptoBulk {H : Type} : DataW H → Nat
  | .lit (.string bytes) => bytes.length + 1
  | .lit _ => 1
  | .nil => 1
  | .ptr d => uptoBulk d + 1
  | .slice elems spare => uptoBulkAll elems + uptoBulkAll spare + 1
  | .agg parts => uptoBulkAll parts + 1
  | .iface _ d => uptoBulk d + 1
  | .map entries => uptoBulkEntries entries + 1
  | .held _ => 1
def uptoBulkAll {H : Type} : List (DataW H) → Nat
  | [] => 0
  | d :: r => uptoBulk d + uptoBulkAll r
def uptoBulkEntries {H : Type} : List (Lit × DataW H) → Nat
  | [] => 0
  | x :: r => uptoBulkEntry x + uptoBulkEntries r
def uptoBulkEntry {H : Type} : Lit × DataW H → Nat
  | (.string bytes, d) => bytes.length + uptoBulk d + 1
  | (_, d) => uptoBulk d + 1
 end
def uptoSmall : (H : Type) → List (DataW H) → Bool := fun _ ds => decide (uptoBulkAll ds ≤ 1048576)
def OpenSpec.upto (s : _root_.Go.ChangeSpec) : _root_.Go.OpenSpec := { _root_.Go.OpenSpec.ofChange s with cond := some uptoSmall }

/-- 'geodelaw08.ModuleBack', WHERE WHAT IT READS IS OF BULK AT MOST 1048576: true; the input reads as it did. -/
def moduleBackUptoRow : OpenClaim := { program := "ytpdlmdlkecnpgaagreatdoor", sum := "ced2e8d06a8439fbc3ea6a5c2f00909c840e4b43cfac1c6f9747213ea330008e", func := "geode/geodelaw08.ModuleBack", spec := "moduleBack", inPlace := ["internal/bytealg.IndexByteString"], unfollowed := true, recurses := true, named := ["geode/tbin.heaps", "geode/ops.known", "geode/ops.runs"], apart := false, laid := [("geode/ops.runs", laid_geode_ops_runs), ("geode/ops.known", laid_geode_ops_known), ("geode/tbin.heaps", laid_geode_tbin_heaps)], narrowed := true }
def ModuleBackUptoSaid : Prop := moduleBackUptoRow.holds Tryz.pinned (OpenSpec.upto moduleBackSpec)

/-- 'geodelaw08.ModuleCut', WHERE WHAT IT READS IS OF BULK AT MOST 1048576: true; the input reads as it did. -/
def moduleCutUptoRow : OpenClaim := { program := "ytpdlmdlkecnpgaagreatdoor", sum := "ced2e8d06a8439fbc3ea6a5c2f00909c840e4b43cfac1c6f9747213ea330008e", func := "geode/geodelaw08.ModuleCut", spec := "moduleCut", inPlace := ["internal/bytealg.IndexByteString"], unfollowed := true, recurses := true, named := ["geode/tbin.heaps", "geode/ops.known", "geode/ops.runs"], apart := false, laid := [("geode/ops.runs", laid_geode_ops_runs), ("geode/ops.known", laid_geode_ops_known), ("geode/tbin.heaps", laid_geode_tbin_heaps)], narrowed := true }
def ModuleCutUptoSaid : Prop := moduleCutUptoRow.holds Tryz.pinned (OpenSpec.upto moduleCutSpec)

/-- 'geodelaw08.ModuleLess', WHERE WHAT IT READS IS OF BULK AT MOST 1048576: true; the input reads as it did. -/
def moduleLessUptoRow : OpenClaim := { program := "ytpdlmdlkecnpgaagreatdoor", sum := "ced2e8d06a8439fbc3ea6a5c2f00909c840e4b43cfac1c6f9747213ea330008e", func := "geode/geodelaw08.ModuleLess", spec := "moduleLess", inPlace := ["internal/bytealg.IndexByteString"], unfollowed := true, recurses := true, named := ["geode/tbin.heaps", "geode/ops.known", "geode/ops.runs"], apart := false, laid := [("geode/ops.runs", laid_geode_ops_runs), ("geode/ops.known", laid_geode_ops_known), ("geode/tbin.heaps", laid_geode_tbin_heaps)], narrowed := true }
def ModuleLessUptoSaid : Prop := moduleLessUptoRow.holds Tryz.pinned (OpenSpec.upto moduleLessSpec)

end Rows
end Go.Proofs.YtpdlmdlkecnpgaaGreatDoor
