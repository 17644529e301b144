/-
  NARROWER THAN 'FOR EVERY INPUT', by the rows' own cells (each row's printed sentence says how): TbinNone: laid · TbinCut: laid · TbinPuts: laid · TbinBack: laid · IbinJoins: laid · IbinCut: laid · IbinNests: laid · IbinBack: laid.
  DERIVED. THE GIVEN ROWS OF THIS SEAT. 8 by the template 'for every input the law returns true; each argument reads behind the call as it read before'; 0 by the template 'total and deterministic' (their statements: YtokneepfknepaaaDoorTotals.lean).
  GIVEN WITH THE SEED: the statements are not yours to turn. If you find one false, say at which input.
  Laid BY PROGRAM, IN A SANDBOX (cutbox-rows.mjs): the forced cells as the released guide's own fill.sh prints them over the translation 93ca2d8c64e8d1b7… (all of the seat's roots in one cut). By AI agents, Wed Nov 11 2026. No macro, syntax, notation, axiom, sorry.
-/
import Derived.Test.YtokneepfknepaaaDoorChecked
import GoSem.Claim
import GoSem.ClaimJoined
import GoSem.ClaimMapViews
import Derived.JoinedTies
import Derived.KernelRfl
namespace Go.Proofs.YtokneepfknepaaaDoor
/- THE CELL 'sum', in the pinned program and in every row, IS THE sha256 OF THE DUMP (.gsa) THAT YtokneepfknepaaaDoorProg.lean LOADS. Nothing in Lean hashes anything: it is a label: what it is worth is what the hold of that sum in a sandbox is worth. -/
noncomputable def Tryd.pinned : Pinned := { name := "ytokneepfknepaaadoor", sum := "93ca2d8c64e8d1b72c920fb2fc03e991294a023d8127027a8b31ed2b28319bf9", checked := Tryd.checked }
namespace Rows
def none {H : Type} : Left H := { results := [], args := [] }

/- WHAT THE LISTED PACKAGE-LEVEL VARIABLES READ AS WHEN THE CALL BEGINS. Each datum BY PROGRAM (the guide's laid-datum.mjs) off the statement by which the dump's own 'gosem.cut.vars' lays the variable. In a bare row this is a premise. The card (YtokneepfknepaaaDoorCards.lean) ties it to the program's text. -/
def laid_geode_tbin_heaps {H : Type} : DataW H := .agg [.lit (.int .i64 11), .lit (.int .i64 5), .lit (.int .i64 4), .lit (.int .i64 3), .lit (.int .i64 2), .lit (.int .i64 1), .lit (.int .i64 9), .lit (.int .i64 7), .lit (.int .i64 6), .lit (.int .i64 10), .lit (.int .i64 8), .lit (.int .i64 12)]
def laid_geode_ops_runs {H : Type} : DataW H := .agg [.agg [.lit (.int .i64 0), .lit (.string [46, 46, 98, 98, 98, 46])], .agg [.lit (.int .i64 8), .lit (.string [105])], .agg [.lit (.int .i64 10), .lit (.string [46, 46, 108, 108, 116, 46, 105, 50, 105, 50, 105, 105])], .agg [.lit (.int .i64 26), .lit (.string [46, 46, 118])], .agg [.lit (.int .i64 31), .lit (.string [121, 105, 105, 105, 105, 105, 105, 105])], .agg [.lit (.int .i64 40), .lit (.string [109, 109])], .agg [.lit (.int .i64 44), .lit (.string [109, 109, 109, 109, 109, 109, 109, 109, 109, 109, 109, 109])], .agg [.lit (.int .i64 58), .lit (.string [109, 109, 109, 109, 109, 105, 105, 51, 54])], .agg [.lit (.int .i64 69), .lit (.string [46, 46, 46, 46, 46, 46, 46, 46, 46, 46, 46, 46, 46, 46, 46, 46, 46, 46, 46, 46, 46, 46])], .agg [.lit (.int .i64 103), .lit (.string [46, 46, 46, 46, 46, 46, 46, 46, 46, 46, 46, 46, 46, 46, 46, 46, 46, 46, 46, 46, 46, 46, 46, 46, 46, 46, 46, 46, 46, 46, 46, 46, 46, 46, 46, 46])], .agg [.lit (.int .i64 167), .lit (.string [46])], .agg [.lit (.int .i64 172), .lit (.string [46, 46])], .agg [.lit (.int .i64 192), .lit (.string [46, 46, 46, 46, 46])], .agg [.lit (.int .i64 208), .lit (.string [104, 46, 105, 46, 46, 108, 108])], .agg [.lit (.int .i64 64256), .lit (.string [105, 105, 50, 50, 50, 50, 105, 105, 50, 50, 50, 105, 105, 105, 105, 46, 105, 50, 50, 50, 104, 104, 104, 104, 99, 99, 46, 46, 46, 46, 46])], .agg [.lit (.int .i64 64520), .lit (.string [50, 105, 50, 105, 50, 105, 50, 105, 105, 105])]]
def laid_geode_ops_known {H : Type} : DataW H := .agg [.agg [.lit (.int .i64 42), .lit (.int .i64 43)], .agg [.lit (.int .i64 56), .lit (.int .i64 57)], .agg [.lit (.int .i64 67), .lit (.int .i64 68)], .agg [.lit (.int .i64 91), .lit (.int .i64 102)], .agg [.lit (.int .i64 139), .lit (.int .i64 166)], .agg [.lit (.int .i64 168), .lit (.int .i64 171)], .agg [.lit (.int .i64 174), .lit (.int .i64 191)], .agg [.lit (.int .i64 64512), .lit (.int .i64 64519)], .agg [.lit (.int .i64 253), .lit (.int .i64 253)]]

/-- 'geodelaw06.TbinNone': WHATEVER THE INPUT: true; the input reads as it did. -/
def tbinNoneSpec : ChangeSpec := { name := "tbinNone", fn := fun _ => fun
  | [d1, d2] => { results := [.lit (.bool true)], args := [d1, d2] }
  | _ => none }
def tbinNoneRow : OpenClaim := { program := "ytokneepfknepaaadoor", sum := "93ca2d8c64e8d1b72c920fb2fc03e991294a023d8127027a8b31ed2b28319bf9", func := "geode/geodelaw06.TbinNone", spec := "tbinNone", unfollowed := true, recurses := true, named := ["geode/tbin.heaps"], apart := false, laid := [("geode/tbin.heaps", laid_geode_tbin_heaps)] }
def TbinNoneSaid : Prop := tbinNoneRow.holds Tryd.pinned (OpenSpec.ofChange tbinNoneSpec)

/-- ITS FALSE NEIGHBOUR: 'it returns false'. Refute it at one input. -/
def tbinNoneWrong : ChangeSpec := { name := "tbinNone", fn := fun _ => fun
  | [d1, d2] => { results := [.lit (.bool false)], args := [d1, d2] }
  | _ => none }
def TbinNoneWrongFalsely : Prop := tbinNoneRow.holds Tryd.pinned (OpenSpec.ofChange tbinNoneWrong)

/-- 'geodelaw06.TbinCut': WHATEVER THE INPUT: true; the input reads as it did. -/
def tbinCutSpec : ChangeSpec := { name := "tbinCut", fn := fun _ => fun
  | [d1, d2] => { results := [.lit (.bool true)], args := [d1, d2] }
  | _ => none }
def tbinCutRow : OpenClaim := { program := "ytokneepfknepaaadoor", sum := "93ca2d8c64e8d1b72c920fb2fc03e991294a023d8127027a8b31ed2b28319bf9", func := "geode/geodelaw06.TbinCut", spec := "tbinCut", unfollowed := true, recurses := true, named := ["geode/tbin.heaps"], apart := false, laid := [("geode/tbin.heaps", laid_geode_tbin_heaps)] }
def TbinCutSaid : Prop := tbinCutRow.holds Tryd.pinned (OpenSpec.ofChange tbinCutSpec)

/-- ITS FALSE NEIGHBOUR: 'it returns false'. Refute it at one input. -/
def tbinCutWrong : ChangeSpec := { name := "tbinCut", fn := fun _ => fun
  | [d1, d2] => { results := [.lit (.bool false)], args := [d1, d2] }
  | _ => none }
def TbinCutWrongFalsely : Prop := tbinCutRow.holds Tryd.pinned (OpenSpec.ofChange tbinCutWrong)

/-- 'geodelaw06.TbinPuts': WHATEVER THE INPUT: true; the input reads as it did. -/
def tbinPutsSpec : ChangeSpec := { name := "tbinPuts", fn := fun _ => fun
  | [d1, d2, d3, d4] => { results := [.lit (.bool true)], args := [d1, d2, d3, d4] }
  | _ => none }
def tbinPutsRow : OpenClaim := { program := "ytokneepfknepaaadoor", sum := "93ca2d8c64e8d1b72c920fb2fc03e991294a023d8127027a8b31ed2b28319bf9", func := "geode/geodelaw06.TbinPuts", spec := "tbinPuts", unfollowed := true, recurses := true, named := ["geode/tbin.heaps"], apart := false, laid := [("geode/tbin.heaps", laid_geode_tbin_heaps)] }
def TbinPutsSaid : Prop := tbinPutsRow.holds Tryd.pinned (OpenSpec.ofChange tbinPutsSpec)

/-- ITS FALSE NEIGHBOUR: 'it returns false'. Refute it at one input. -/
def tbinPutsWrong : ChangeSpec := { name := "tbinPuts", fn := fun _ => fun
  | [d1, d2, d3, d4] => { results := [.lit (.bool false)], args := [d1, d2, d3, d4] }
  | _ => none }
def TbinPutsWrongFalsely : Prop := tbinPutsRow.holds Tryd.pinned (OpenSpec.ofChange tbinPutsWrong)

/-- 'geodelaw06.TbinBack': WHATEVER THE INPUT: true; the input reads as it did. -/
def tbinBackSpec : ChangeSpec := { name := "tbinBack", fn := fun _ => fun
  | [d1, d2, d3] => { results := [.lit (.bool true)], args := [d1, d2, d3] }
  | _ => none }
def tbinBackRow : OpenClaim := { program := "ytokneepfknepaaadoor", sum := "93ca2d8c64e8d1b72c920fb2fc03e991294a023d8127027a8b31ed2b28319bf9", func := "geode/geodelaw06.TbinBack", spec := "tbinBack", unfollowed := true, recurses := true, named := ["geode/tbin.heaps"], apart := false, laid := [("geode/tbin.heaps", laid_geode_tbin_heaps)] }
def TbinBackSaid : Prop := tbinBackRow.holds Tryd.pinned (OpenSpec.ofChange tbinBackSpec)

/-- ITS FALSE NEIGHBOUR: 'it returns false'. Refute it at one input. -/
def tbinBackWrong : ChangeSpec := { name := "tbinBack", fn := fun _ => fun
  | [d1, d2, d3] => { results := [.lit (.bool false)], args := [d1, d2, d3] }
  | _ => none }
def TbinBackWrongFalsely : Prop := tbinBackRow.holds Tryd.pinned (OpenSpec.ofChange tbinBackWrong)

/-- 'geodelaw07.IbinJoins': WHATEVER THE INPUT: true; the input reads as it did. -/
def ibinJoinsSpec : ChangeSpec := { name := "ibinJoins", fn := fun _ => fun
  | [d1, d2] => { results := [.lit (.bool true)], args := [d1, d2] }
  | _ => none }
def ibinJoinsRow : OpenClaim := { program := "ytokneepfknepaaadoor", sum := "93ca2d8c64e8d1b72c920fb2fc03e991294a023d8127027a8b31ed2b28319bf9", func := "geode/geodelaw07.IbinJoins", spec := "ibinJoins", inPlace := ["internal/bytealg.IndexByteString"], unfollowed := true, recurses := true, named := ["geode/ops.known", "geode/ops.runs", "geode/tbin.heaps"], apart := false, laid := [("geode/ops.runs", laid_geode_ops_runs), ("geode/ops.known", laid_geode_ops_known), ("geode/tbin.heaps", laid_geode_tbin_heaps)] }
def IbinJoinsSaid : Prop := ibinJoinsRow.holds Tryd.pinned (OpenSpec.ofChange ibinJoinsSpec)

/-- ITS FALSE NEIGHBOUR: 'it returns false'. Refute it at one input. -/
def ibinJoinsWrong : ChangeSpec := { name := "ibinJoins", fn := fun _ => fun
  | [d1, d2] => { results := [.lit (.bool false)], args := [d1, d2] }
  | _ => none }
def IbinJoinsWrongFalsely : Prop := ibinJoinsRow.holds Tryd.pinned (OpenSpec.ofChange ibinJoinsWrong)

/-- 'geodelaw07.IbinCut': WHATEVER THE INPUT: true; the input reads as it did. -/
def ibinCutSpec : ChangeSpec := { name := "ibinCut", fn := fun _ => fun
  | [d1, d2] => { results := [.lit (.bool true)], args := [d1, d2] }
  | _ => none }
def ibinCutRow : OpenClaim := { program := "ytokneepfknepaaadoor", sum := "93ca2d8c64e8d1b72c920fb2fc03e991294a023d8127027a8b31ed2b28319bf9", func := "geode/geodelaw07.IbinCut", spec := "ibinCut", inPlace := ["internal/bytealg.IndexByteString"], unfollowed := true, recurses := true, named := ["geode/ops.known", "geode/ops.runs", "geode/tbin.heaps"], apart := false, laid := [("geode/ops.runs", laid_geode_ops_runs), ("geode/ops.known", laid_geode_ops_known), ("geode/tbin.heaps", laid_geode_tbin_heaps)] }
def IbinCutSaid : Prop := ibinCutRow.holds Tryd.pinned (OpenSpec.ofChange ibinCutSpec)

/-- ITS FALSE NEIGHBOUR: 'it returns false'. Refute it at one input. -/
def ibinCutWrong : ChangeSpec := { name := "ibinCut", fn := fun _ => fun
  | [d1, d2] => { results := [.lit (.bool false)], args := [d1, d2] }
  | _ => none }
def IbinCutWrongFalsely : Prop := ibinCutRow.holds Tryd.pinned (OpenSpec.ofChange ibinCutWrong)

/-- 'geodelaw07.IbinNests': WHATEVER THE INPUT: true; the input reads as it did. -/
def ibinNestsSpec : ChangeSpec := { name := "ibinNests", fn := fun _ => fun
  | [d1, d2] => { results := [.lit (.bool true)], args := [d1, d2] }
  | _ => none }
def ibinNestsRow : OpenClaim := { program := "ytokneepfknepaaadoor", sum := "93ca2d8c64e8d1b72c920fb2fc03e991294a023d8127027a8b31ed2b28319bf9", func := "geode/geodelaw07.IbinNests", spec := "ibinNests", inPlace := ["internal/bytealg.IndexByteString"], unfollowed := true, recurses := true, named := ["geode/ops.known", "geode/ops.runs", "geode/tbin.heaps"], apart := false, laid := [("geode/ops.runs", laid_geode_ops_runs), ("geode/ops.known", laid_geode_ops_known), ("geode/tbin.heaps", laid_geode_tbin_heaps)] }
def IbinNestsSaid : Prop := ibinNestsRow.holds Tryd.pinned (OpenSpec.ofChange ibinNestsSpec)

/-- ITS FALSE NEIGHBOUR: 'it returns false'. Refute it at one input. -/
def ibinNestsWrong : ChangeSpec := { name := "ibinNests", fn := fun _ => fun
  | [d1, d2] => { results := [.lit (.bool false)], args := [d1, d2] }
  | _ => none }
def IbinNestsWrongFalsely : Prop := ibinNestsRow.holds Tryd.pinned (OpenSpec.ofChange ibinNestsWrong)

/-- 'geodelaw07.IbinBack': WHATEVER THE INPUT: true; the input reads as it did. -/
def ibinBackSpec : ChangeSpec := { name := "ibinBack", fn := fun _ => fun
  | [d1, d2] => { results := [.lit (.bool true)], args := [d1, d2] }
  | _ => none }
def ibinBackRow : OpenClaim := { program := "ytokneepfknepaaadoor", sum := "93ca2d8c64e8d1b72c920fb2fc03e991294a023d8127027a8b31ed2b28319bf9", func := "geode/geodelaw07.IbinBack", spec := "ibinBack", inPlace := ["internal/bytealg.IndexByteString"], unfollowed := true, recurses := true, named := ["geode/ops.known", "geode/ops.runs", "geode/tbin.heaps"], apart := false, laid := [("geode/ops.runs", laid_geode_ops_runs), ("geode/ops.known", laid_geode_ops_known), ("geode/tbin.heaps", laid_geode_tbin_heaps)] }
def IbinBackSaid : Prop := ibinBackRow.holds Tryd.pinned (OpenSpec.ofChange ibinBackSpec)

/-- ITS FALSE NEIGHBOUR: 'it returns false'. Refute it at one input. -/
def ibinBackWrong : ChangeSpec := { name := "ibinBack", fn := fun _ => fun
  | [d1, d2] => { results := [.lit (.bool false)], args := [d1, d2] }
  | _ => none }
def IbinBackWrongFalsely : Prop := ibinBackRow.holds Tryd.pinned (OpenSpec.ofChange ibinBackWrong)

/- THE SECOND FORM. 'bulk': how many values and letters a reading holds, each counted each time it is reached (what is shared counts as often as it is met; a slice's spare places count too). A statement '..UptoSaid' is the law's where the arguments, and the package variables that the reading takes, are together of bulk at most 1048576: NARROWER than '..Said'. Prove '..Said' where nothing that the law and all that it calls make is longer than what came in: it says more and counts as full. Else prove '..UptoSaid'. A law counts once. -/
mutual
def uptoBulk {H : Type} : DataW H → Nat
  | .lit (.string bytes) => bytes.length + 1
  | .lit _ => 1
  | .nil => 1
  | .ptr d => uptoBulk d + 1
  | .slice elems spare => uptoBulkAll elems + uptoBulkAll spare + 1
  | .agg parts => uptoBulkAll parts + 1
  | .iface _ d => uptoBulk d + 1
  | .map entries => uptoBulkEntries entries + 1
  | .held _ => 1
def uptoBulkAll {H : Type} : List (DataW H) → Nat
  | [] => 0
  | d :: r => uptoBulk d + uptoBulkAll r
def uptoBulkEntries {H : Type} : List (Lit × DataW H) → Nat
  | [] => 0
  | x :: r => uptoBulkEntry x + uptoBulkEntries r
def uptoBulkEntry {H : Type} : Lit × DataW H → Nat
  | (.string bytes, d) => bytes.length + uptoBulk d + 1
  | (_, d) => uptoBulk d + 1
 end
def uptoSmall : (H : Type) → List (DataW H) → Bool := fun _ ds => decide (uptoBulkAll ds ≤ 1048576)
def OpenSpec.upto (s : _root_.Go.ChangeSpec) : _root_.Go.OpenSpec := { _root_.Go.OpenSpec.ofChange s with cond := some uptoSmall }

/-- 'geodelaw06.TbinNone', WHERE WHAT IT READS IS OF BULK AT MOST 1048576: true; the input reads as it did. -/
def tbinNoneUptoRow : OpenClaim := { program := "ytokneepfknepaaadoor", sum := "93ca2d8c64e8d1b72c920fb2fc03e991294a023d8127027a8b31ed2b28319bf9", func := "geode/geodelaw06.TbinNone", spec := "tbinNone", unfollowed := true, recurses := true, named := ["geode/tbin.heaps"], apart := false, laid := [("geode/tbin.heaps", laid_geode_tbin_heaps)], narrowed := true }
def TbinNoneUptoSaid : Prop := tbinNoneUptoRow.holds Tryd.pinned (OpenSpec.upto tbinNoneSpec)

/-- 'geodelaw06.TbinCut', WHERE WHAT IT READS IS OF BULK AT MOST 1048576: true; the input reads as it did. -/
def tbinCutUptoRow : OpenClaim := { program := "ytokneepfknepaaadoor", sum := "93ca2d8c64e8d1b72c920fb2fc03e991294a023d8127027a8b31ed2b28319bf9", func := "geode/geodelaw06.TbinCut", spec := "tbinCut", unfollowed := true, recurses := true, named := ["geode/tbin.heaps"], apart := false, laid := [("geode/tbin.heaps", laid_geode_tbin_heaps)], narrowed := true }
def TbinCutUptoSaid : Prop := tbinCutUptoRow.holds Tryd.pinned (OpenSpec.upto tbinCutSpec)

/-- 'geodelaw06.TbinPuts', WHERE WHAT IT READS IS OF BULK AT MOST 1048576: true; the input reads as it did. -/
def tbinPutsUptoRow : OpenClaim := { program := "ytokneepfknepaaadoor", sum := "93ca2d8c64e8d1b72c920fb2fc03e991294a023d8127027a8b31ed2b28319bf9", func := "geode/geodelaw06.TbinPuts", spec := "tbinPuts", unfollowed := true, recurses := true, named := ["geode/tbin.heaps"], apart := false, laid := [("geode/tbin.heaps", laid_geode_tbin_heaps)], narrowed := true }
def TbinPutsUptoSaid : Prop := tbinPutsUptoRow.holds Tryd.pinned (OpenSpec.upto tbinPutsSpec)

/-- 'geodelaw06.TbinBack', WHERE WHAT IT READS IS OF BULK AT MOST 1048576: true; the input reads as it did. -/
def tbinBackUptoRow : OpenClaim := { program := "ytokneepfknepaaadoor", sum := "93ca2d8c64e8d1b72c920fb2fc03e991294a023d8127027a8b31ed2b28319bf9", func := "geode/geodelaw06.TbinBack", spec := "tbinBack", unfollowed := true, recurses := true, named := ["geode/tbin.heaps"], apart := false, laid := [("geode/tbin.heaps", laid_geode_tbin_heaps)], narrowed := true }
def TbinBackUptoSaid : Prop := tbinBackUptoRow.holds Tryd.pinned (OpenSpec.upto tbinBackSpec)

/-- 'geodelaw07.IbinJoins', WHERE WHAT IT READS IS OF BULK AT MOST 1048576: true; the input reads as it did. -/
def ibinJoinsUptoRow : OpenClaim := { program := "ytokneepfknepaaadoor", sum := "93ca2d8c64e8d1b72c920fb2fc03e991294a023d8127027a8b31ed2b28319bf9", func := "geode/geodelaw07.IbinJoins", spec := "ibinJoins", inPlace := ["internal/bytealg.IndexByteString"], unfollowed := true, recurses := true, named := ["geode/ops.known", "geode/ops.runs", "geode/tbin.heaps"], apart := false, laid := [("geode/ops.runs", laid_geode_ops_runs), ("geode/ops.known", laid_geode_ops_known), ("geode/tbin.heaps", laid_geode_tbin_heaps)], narrowed := true }
def IbinJoinsUptoSaid : Prop := ibinJoinsUptoRow.holds Tryd.pinned (OpenSpec.upto ibinJoinsSpec)

/-- 'geodelaw07.IbinCut', WHERE WHAT IT READS IS OF BULK AT MOST 1048576: true; the input reads as it did. -/
def ibinCutUptoRow : OpenClaim := { program := "ytokneepfknepaaadoor", sum := "93ca2d8c64e8d1b72c920fb2fc03e991294a023d8127027a8b31ed2b28319bf9", func := "geode/geodelaw07.IbinCut", spec := "ibinCut", inPlace := ["internal/bytealg.IndexByteString"], unfollowed := true, recurses := true, named := ["geode/ops.known", "geode/ops.runs", "geode/tbin.heaps"], apart := false, laid := [("geode/ops.runs", laid_geode_ops_runs), ("geode/ops.known", laid_geode_ops_known), ("geode/tbin.heaps", laid_geode_tbin_heaps)], narrowed := true }
def IbinCutUptoSaid : Prop := ibinCutUptoRow.holds Tryd.pinned (OpenSpec.upto ibinCutSpec)

/-- 'geodelaw07.IbinNests', WHERE WHAT IT READS IS OF BULK AT MOST 1048576: true; the input reads as it did. -/
def ibinNestsUptoRow : OpenClaim := { program := "ytokneepfknepaaadoor", sum := "93ca2d8c64e8d1b72c920fb2fc03e991294a023d8127027a8b31ed2b28319bf9", func := "geode/geodelaw07.IbinNests", spec := "ibinNests", inPlace := ["internal/bytealg.IndexByteString"], unfollowed := true, recurses := true, named := ["geode/ops.known", "geode/ops.runs", "geode/tbin.heaps"], apart := false, laid := [("geode/ops.runs", laid_geode_ops_runs), ("geode/ops.known", laid_geode_ops_known), ("geode/tbin.heaps", laid_geode_tbin_heaps)], narrowed := true }
def IbinNestsUptoSaid : Prop := ibinNestsUptoRow.holds Tryd.pinned (OpenSpec.upto ibinNestsSpec)

/-- 'geodelaw07.IbinBack', WHERE WHAT IT READS IS OF BULK AT MOST 1048576: true; the input reads as it did. -/
def ibinBackUptoRow : OpenClaim := { program := "ytokneepfknepaaadoor", sum := "93ca2d8c64e8d1b72c920fb2fc03e991294a023d8127027a8b31ed2b28319bf9", func := "geode/geodelaw07.IbinBack", spec := "ibinBack", inPlace := ["internal/bytealg.IndexByteString"], unfollowed := true, recurses := true, named := ["geode/ops.known", "geode/ops.runs", "geode/tbin.heaps"], apart := false, laid := [("geode/ops.runs", laid_geode_ops_runs), ("geode/ops.known", laid_geode_ops_known), ("geode/tbin.heaps", laid_geode_tbin_heaps)], narrowed := true }
def IbinBackUptoSaid : Prop := ibinBackUptoRow.holds Tryd.pinned (OpenSpec.upto ibinBackSpec)

end Rows
end Go.Proofs.YtokneepfknepaaaDoor
