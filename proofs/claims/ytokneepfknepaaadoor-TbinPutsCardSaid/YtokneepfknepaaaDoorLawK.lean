/- What every law's statement is closed by: the table of heap types out of the condition, and what the statement asks of the world behind the call. -/
import Derived.Test.YtokneepfknepaaaDoorCards
import Derived.Test.YtokneepfknepaaaDoorTie
import Derived.Test.YtokneepfknepaaaDoorOpenW
import Derived.WalkKit
import Derived.ProofKit
import Derived.OpenShut
import Derived.Deep.DeepHandedRow
import Derived.Lib.LaidTab
set_option linter.unusedSimpArgs false
set_option linter.unusedVariables false
namespace Go.Proofs.YtokneepfknepaaaDoor
open Go.ChangeShapes Go.WideShapes Go.ChangeAt Go.RowKit

theorem own : ownKnob Tryd.prog.godebug = none := by kernel_rfl
theorem laidOut : laidOutB Tryd.prog = true := by kernel_rfl
theorem gTab : Tryd.prog.globalNamed "geode/tbin.heaps" = some 0 := by kernel_rfl
theorem gTabType : (Tryd.prog.globals[0]?).map (·.type) = some 145 := by kernel_rfl
theorem undTab : Tryd.prog.underlying 145 = some (.array 12 38) := by kernel_rfl
theorem undKind : Tryd.prog.underlying 38 = some (.int .i64) := by kernel_rfl
theorem cellsKind : Tryd.prog.cellsOf 38 = 1 := by kernel_rfl
theorem cellsTab : Tryd.prog.cellsOf 145 = 12 := by kernel_rfl

theorem gl_of_laid {W : World} {rest : List (String × DataW Unit)} (h : laidMet Tryd.prog (("geode/tbin.heaps", Rows.laid_geode_tbin_heaps) :: rest) W) : Gl [] W := by
  have ht : Lib.TabIs Tryd.prog W "geode/tbin.heaps" .i64 heapsL := Lib.tabIs_of_head (rest := rest) gTab gTabType undTab undKind cellsKind cellsTab h
  have hc : ∀ i, i < 12 → W.cell? ⟨0, i, none⟩ = some (.int .i64 (heapsL.getD i 0)) := fun i hi => ht.cell gTab i hi
  refine ⟨?_, by simp, hc⟩
  have h0 := hc 0 (by decide)
  rcases Nat.lt_or_ge 0 W.heap.size with h | h
  · exact h
  · exfalso
    have : W.heap[0]? = none := Array.getElem?_eq_none h
    simp [World.cell?, this] at h0

theorem trodAll_below {H : Type} {enc : TypeId × Value → H} {P : Program} (hl : laidOutB P = true) {W W' : World} (hb : Below W.heap.size W W') : ∀ (ts : List TypeId) (vs : List Value) (ds : List (DataW H)) (ps : List MemPlace),
    (∀ t, t ∈ ts → P.readableRec t = true ∧ t < P.types.size) → (∀ x ∈ ps, x.block < W.heap.size) → DataW.TrodAll enc P W 0 (fun _ => true) true ts vs ds ps →
    DataW.TrodAll enc P W' 0 (fun b => decide (b < W.heap.size)) true ts vs ds ps
  | [], vs, ds, ps, _, _, h => by
    obtain ⟨rfl, rfl, rfl⟩ := trodAll_nil h
    exact trodAll_mk0
  | t :: ts, vs, ds, ps, ht, hlt, h => by
    obtain ⟨v, vs', d, ds', p, q, rfl, rfl, rfl, h1, h2⟩ := trodAll_cons h
    exact trodAll_cons_mk (Below.trod hl (ht t (by simp)).1 (ht t (by simp)).2 h1 hb (fun x hx => hlt x (List.mem_append_left _ hx)))
      (trodAll_below hl hb ts vs' ds' q (fun u hu => ht u (List.mem_cons_of_mem _ hu)) (fun x hx => hlt x (List.mem_append_right _ hx)) h2)

theorem underBool : Tryd.prog.underlying 4 = some .bool := by kernel_rfl

/-- What a law's statement asks of the world behind the call: it has grown, and the law has said yes. -/
theorem law_post {H : Type} {enc : TypeId × Value → H} {fn : Func} {s : ChangeSpec} {W W' : World} {args : Array Value} {ds gs : List (DataW H)} {before : List MemPlace}
    (hW : DataW.Whole enc Tryd.prog fn.params.toList s.vars false W args.toList ds gs before) (hv : s.vars = []) (hr : fn.resultTypes = #[4])
    (hp : ∀ t, t ∈ fn.params.toList → Tryd.prog.readableRec t = true ∧ t < Tryd.prog.types.size) (hs : s.fn H (ds ++ []) = { results := [.lit (.bool true)], args := ds }) (hb : Fr [] W W') :
    s.post enc Tryd.prog fn false true false false W args (.bool true) W' := by
  have hW' := hW
  obtain ⟨p, q, hA, hV, rfl, hfz, hnd⟩ := hW
  rw [hv] at hV
  obtain ⟨rfl, rfl⟩ := trodVars_none hV
  have hbl := hb.below
  refine ⟨ds, [], p ++ [], [], p, [], hW', ?_, ?_, ?_, hbl.frame _, fun h => by cases h⟩
  · rw [hs, hr]
    exact trodAll_mk1 (shut_bool underBool true)
  · rw [hs]
    exact trodAll_below laidOut hbl _ _ _ _ hp (fun x hx => by simpa using hW'.lt x (by simpa using hx)) hA
  · rw [hs, hv]
    rfl

/-- A world for a witness: the settled one, the table holding what its initialiser lays. -/
noncomputable def laidWorld6 (os : Os) : World :=
  { World.holding Tryd.prog os ⟨#[], #[], []⟩ with heap := (World.holding Tryd.prog os ⟨#[], #[], []⟩).heap.modify 0 fun
      | .cells _ t frozen => .cells #[.int .i64 11, .int .i64 5, .int .i64 4, .int .i64 3, .int .i64 2, .int .i64 1, .int .i64 9, .int .i64 7, .int .i64 6, .int .i64 10, .int .i64 8, .int .i64 12] t frozen
      | o => o }
end Go.Proofs.YtokneepfknepaaaDoor
