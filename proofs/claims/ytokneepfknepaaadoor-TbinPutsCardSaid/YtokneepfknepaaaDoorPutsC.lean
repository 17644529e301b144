/- TbinPuts: the bytes of any types are the document's; for every heap type, value type, list and group. The table of heap types holds what the text of the program lays (the card ties it). -/
import Derived.Test.YtokneepfknepaaaDoorArgK
import Derived.Test.YtokneepfknepaaaDoorPutsL
set_option linter.unusedSimpArgs false
set_option linter.unusedVariables false
namespace Go.Proofs.YtokneepfknepaaaDoor.lawPuts
open Go.ChangeShapes Go.WideShapes Go.ChangeAt Go.RowKit Go.Proofs.YtokneepfknepaaaDoor

theorem pars : Tryd.f5.params.toList = [40, 44, 46, 48] := by rw [Tryd.params5]
set_option maxRecDepth 100000 in
theorem pars_ok : ∀ t, t ∈ Tryd.f5.params.toList → Tryd.prog.readableRec t = true ∧ t < Tryd.prog.types.size := by
  rw [pars]
  intro t ht
  simp only [List.mem_cons, List.not_mem_nil, or_false] at ht
  rcases ht with rfl | rfl | rfl | rfl <;> exact ⟨by kernel_rfl, of_decide_eq_true (by kernel_rfl)⟩
set_option maxRecDepth 100000 in
theorem contract (H : Type) (enc : TypeId × Value → H) (W : World) (base : Nat) (args : Array Value) (ds gs : List (DataW H)) (before : List MemPlace)
    (hval : ∀ (j : Nat) t v, Tryd.f5.params[j]? = some t → args[j]? = some v → Value.okWide Tryd.prog W .any base t v)
    (hW : DataW.Whole enc Tryd.prog Tryd.f5.params.toList Rows.tbinPutsSpec.vars false W args.toList ds gs before) (hL : laidMetH Tryd.prog Rows.tbinPutsRow.laid W) :
    Calls Tryd.prog 5 args W fun e W' => ∃ v, e = .returned v ∧ Rows.tbinPutsSpec.post enc Tryd.prog Tryd.f5 false true false false W args v W' := by
  have hW' := hW
  obtain ⟨p, q, hA0, hV, rfl, hfz, hnd⟩ := hW
  have hA : DataW.TrodAll enc Tryd.prog W 0 (fun _ => true) true Tryd.f5.params.toList args.toList ds p := hA0
  rw [Tryd.params5] at hA hval
  obtain ⟨v0, v1, v2, v3, d0, d1, d2, d3, p0, p1, p2, p3, rfl, rfl, rfl, h0, h1, h2, h3⟩ := trodAll_four hA
  obtain ⟨a0, e0, _⟩ := okWide_struct Tryd.underlying40 (hval 0 40 v0 rfl rfl)
  subst e0
  obtain ⟨fuel0, hf0⟩ := h0
  obtain ⟨t0, x0, q0⟩ := arg_heap hf0
  obtain rfl : a0 = (heapC t0).toArray := by rw [← x0]; rfl
  obtain ⟨a1, e1, _⟩ := okWide_struct Tryd.underlying44 (hval 1 44 v1 rfl rfl)
  subst e1
  obtain ⟨fuel1, hf1⟩ := h1
  obtain ⟨t1, x1, q1⟩ := arg_val hf1
  obtain rfl : a1 = (valC t1).toArray := by rw [← x1]; rfl
  obtain ⟨a2, n2, c2, e2⟩ := okWide_slice Tryd.underlying46 (hval 2 46 v2 rfl rfl)
  subst e2
  obtain ⟨fuel2, hf2⟩ := h2
  obtain ⟨u2, l2, x2, s2, q2⟩ := arg_vals hf2
  obtain rfl := List.singleton_inj.1 x2
  obtain ⟨a3, n3, c3, e3⟩ := okWide_slice Tryd.underlying48 (hval 3 48 v3 rfl rfl)
  subst e3
  obtain ⟨fuel3, hf3⟩ := h3
  obtain ⟨u3, l3, g3, x3, s3, r3, q3⟩ := arg_subs hf3
  obtain rfl := List.singleton_inj.1 x3
  have gl := gl_of_laid hL
  refine (tbinPuts_any gl t0 q0 t1 q1.2 _ l2 s2 (fun x hx => (q2 x hx).2) _ l3 g3 s3 r3).mono fun e W' ⟨he, hg⟩ => ?_
  subst he
  exact ⟨_, rfl, law_post hW' rfl (by kernel_rfl) pars_ok rfl hg⟩

theorem laid_met (os : Os) : laidMet Tryd.prog Rows.tbinPutsRow.laid ((laidWorld6 os).forCall (fun _ _ => 0) ⟨#[], #[.agg #[.int .i64 0, .int .i64 0], .agg #[.int .i64 0, .bool false, .int .i64 0, .int .i64 0], .slice none 0 0, .slice none 0 0], []⟩).memory :=
  laidMet_of_run' 8 (by kernel_rfl) (by kernel_rfl)
theorem reads (os : Os) {H : Type} (enc : TypeId × Value → H) : ∃ places, DataW.whole enc Tryd.prog ((laidWorld6 os).forCall (fun _ _ => 0) ⟨#[], #[.agg #[.int .i64 0, .int .i64 0], .agg #[.int .i64 0, .bool false, .int .i64 0, .int .i64 0], .slice none 0 0, .slice none 0 0], []⟩).memory Tryd.f5.params.toList Rows.tbinPutsSpec.vars false #[Value.agg #[.int .i64 0, .int .i64 0], Value.agg #[.int .i64 0, .bool false, .int .i64 0, .int .i64 0], Value.slice none 0 0, Value.slice none 0 0].toList 8 = some ([.agg [.lit (.int .i64 0), .lit (.int .i64 0)], .agg [.lit (.int .i64 0), .lit (.bool false), .agg [.lit (.int .i64 0), .lit (.int .i64 0)]], .nil, .nil], [], places) :=
  ⟨[], by kernel_rfl⟩

set_option maxRecDepth 100000 in
theorem lifted (os : Os) (started : os.Started) (H : Type) (enc : TypeId × Value → H) (F : Stop.Interp) :
    ReturnsInHanded {} Tryd.checked os 5 .any ((OpenSpec.ofChange Rows.tbinPutsSpec).preRow enc Tryd.prog Tryd.f5 Rows.tbinPutsRow.domain false Rows.tbinPutsRow.laid) (((OpenSpec.ofChange Rows.tbinPutsSpec).at F).post enc Tryd.prog Tryd.f5 false true false false) := by
  obtain ⟨places, hx⟩ := reads os enc
  refine returnsInHanded_of_row (C := Tryd.checked) (s := OpenSpec.ofChange Rows.tbinPutsSpec) own started (by kernel_rfl) Tryd.func5
    (witness_row_at (enc := enc) (C := Tryd.checked) false (laidWorld6 os) #[.agg #[.int .i64 0, .int .i64 0], .agg #[.int .i64 0, .bool false, .int .i64 0, .int .i64 0], .slice none 0 0, .slice none 0 0] rfl (by kernel_rfl) (by kernel_rfl) (by kernel_rfl)
      (OpenSpec.preRow_of_cond 8 hx (by kernel_rfl) (fun k hk => by cases hk) (by kernel_rfl) (laid_met os))) ?_
  intro W base args ds gs before hval hW _ _ _ hL _ _
  exact contract H enc W base args ds gs before hval hW hL

theorem said : Rows.TbinPutsSaid :=
  OpenClaim.holds_of_cond 5 Tryd.f5 rfl rfl rfl rfl rfl rfl rfl ⟨rfl, rfl, rfl, rfl, rfl⟩ rfl rfl rfl rfl rfl (by kernel_rfl) Tryd.func5 (by kernel_rfl)
    (of_decide_eq_true (by kernel_rfl)) (by unfold Func.isWrapper; first | (rw [if_pos (by decide +kernel)]; kernel_rfl) | (rw [if_neg (by decide +kernel)]; exact ⟨rfl, rfl⟩))
    (fun os started H enc _ F => by rw [OpenClaim.pre_eq_preRow]; exact lifted os started H enc F)

theorem plain (f : FuncId) (fn : Func) (hf : Tryd.pinned.checked.prog.funcNamed "geode/geodelaw06.TbinPuts" = some f) (hfn : Tryd.pinned.checked.prog.funcs[f]? = some fn) :
    false = Tryd.pinned.checked.prog.looks [] ∧ ∀ (j : Nat) t, fn.params[j]? = some t → Tryd.pinned.checked.prog.wantsStandIn t = false := by
  obtain rfl : f = 5 := Option.some.inj ((show Tryd.prog.funcNamed "geode/geodelaw06.TbinPuts" = some 5 by kernel_rfl).symm.trans hf) |>.symm
  obtain rfl : fn = Tryd.f5 := (Option.some.inj (Tryd.func5.symm.trans hfn)).symm
  refine ⟨by kernel_rfl, fun j t ht => ?_⟩
  rw [Tryd.params5] at ht
  have hm := Array.mem_of_getElem? ht
  simp only [List.mem_toArray, List.mem_cons, List.not_mem_nil, or_false] at hm
  rcases hm with rfl | rfl | rfl | rfl
  · exact (show Tryd.prog.wantsStandIn 40 = false by kernel_rfl)
  · exact (show Tryd.prog.wantsStandIn 44 = false by kernel_rfl)
  · exact (show Tryd.prog.wantsStandIn 46 = false by kernel_rfl)
  · exact (show Tryd.prog.wantsStandIn 48 = false by kernel_rfl)

theorem card : Rows.TbinPutsCardSaid :=
  Claim7.holds_tied_plain_at .later [] _ _ _ _ said (fun _ h => by cases h) (by kernel_rfl) (fun _ h => by cases h) tbinPuts_row_tie rfl ⟨rfl, rfl⟩ (by kernel_rfl) rfl plain (by kernel_rfl)
end Go.Proofs.YtokneepfknepaaaDoor.lawPuts
namespace Go.Proofs.YtokneepfknepaaaDoor
theorem tbinPuts_card : Rows.TbinPutsCardSaid := lawPuts.card
#print axioms tbinPuts_card
end Go.Proofs.YtokneepfknepaaaDoor
