/- IbinPuts: the bytes of any instructions are the document's, and the instructions stay; for every row of instructions. The tables of heap types and of opcodes hold what the text of the program lays (the card ties it). -/
import Derived.Test.YtokneepfknepaaaGreatDoorG7
import Derived.Test.YtokneepfknepaaaGreatDoorG16
import Derived.Test.YtokneepfknepaaaGreatDoorG19
import Derived.Test.YtokneepfknepaaaGreatDoorG9
import Derived.Test.YtokneepfknepaaaGreatDoorG2
import Derived.Test.YtokneepfknepaaaGreatDoorG15
set_option linter.unusedSimpArgs false
set_option linter.unusedVariables false
namespace Go.Proofs.YtokneepfknepaaaGreatDoor
open Go.RowKit
theorem refSame_refl (w : World) (a b : Value) (xs : List InstrT) (ds es : List Value) (h1 : Sl [] w 19 a xs.length ds) (r1 : InssR [] w xs ds) (h2 : Sl [] w 19 b xs.length es) (r2 : InssR [] w xs es) (hl : xs.length ≤ 1099511627776) :
    Calls Tryz.prog 10 #[a, b] w fun e w' => e = .returned (.bool true) ∧ Fr [] w w' :=
  (refSame_any w a b xs xs ds es h1 r1 h2 r2 hl).mono fun e w' ⟨h1, h2⟩ => ⟨by rw [h1, decide_eq_true rfl], h2⟩
set_option maxRecDepth 100000 in
set_option maxHeartbeats 1600000 in
theorem ibinPuts_any (hM : MayOk) {w : World} (hg : Gl7 [] w) (lv : Value) (is : List InstrT) (ds : List Value) (h : Sl [] w 19 lv is.length ds) (hs : InssR [] w is ds) (hop : ∀ i, i ∈ is → -9223372036854775808 ≤ i.op ∧ i.op < 9223372036854775808) (hu : ∀ i, i ∈ is → i.u < 18446744073709551616) :
    Calls Tryz.prog 3 #[lv] w fun e w' => e = .returned (.bool true) ∧ Fr [] w w' := by
  obtain ⟨la, lc, rfl⟩ := h.shape
  cases hg1 : greatL is with
  | true =>
    have Hg1 := Lib.hid hg1
    clear hg1
    go_enter Tryz.func3, Tryz.ntmps3
    go_wp2_with first | (go_at_call 5; refine (known7 hM hg).mono ?_; rintro e w1 ⟨rfl, hF1⟩) | (go_at_call 6; refine (great7 _ _ is ds (h.fr hF1 (by simp)) (InssR.fr hF1 (by simp) hs)).mono ?_; rintro e w2 ⟨rfl, hF2⟩; rw [Hg1.out]; have f2 := hF1.trans hF2)
    go_ret
    exact ⟨rfl, f2⟩
  | false =>
    have Hg1 := Lib.hid hg1
    obtain ⟨hsm1, hS41⟩ := great_sm hg1 hu
    have h120 := (great_no hg1).1
    have hsz : ∀ i, i ∈ is → i.types.length ≤ 65536 ∧ i.labels.length ≤ 65536 ∧ i.catches.length ≤ 65536 := fun i hi => by
      have h1 := (great_no hg1).2 i hi
      omega
    have hwf1 : ∀ i, i ∈ is → WfI i := fun i hi => by
      have h1 := (great_no hg1).2 i hi
      exact ⟨(hop i hi).1, (hop i hi).2, by omega, by omega, by omega⟩
    have hl1 : is.length ≤ 65536 := by omega
    have hl40 : is.length ≤ 1099511627776 := by omega
    clear hg1
    go_enter Tryz.func3, Tryz.ntmps3
    go_upto_region 6 with first | (go_at_call 5; refine (known7 hM hg).mono ?_; rintro e w1 ⟨rfl, hF1⟩) | (go_at_call 6; refine (great7 _ _ is ds (h.fr hF1 (by simp)) (InssR.fr hF1 (by simp) hs)).mono ?_; rintro e w2 ⟨rfl, hF2⟩; rw [Hg1.out]; have f2 := hF1.trans hF2) | (go_at_call 7; refine (refCopy_any _ _ is ds (h.fr f2 (by simp)) (InssR.fr f2 (by simp) hs) hl1 hsz).mono ?_; rintro e w3 ⟨v3, cs, rfl, hF3, hC, hCs⟩; have f3 := f2.trans hF3)
    obtain ⟨ca, cc, rfl⟩ := hC.shape
    have hg3 := hg.fr f3 (by simp)
    have hL := h.fr f3 (by simp)
    have hLs := InssR.fr f3 (by simp) hs
    have hS := (St.start [] w3).drew
    have E := Lib.hid (show decide (is = is) = true from decide_eq_true rfl)
    go_region_held (fun _ => True) (trivial)
      (first
        | (go_at_call 8; (refine (Put_any hM (hg3.fr hS.fr (by simp)) _ is cs (hC.fr hS.fr (by simp)) (InssR.fr hS.fr (by simp) hCs) hl1 hwf1 hsm1).mono ?_); rintro e w4 ⟨v4, rfl, s4⟩; refine st_go s4 ?_; (repeat (apply Exists.intro)); refine ⟨?_, ?_⟩; (· exact zsts1); (try simp only [World.size_alloc, World.size_setCell, size_drew, size_drewN]); intro hS; simp only [List.cons_append, List.nil_append] at hS; (try clear hQ); have hQ := St.facts hS; simp only [Facts, Res.fact, List.cons_append, List.nil_append, true_and, and_true] at hQ; have k7 := hS.conv (v := v4) Pick.here)
        | (go_at_call 9; (refine (refPut_any _ _ is ds (hL.fr hS.fr (by simp)) (InssR.fr hS.fr (by simp) hLs) hl1 hwf1 hsm1).mono ?_); rintro e w5 ⟨v5, rfl, s5⟩; refine st_go s5 ?_; (repeat (apply Exists.intro)); refine ⟨?_, ?_⟩; (· exact zsts1); (try simp only [World.size_alloc, World.size_setCell, size_drew, size_drewN]); intro hS; simp only [List.cons_append, List.nil_append] at hS; (try clear hQ); have hQ := St.facts hS; simp only [Facts, Res.fact, List.cons_append, List.nil_append, true_and, and_true] at hQ; have k8 := hS.conv (v := v5) Pick.here; try have k9 := hS.conv (v := v4) (by exact zpk1))
        | (go_at_call 10; (refine (refSame_refl _ _ _ is cs ds (hC.fr hS.fr (by simp)) (InssR.fr hS.fr (by simp) hCs) (hL.fr hS.fr (by simp)) (InssR.fr hS.fr (by simp) hLs) hl40).mono ?_); rintro e w6 ⟨rfl, hF6⟩; refine st_fr hF6 ?_; (repeat (apply Exists.intro)); refine ⟨?_, ?_⟩; (· exact zsts1); (try simp only [World.size_alloc, World.size_setCell, size_drew, size_drewN]); intro hS; (try clear hQ); have hQ := St.facts hS; simp only [Facts, Res.fact, List.cons_append, List.nil_append, true_and, and_true] at hQ))
    all_goals
      go_wp2_with fail
      go_ret
      exact ⟨rfl, f3.trans hS.fr⟩
end Go.Proofs.YtokneepfknepaaaGreatDoor

set_option linter.unusedSimpArgs false
set_option linter.unusedVariables false
namespace Go.Proofs.YtokneepfknepaaaGreatDoor.lawPuts7
open Go.ChangeShapes Go.WideShapes Go.ChangeAt Go.RowKit Go.Proofs.YtokneepfknepaaaGreatDoor

theorem pars : Tryz.f3.params.toList = [22] := by rw [Tryz.params3]
set_option maxRecDepth 100000 in
theorem pars_ok : ∀ t, t ∈ Tryz.f3.params.toList → Tryz.prog.readableRec t = true ∧ t < Tryz.prog.types.size := by
  rw [pars]
  intro t ht
  simp only [List.mem_cons, List.not_mem_nil, or_false] at ht
  rcases ht with rfl <;> exact ⟨by kernel_rfl, of_decide_eq_true (by kernel_rfl)⟩
set_option maxRecDepth 100000 in
theorem contract (H : Type) (enc : TypeId × Value → H) (W : World) (base : Nat) (args : Array Value) (ds gs : List (DataW H)) (before : List MemPlace)
    (hval : ∀ (j : Nat) t v, Tryz.f3.params[j]? = some t → args[j]? = some v → Value.okWide Tryz.prog W .any base t v)
    (hW : DataW.Whole enc Tryz.prog Tryz.f3.params.toList Rows.ibinPutsSpec.vars false W args.toList ds gs before) (hL : laidMetH Tryz.prog Rows.ibinPutsRow.laid W) :
    Calls Tryz.prog 3 args W fun e W' => ∃ v, e = .returned v ∧ Rows.ibinPutsSpec.post enc Tryz.prog Tryz.f3 false true false false W args v W' := by
  have hW' := hW
  obtain ⟨p, q, hA0, hV, rfl, hfz, hnd⟩ := hW
  have hA : DataW.TrodAll enc Tryz.prog W 0 (fun _ => true) true Tryz.f3.params.toList args.toList ds p := hA0
  rw [Tryz.params3] at hA hval
  obtain ⟨v0, d0, rfl, rfl, h0⟩ := trodAll_one hA
  obtain ⟨a0, n0, c0, e0⟩ := okWide_slice Tryz.underlying22 (hval 0 22 v0 rfl rfl)
  subst e0
  obtain ⟨fuel0, hf0⟩ := h0
  obtain ⟨u0, l0, g0, x0, s0, r0, q0⟩ := arg_instrs hf0
  obtain rfl := List.singleton_inj.1 x0
  have gl := gl_of_laid7 hL
  refine (ibinPuts_any may_ok gl _ l0 g0 s0 r0 (fun i hi => (q0 i hi).1) (fun i hi => (q0 i hi).2)).mono fun e W' ⟨he, hg⟩ => ?_
  subst he
  exact ⟨_, rfl, law_post hW' rfl (by kernel_rfl) pars_ok rfl hg⟩

theorem laid_met (os : Os) : laidMet Tryz.prog Rows.ibinPutsRow.laid ((laidWorld7 os).forCall (fun _ _ => 0) ⟨#[], #[.slice none 0 0], []⟩).memory :=
  laidMet_of_run' 8 (by kernel_rfl) (by kernel_rfl)
theorem reads (os : Os) {H : Type} (enc : TypeId × Value → H) : ∃ places, DataW.whole enc Tryz.prog ((laidWorld7 os).forCall (fun _ _ => 0) ⟨#[], #[.slice none 0 0], []⟩).memory Tryz.f3.params.toList Rows.ibinPutsSpec.vars false #[Value.slice none 0 0].toList 8 = some ([.nil], [], places) :=
  ⟨[], by kernel_rfl⟩

set_option maxRecDepth 100000 in
theorem lifted (os : Os) (started : os.Started) (H : Type) (enc : TypeId × Value → H) (F : Stop.Interp) :
    ReturnsInHanded {} Tryz.checked os 3 .any ((OpenSpec.ofChange Rows.ibinPutsSpec).preRow enc Tryz.prog Tryz.f3 Rows.ibinPutsRow.domain false Rows.ibinPutsRow.laid) (((OpenSpec.ofChange Rows.ibinPutsSpec).at F).post enc Tryz.prog Tryz.f3 false true false false) := by
  obtain ⟨places, hx⟩ := reads os enc
  refine returnsInHanded_of_row (C := Tryz.checked) (s := OpenSpec.ofChange Rows.ibinPutsSpec) own started (by kernel_rfl) Tryz.func3
    (witness_row_at (enc := enc) (C := Tryz.checked) false (laidWorld7 os) #[.slice none 0 0] rfl (by kernel_rfl) (by kernel_rfl) (by kernel_rfl)
      (OpenSpec.preRow_of_cond 8 hx (by kernel_rfl) (fun k hk => by cases hk) (by kernel_rfl) (laid_met os))) ?_
  intro W base args ds gs before hval hW _ _ _ hL _ _
  exact contract H enc W base args ds gs before hval hW hL

theorem said : Rows.IbinPutsSaid :=
  OpenClaim.holds_of_cond 3 Tryz.f3 rfl rfl rfl rfl rfl rfl rfl ⟨rfl, rfl, rfl, rfl, rfl⟩ rfl rfl rfl rfl rfl (by kernel_rfl) Tryz.func3 (by kernel_rfl)
    (of_decide_eq_true (by kernel_rfl)) (by unfold Func.isWrapper; first | (rw [if_pos (by decide +kernel)]; kernel_rfl) | (rw [if_neg (by decide +kernel)]; exact ⟨rfl, rfl⟩))
    (fun os started H enc _ F => by rw [OpenClaim.pre_eq_preRow]; exact lifted os started H enc F)

theorem plain (f : FuncId) (fn : Func) (hf : Tryz.pinned.checked.prog.funcNamed "geode/geodelaw07.IbinPuts" = some f) (hfn : Tryz.pinned.checked.prog.funcs[f]? = some fn) :
    false = Tryz.pinned.checked.prog.looks [] ∧ ∀ (j : Nat) t, fn.params[j]? = some t → Tryz.pinned.checked.prog.wantsStandIn t = false := by
  obtain rfl : f = 3 := Option.some.inj ((show Tryz.prog.funcNamed "geode/geodelaw07.IbinPuts" = some 3 by kernel_rfl).symm.trans hf) |>.symm
  obtain rfl : fn = Tryz.f3 := (Option.some.inj (Tryz.func3.symm.trans hfn)).symm
  refine ⟨by kernel_rfl, fun j t ht => ?_⟩
  rw [Tryz.params3] at ht
  have hm := Array.mem_of_getElem? ht
  simp only [List.mem_toArray, List.mem_cons, List.not_mem_nil, or_false] at hm
  rcases hm with rfl
  · exact (show Tryz.prog.wantsStandIn 22 = false by kernel_rfl)

theorem card : Rows.IbinPutsCardSaid :=
  Claim7.holds_tied_plain_at .later [] _ _ _ _ said (fun _ h => by cases h) (by kernel_rfl) (fun _ h => by cases h) ibinPuts_row_tie rfl ⟨rfl, rfl⟩ (by kernel_rfl) rfl plain (by kernel_rfl)
end Go.Proofs.YtokneepfknepaaaGreatDoor.lawPuts7
namespace Go.Proofs.YtokneepfknepaaaGreatDoor
theorem ibinPuts_card : Rows.IbinPutsCardSaid := lawPuts7.card
#print axioms ibinPuts_card
end Go.Proofs.YtokneepfknepaaaGreatDoor
