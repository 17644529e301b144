/- IbinMay: whether any instructions may be, are well nested, and are the same, is the document's; for every two rows of instructions. The tables of heap types and of opcodes hold what the text of the program lays (the card ties it). -/
import Derived.Test.YtokneepfknepaaaGreatDoorG5
import Derived.Test.YtokneepfknepaaaGreatDoorG7
import Derived.Test.YtokneepfknepaaaGreatDoorG10
import Derived.Test.YtokneepfknepaaaGreatDoorG9
import Derived.Test.YtokneepfknepaaaGreatDoorG2
import Derived.Test.YtokneepfknepaaaGreatDoorG15
set_option linter.unusedSimpArgs false
set_option linter.unusedVariables false
namespace Go.Proofs.YtokneepfknepaaaGreatDoor
open Go.RowKit
set_option maxRecDepth 100000 in
set_option maxHeartbeats 3200000 in
theorem equalF_any (w : World) (va vb : Value) (xs ys : List InstrT) (ds es : List Value) (h1 : Sl [] w 19 va xs.length ds) (r1 : InssR [] w xs ds) (h2 : Sl [] w 19 vb ys.length es) (r2 : InssR [] w ys es) (hl : xs.length ≤ 1099511627776) (hl2 : ys.length ≤ 1099511627776) :
    Calls Tryz.prog 42 #[va, vb, .func (.func 33) #[] #[]] w fun e w' => e = .returned (.bool (decide (xs = ys))) ∧ Fr [] w w' := by
  have hh1 := h1
  have hh2 := h2
  obtain ⟨a1, c1, rfl⟩ := h1.shape
  obtain ⟨a2, c2, rfl⟩ := h2.shape
  by_cases hlen : xs.length = ys.length
  · have q : ((((xs.length : Nat) : Int)) != ((ys.length : Nat) : Int)) = false := by simp [hlen]
    go_enter Tryz.func42, Tryz.ntmps42
    go_wp2
    go_loopw [17] (fun n wr => ∃ (k : Nat), n = .int .i64 k ∧ k ≤ xs.length ∧ St [] w wr [] ∧ Hid (xs.take k = ys.take k)) (fun n _ => xs.length - (intOf n).toNat)
    case atStart => exact ⟨0, rfl, by omega, St.start [] w, Lib.hid rfl⟩
    case round =>
      obtain ⟨k, rfl, hk, hS, hI⟩ := hrel
      by_cases hlt : k < xs.length
      · obtain ⟨i, hi⟩ : ∃ t, xs[k]? = some t := ⟨xs[k], by simp [hlt]⟩
        obtain ⟨j, hj⟩ : ∃ t, ys[k]? = some t := ⟨ys[k]'(by omega), by simp [hlen ▸ hlt]⟩
        obtain ⟨b1, o1, p1, tv1, lv1, cv1, hv1, hb1, _, hR1, hc1⟩ := Sl.ins_elem hh1 r1 k i hi
        obtain ⟨b2, o2, p2, tv2, lv2, cv2, hv2, hb2, _, hR2, hc2⟩ := Sl.ins_elem hh2 r2 k j hj
        injection hv1 with e1 _ e3
        injection hv2 with e4 _ e6
        subst e1 e3 e4 e6
        have hbw1 : b1 < wr.heap.size := Nat.lt_of_lt_of_le hb1 hS.fr.size
        have hbw2 : b2 < wr.heap.size := Nat.lt_of_lt_of_le hb2 hS.fr.size
        obtain ⟨ta, tc, rfl⟩ := hR1.1.shape
        obtain ⟨la, lc, rfl⟩ := hR1.2.1.shape
        obtain ⟨ca, cc, rfl⟩ := hR1.2.2.shape
        obtain ⟨ta2, tc2, rfl⟩ := hR2.1.shape
        obtain ⟨la2, lc2, rfl⟩ := hR2.2.1.shape
        obtain ⟨ca2, cc2, rfl⟩ := hR2.2.2.shape
        have hRow1 : wr.rangeAt b1 (o1 + k * 19) (insC i (.slice ta i.types.length tc) (.slice la i.labels.length lc) (.slice ca i.catches.length cc)) := fun r v hv => by
          rw [Nat.add_assoc, (hS.fr.cell hb1 (by simp) _).trans (hc1 r (List.getElem?_eq_some_iff.1 hv).1)]
          exact hv
        have hRowF : ∀ {w' : World}, Fr [] w w' → w'.rangeAt b2 (o2 + k * 19) (insC j (.slice ta2 j.types.length tc2) (.slice la2 j.labels.length lc2) (.slice ca2 j.catches.length cc2)) := fun hf r v hv => by
          rw [Nat.add_assoc, (hf.cell hb2 (by simp) _).trans (hc2 r (List.getElem?_eq_some_iff.1 hv).1)]
          exact hv
        have hRow2 := fun (_ : Unit) => hRowF hS.fr
        have hOne1 : ∀ v ∈ insC i (.slice ta i.types.length tc) (.slice la i.labels.length lc) (.slice ca i.catches.length cc), v.oneCell' = true := by simp [insC, Value.oneCell']
        have hOne2 : ∀ v ∈ insC j (.slice ta2 j.types.length tc2) (.slice la2 j.labels.length lc2) (.slice ca2 j.catches.length cc2), v.oneCell' = true := by simp [insC, Value.oneCell']
        have i1 : (k : Int) < (xs.length : Int) := by omega
        have i2 : (k : Int) < (ys.length : Int) := by omega
        clear hc1 hc2
        cases hp : decide (i = j) with
        | false =>
          have hne : decide (xs = ys) = false := by
            simp only [decide_eq_false_iff_not] at hp ⊢
            intro h
            rw [h, hj] at hi
            injection hi with hi
            exact hp hi.symm
          have Hne := Lib.hid hne
          have Hp := Lib.hid hp
          clear hp hne hi hj
          go_wp2_with first | (refine st_load (ty := 44) rfl rfl rfl und_ins rfl ?_; (repeat (apply Exists.intro)); refine ⟨?_, ?_, ?_, ?_⟩; (· exact zsts1); (· (try simp only [World.size_alloc, World.size_setCell, size_drew, size_drewN]); first | (apply RowAt.elem; with_reducible exact hRow1) | (apply RowAt.elem; with_reducible exact hRow2 ()) | (apply RowAt.loc; (exact zpk1); done)); (· exact size_ins)) | (refine st_store (ty := 44) rfl rfl rfl rfl ?_; (repeat (apply Exists.intro)); refine ⟨?_, ?_, ?_, ?_, ?_, ?_⟩; (· exact zsts1); (· (try simp only [World.size_alloc, World.size_setCell, size_drew, size_drewN]); (exact zpk1)); (· rfl); (· exact size_ins); (· first | exact hOne1 | exact hOne2); intro wN hS; (try clear hQ); have hQ := St.facts hS; simp only [Facts, Res.fact, List.cons_append, List.nil_append, true_and, and_true] at hQ; have hRow2 := fun (_ : Unit) => hRowF hS.fr) | (go_at_call 33; (refine (same_i _ i j _ _ _ _ _ _ (hS.ins hR1) (hS.ins hR2)).mono ?_); rintro e w2 ⟨rfl, hF2⟩; rw [Hp.out]; refine st_fr hF2 ?_; (repeat (apply Exists.intro)); refine ⟨?_, ?_⟩; (· exact zsts1); (try simp only [World.size_alloc, World.size_setCell, size_drew, size_drewN]); intro hS; (try clear hQ); have hQ := St.facts hS; simp only [Facts, Res.fact, List.cons_append, List.nil_append, true_and, and_true] at hQ)
          go_ret
          exact ⟨by rw [Hne.out]; rfl, by (first | (with_reducible exact hS.fr) | (apply St.fr; (exact zsts1); done) | exact hS.fr)⟩
        | true =>
          have hij : i = j := by simpa using hp
          have hI2 : xs.take (k + 1) = ys.take (k + 1) := by
            rw [List.take_add_one, List.take_add_one, hI.out, hi, hj, hij]
          have HI2 := Lib.hid hI2
          have Hp := Lib.hid hp
          clear hp hij hI2 hi hj
          go_wp2_with first | (refine st_load (ty := 44) rfl rfl rfl und_ins rfl ?_; (repeat (apply Exists.intro)); refine ⟨?_, ?_, ?_, ?_⟩; (· exact zsts1); (· (try simp only [World.size_alloc, World.size_setCell, size_drew, size_drewN]); first | (apply RowAt.elem; with_reducible exact hRow1) | (apply RowAt.elem; with_reducible exact hRow2 ()) | (apply RowAt.loc; (exact zpk1); done)); (· exact size_ins)) | (refine st_store (ty := 44) rfl rfl rfl rfl ?_; (repeat (apply Exists.intro)); refine ⟨?_, ?_, ?_, ?_, ?_, ?_⟩; (· exact zsts1); (· (try simp only [World.size_alloc, World.size_setCell, size_drew, size_drewN]); (exact zpk1)); (· rfl); (· exact size_ins); (· first | exact hOne1 | exact hOne2); intro wN hS; (try clear hQ); have hQ := St.facts hS; simp only [Facts, Res.fact, List.cons_append, List.nil_append, true_and, and_true] at hQ; have hRow2 := fun (_ : Unit) => hRowF hS.fr) | (go_at_call 33; (refine (same_i _ i j _ _ _ _ _ _ (hS.ins hR1) (hS.ins hR2)).mono ?_); rintro e w2 ⟨rfl, hF2⟩; rw [Hp.out]; refine st_fr hF2 ?_; (repeat (apply Exists.intro)); refine ⟨?_, ?_⟩; (· exact zsts1); (try simp only [World.size_alloc, World.size_setCell, size_drew, size_drewN]); intro hS; (try clear hQ); have hQ := St.facts hS; simp only [Facts, Res.fact, List.cons_append, List.nil_append, true_and, and_true] at hQ)
          go_roundw
          case rel =>
            refine ⟨_, _, _, _, _, ⟨k + 1, ?_, by omega, hS.sel .nil, HI2⟩, rfl, rfl, rfl, rfl, rfl⟩
            first | rfl | go_num | simp
          case measure => simp [intOf]; omega
      · obtain rfl : k = xs.length := by omega
        have he : decide (xs = ys) = true := by
          have := hI.out
          rw [List.take_length, hlen, List.take_length] at this
          simpa using this
        have He := Lib.hid he
        clear he hI
        go_wp2
        go_ret
        exact ⟨by rw [He.out]; rfl, hS.fr⟩
  · have q : ((((xs.length : Nat) : Int)) != ((ys.length : Nat) : Int)) = true := by simp; omega
    have hne : decide (xs = ys) = false := by
      simp only [decide_eq_false_iff_not]
      intro h
      exact hlen (by rw [h])
    rw [hne]
    go_enter Tryz.func42, Tryz.ntmps42
    go_wp2
    go_ret
    exact ⟨rfl, Fr.refl _ _⟩
theorem Same7_any (w : World) (va vb : Value) (xs ys : List InstrT) (ds es : List Value) (h1 : Sl [] w 19 va xs.length ds) (r1 : InssR [] w xs ds) (h2 : Sl [] w 19 vb ys.length es) (r2 : InssR [] w ys es) (hl : xs.length ≤ 1099511627776) (hl2 : ys.length ≤ 1099511627776) :
    Calls Tryz.prog 15 #[va, vb] w fun e w' => e = .returned (.bool (decide (xs = ys))) ∧ Fr [] w w' := by
  go_enter Tryz.func15, Tryz.ntmps15
  go_wp2_with (go_at_call 42; refine (equalF_any _ _ _ xs ys ds es h1 r1 h2 r2 hl hl2).mono ?_; rintro e w2 ⟨rfl, hF2⟩)
  go_ret
  exact ⟨rfl, hF2⟩
end Go.Proofs.YtokneepfknepaaaGreatDoor

set_option linter.unusedSimpArgs false
set_option linter.unusedVariables false
namespace Go.Proofs.YtokneepfknepaaaGreatDoor
open Go.RowKit
theorem Same7_refl (w : World) (va vb : Value) (xs : List InstrT) (ds es : List Value) (h1 : Sl [] w 19 va xs.length ds) (r1 : InssR [] w xs ds) (h2 : Sl [] w 19 vb xs.length es) (r2 : InssR [] w xs es) (hl : xs.length ≤ 1099511627776) :
    Calls Tryz.prog 15 #[va, vb] w fun e w' => e = .returned (.bool true) ∧ Fr [] w w' :=
  (Same7_any w va vb xs xs ds es h1 r1 h2 r2 hl hl).mono fun e w' ⟨h1, h2⟩ => ⟨by rw [h1, decide_eq_true rfl], h2⟩
set_option maxRecDepth 100000 in
set_option maxHeartbeats 3200000 in
theorem ibinMay_any (hM : MayOk) {w : World} (hg : Gl7 [] w) (lv : Value) (is : List InstrT) (ds : List Value) (h : Sl [] w 19 lv is.length ds) (hs : InssR [] w is ds) (hop : ∀ i, i ∈ is → -9223372036854775808 ≤ i.op ∧ i.op < 9223372036854775808)
    (mv : Value) (ms : List InstrT) (es : List Value) (h2 : Sl [] w 19 mv ms.length es) (hs2 : InssR [] w ms es) :
    Calls Tryz.prog 4 #[lv, mv] w fun e w' => e = .returned (.bool true) ∧ Fr [] w w' := by
  obtain ⟨la, lc, rfl⟩ := h.shape
  obtain ⟨ma, mc, rfl⟩ := h2.shape
  cases hg1 : greatL is with
  | true =>
    have Hg1 := Lib.hid hg1
    clear hg1
    go_enter Tryz.func4, Tryz.ntmps4
    go_wp2_with first | (go_at_call 5; refine (known7 hM hg).mono ?_; rintro e w1 ⟨rfl, hF1⟩) | (go_at_call 6; refine (great7 _ _ is ds (h.fr hF1 (by simp)) (InssR.fr hF1 (by simp) hs)).mono ?_; rintro e w2 ⟨rfl, hF2⟩; rw [Hg1.out]; have f2 := hF1.trans hF2)
    go_ret
    exact ⟨rfl, f2⟩
  | false =>
    have Hg1 := Lib.hid hg1
    have h120 := (great_no hg1).1
    have hsz : ∀ i, i ∈ is → i.types.length ≤ 65536 ∧ i.labels.length ≤ 65536 ∧ i.catches.length ≤ 65536 := fun i hi => by
      have h1 := (great_no hg1).2 i hi
      omega
    have hwf1 : ∀ i, i ∈ is → WfI i := fun i hi => by
      have h1 := (great_no hg1).2 i hi
      exact ⟨(hop i hi).1, (hop i hi).2, by omega, by omega, by omega⟩
    have hl1 : is.length ≤ 65536 := by omega
    clear hg1
    cases hg2 : greatL ms with
    | true =>
      have Hg2 := Lib.hid hg2
      clear hg2
      go_enter Tryz.func4, Tryz.ntmps4
      go_wp2_with first | (go_at_call 5; refine (known7 hM hg).mono ?_; rintro e w1 ⟨rfl, hF1⟩) | (go_at_call 6; refine (great7 _ _ ms es (h2.fr f2 (by simp)) (InssR.fr f2 (by simp) hs2)).mono ?_; rintro e w3 ⟨rfl, hF3⟩; rw [Hg2.out]; have f3 := f2.trans hF3) | (go_at_call 6; refine (great7 _ _ is ds (h.fr hF1 (by simp)) (InssR.fr hF1 (by simp) hs)).mono ?_; rintro e w2 ⟨rfl, hF2⟩; rw [Hg1.out]; have f2 := hF1.trans hF2)
      go_ret
      exact ⟨rfl, f3⟩
    | false =>
      have Hg2 := Lib.hid hg2
      have h121 := (great_no hg2).1
      clear hg2
      go_enter Tryz.func4, Tryz.ntmps4
      go_wp2_with first | (go_at_call 5; refine (known7 hM hg).mono ?_; rintro e w1 ⟨rfl, hF1⟩) | (go_at_call 6; refine (great7 _ _ ms es (h2.fr f2 (by simp)) (InssR.fr f2 (by simp) hs2)).mono ?_; rintro e w3 ⟨rfl, hF3⟩; rw [Hg2.out]; have f3 := f2.trans hF3) | (go_at_call 6; refine (great7 _ _ is ds (h.fr hF1 (by simp)) (InssR.fr hF1 (by simp) hs)).mono ?_; rintro e w2 ⟨rfl, hF2⟩; rw [Hg1.out]; have f2 := hF1.trans hF2)
      go_loopw [5] (fun n wr => ∃ (k : Nat), n = .int .i64 k ∧ k ≤ is.length ∧ Fr [] w wr) (fun n _ => is.length - (intOf n).toNat)
      case atStart => exact ⟨0, rfl, by omega, f3⟩
      case round =>
        obtain ⟨k, rfl, hk, f4⟩ := hrel
        by_cases hlt : k < is.length
        · obtain ⟨i, hi⟩ : ∃ t, is[k]? = some t := ⟨is[k], by simp [hlt]⟩
          have hwi := hwf1 i (List.mem_of_getElem? hi)
          obtain ⟨b, off, cap2, tv, lv, cv, hv, hb, hnS, hR, hc⟩ := Sl.ins_elem h hs k i hi
          injection hv with hv1 hv2 hv3
          subst hv1 hv3
          have hRow : ∀ W, Fr [] w W → W.rangeAt b (off + k * 19) (insC i tv lv cv) := fun W hF => row_of fun r hr => by
            have hr : r < 19 := hr
            rw [Nat.add_assoc]
            exact (hF.cell hb (by simp) _).trans (hc r hr)
          have i1 : (k : Int) < (is.length : Int) := by omega
          clear hi hc hnS
          go_upto_region 8 with fail
          refine wp_region_held_drew (S := fun w' => w'.rangeAt b (off + k * 19) (insC i tv lv cv)) (by kernel_rfl) (hRow _ (f4.drew)) (fun hr => ?_)
          have f5 := f4.drew
          refine wpAnyH_take (i := 0) (v := .slice (some ⟨b, off, none⟩) is.length lc) rfl (by kernel_rfl) (by kernel_rfl) (by kernel_rfl) (fun _ _ _ h => h) (Or.inl ⟨by rfl, fun _ _ => by go_simp⟩) hr ?_
          simp only [Act.put, List.setIfInBounds_toArray, List.set_cons_zero, List.set_cons_succ]
          refine wpAnyH_take (i := 1) (v := .int .i64 k) rfl (by kernel_rfl) (by kernel_rfl) (by kernel_rfl) (fun _ _ _ h => h) (Or.inl ⟨by rfl, fun _ _ => by go_simp⟩) hr ?_
          simp only [Act.put, List.setIfInBounds_toArray, List.set_cons_zero, List.set_cons_succ]
          refine wpAnyH_take (i := 5) (v := .slice (some ⟨b, off, none⟩) is.length lc) rfl (by kernel_rfl) (by kernel_rfl) (by kernel_rfl) (fun _ _ _ h => h) (Or.inl ⟨by rfl, fun _ _ => by go_simp⟩) hr ?_
          simp only [Act.put, List.setIfInBounds_toArray, List.set_cons_zero, List.set_cons_succ]
          refine wpAnyH_take (i := 6) (v := .int .i64 k) rfl (by kernel_rfl) (by kernel_rfl) (by kernel_rfl) (fun _ _ _ h => h) (Or.inl ⟨by rfl, fun _ _ => by go_simp⟩) hr ?_
          simp only [Act.put, List.setIfInBounds_toArray, List.set_cons_zero, List.set_cons_succ]
          refine wpAnyH_take (i := 2) (v := .pointer (some ⟨b, off + k * 19, none⟩)) rfl (by kernel_rfl) (by kernel_rfl) (by kernel_rfl) (fun _ _ _ h => h) (Or.inl ⟨by rfl, fun _ _ => by go_simp⟩) hr ?_
          simp only [Act.put, List.setIfInBounds_toArray, List.set_cons_zero, List.set_cons_succ]
          refine wpAnyH_take (i := 7) (v := .pointer (some ⟨b, off + k * 19, none⟩)) rfl (by kernel_rfl) (by kernel_rfl) (by kernel_rfl) (fun _ _ _ h => h) (Or.inl ⟨by rfl, fun _ _ => by go_simp⟩) hr ?_
          simp only [Act.put, List.setIfInBounds_toArray, List.set_cons_zero, List.set_cons_succ]
          refine wpAnyH_take (i := 3) (v := .agg (List.toArray (insC i tv lv cv))) rfl (by kernel_rfl) (by kernel_rfl) (by kernel_rfl) (fun _ _ _ h => h) (yieldsIf_load_mid rfl 44 _ rfl b (off + k * 19) rfl (insC i tv lv cv) _ (fun _ h => h) und_ins rfl size_ins) hr ?_
          simp only [Act.put, List.setIfInBounds_toArray, List.set_cons_zero, List.set_cons_succ]
          refine wpAnyH_take (i := 8) (v := .agg (List.toArray (insC i tv lv cv))) rfl (by kernel_rfl) (by kernel_rfl) (by kernel_rfl) (fun _ _ _ h => h) (yieldsIf_load_mid rfl 44 _ rfl b (off + k * 19) rfl (insC i tv lv cv) _ (fun _ h => h) und_ins rfl size_ins) hr ?_
          simp only [Act.put, List.setIfInBounds_toArray, List.set_cons_zero, List.set_cons_succ]
          refine wpAnyH_ready (rs := [4]) (by kernel_rfl) (by simp) ?_; refine AllReadyH.cons rfl (fun K hK => ?_) AllReadyH.nil; rw [if_pos (by rfl)]; go_simp
          refine (hM _ (hg.fr f5 (by simp)) i tv lv cv (hR.fr f5 (by simp)) hwi).mono ?_
          rintro e w5 ⟨rfl, hF5⟩
          have f6 := f5.trans hF5
          refine hK.out _ _ (hRow _ f6) (fun hr => ?_)
          clear hK K
          refine wpAnyH_ready (rs := [9]) (by kernel_rfl) (by simp) ?_; refine AllReadyH.cons rfl (fun K hK => ?_) AllReadyH.nil; rw [if_pos (by rfl)]; go_simp
          refine (refMay_any _ i tv lv cv (hR.fr f6 (by simp)) ⟨hwi.op0, hwi.op1⟩ hwi.ts).mono ?_
          rintro e w6 ⟨rfl, hF6⟩
          rw [rMay_eq]
          have f7 := f6.trans hF6
          refine hK.out _ _ (hRow _ f7) (fun hr => ?_)
          clear hK K
          refine wpAnyH_take (i := 10) (v := .bool false) rfl (by kernel_rfl) (by kernel_rfl) (by kernel_rfl) (fun _ _ _ h => h) (Or.inl ⟨by rfl, fun _ _ => by go_simp⟩) hr ?_
          refine wpAnyH_done (by kernel_rfl) ?_ _
          clear hr hRow
          simp only [Act.put, List.setIfInBounds_toArray, List.set_cons_zero, List.set_cons_succ]
          go_wp2
          go_roundw
          case rel => exact ⟨k + 1, by go_num, by omega, f7⟩
          case measure => simp [intOf]; omega
        · obtain rfl : k = is.length := by omega
          have i1 : ¬ ((is.length : Int) < (is.length : Int)) := by omega
          clear hF1 hF2 hF3 f2 f3
          generalize hn : nested is = bn
          have Hn := Lib.hid hn
          generalize hsb : decide (is = ms) = bs
          have Hs := Lib.hid hsb
          clear hn hsb
          go_wp2_with first | (go_at_call 13; (refine (nested_any _ _ is ds (h.fr f4 (by simp)) (InssR.fr f4 (by simp) hs) (by omega)).mono ?_); rintro e w5 ⟨rfl, hF5⟩; rw [Hn.out]; have f5 := f4.trans hF5) | (go_at_call 14; (refine (refNested_any _ _ is ds (h.fr f5 (by simp)) (InssR.fr f5 (by simp) hs) (by omega)).mono ?_); rintro e w6 ⟨rfl, hF6⟩; rw [Hn.out]; have f6 := f5.trans hF6) | (go_at_call 15; (refine (Same7_refl _ _ _ is ds cs (h.fr f9 (by simp)) (InssR.fr f9 (by simp) hs) hC hCs (by omega)).mono ?_); rintro e w10 ⟨rfl, hF10⟩; have f10 := f9.trans hF10) | (go_at_call 15; (refine (Same7_any _ _ _ is ms ds es (h.fr f6 (by simp)) (InssR.fr f6 (by simp) hs) (h2.fr f6 (by simp)) (InssR.fr f6 (by simp) hs2) (by omega) (by omega)).mono ?_); rintro e w7 ⟨rfl, hF7⟩; rw [Hs.out]; have f7 := f6.trans hF7) | (go_at_call 10; (refine (refSame_any _ _ _ is ms ds es (h.fr f7 (by simp)) (InssR.fr f7 (by simp) hs) (h2.fr f7 (by simp)) (InssR.fr f7 (by simp) hs2) (by omega)).mono ?_); rintro e w8 ⟨rfl, hF8⟩; rw [Hs.out]; have f8 := f7.trans hF8) | (go_at_call 7; refine (refCopy_any _ _ is ds (h.fr f8 (by simp)) (InssR.fr f8 (by simp) hs) hl1 hsz).mono ?_; rintro e w9 ⟨v9, cs, rfl, hF9, hC, hCs⟩; have f9 := f8.trans hF9)
          go_ret
          exact ⟨rfl, f10⟩
end Go.Proofs.YtokneepfknepaaaGreatDoor

set_option linter.unusedSimpArgs false
set_option linter.unusedVariables false
namespace Go.Proofs.YtokneepfknepaaaGreatDoor.lawMay7
open Go.ChangeShapes Go.WideShapes Go.ChangeAt Go.RowKit Go.Proofs.YtokneepfknepaaaGreatDoor

theorem pars : Tryz.f4.params.toList = [22, 22] := by rw [Tryz.params4]
set_option maxRecDepth 100000 in
theorem pars_ok : ∀ t, t ∈ Tryz.f4.params.toList → Tryz.prog.readableRec t = true ∧ t < Tryz.prog.types.size := by
  rw [pars]
  intro t ht
  simp only [List.mem_cons, List.not_mem_nil, or_false] at ht
  rcases ht with rfl | rfl <;> exact ⟨by kernel_rfl, of_decide_eq_true (by kernel_rfl)⟩
set_option maxRecDepth 100000 in
theorem contract (H : Type) (enc : TypeId × Value → H) (W : World) (base : Nat) (args : Array Value) (ds gs : List (DataW H)) (before : List MemPlace)
    (hval : ∀ (j : Nat) t v, Tryz.f4.params[j]? = some t → args[j]? = some v → Value.okWide Tryz.prog W .any base t v)
    (hW : DataW.Whole enc Tryz.prog Tryz.f4.params.toList Rows.ibinMaySpec.vars false W args.toList ds gs before) (hL : laidMetH Tryz.prog Rows.ibinMayRow.laid W) :
    Calls Tryz.prog 4 args W fun e W' => ∃ v, e = .returned v ∧ Rows.ibinMaySpec.post enc Tryz.prog Tryz.f4 false true false false W args v W' := by
  have hW' := hW
  obtain ⟨p, q, hA0, hV, rfl, hfz, hnd⟩ := hW
  have hA : DataW.TrodAll enc Tryz.prog W 0 (fun _ => true) true Tryz.f4.params.toList args.toList ds p := hA0
  rw [Tryz.params4] at hA hval
  obtain ⟨v0, v1, d0, d1, p0, p1, rfl, rfl, rfl, h0, h1⟩ := trodAll_two hA
  obtain ⟨a0, n0, c0, e0⟩ := okWide_slice Tryz.underlying22 (hval 0 22 v0 rfl rfl)
  subst e0
  obtain ⟨fuel0, hf0⟩ := h0
  obtain ⟨u0, l0, g0, x0, s0, r0, q0⟩ := arg_instrs hf0
  obtain rfl := List.singleton_inj.1 x0
  obtain ⟨a1, n1, c1, e1⟩ := okWide_slice Tryz.underlying22 (hval 1 22 v1 rfl rfl)
  subst e1
  obtain ⟨fuel1, hf1⟩ := h1
  obtain ⟨u1, l1, g1, x1, s1, r1, q1⟩ := arg_instrs hf1
  obtain rfl := List.singleton_inj.1 x1
  have gl := gl_of_laid7 hL
  refine (ibinMay_any may_ok gl _ l0 g0 s0 r0 (fun i hi => (q0 i hi).1) _ l1 g1 s1 r1).mono fun e W' ⟨he, hg⟩ => ?_
  subst he
  exact ⟨_, rfl, law_post hW' rfl (by kernel_rfl) pars_ok rfl hg⟩

theorem laid_met (os : Os) : laidMet Tryz.prog Rows.ibinMayRow.laid ((laidWorld7 os).forCall (fun _ _ => 0) ⟨#[], #[.slice none 0 0, .slice none 0 0], []⟩).memory :=
  laidMet_of_run' 8 (by kernel_rfl) (by kernel_rfl)
theorem reads (os : Os) {H : Type} (enc : TypeId × Value → H) : ∃ places, DataW.whole enc Tryz.prog ((laidWorld7 os).forCall (fun _ _ => 0) ⟨#[], #[.slice none 0 0, .slice none 0 0], []⟩).memory Tryz.f4.params.toList Rows.ibinMaySpec.vars false #[Value.slice none 0 0, Value.slice none 0 0].toList 8 = some ([.nil, .nil], [], places) :=
  ⟨[], by kernel_rfl⟩

set_option maxRecDepth 100000 in
theorem lifted (os : Os) (started : os.Started) (H : Type) (enc : TypeId × Value → H) (F : Stop.Interp) :
    ReturnsInHanded {} Tryz.checked os 4 .any ((OpenSpec.ofChange Rows.ibinMaySpec).preRow enc Tryz.prog Tryz.f4 Rows.ibinMayRow.domain false Rows.ibinMayRow.laid) (((OpenSpec.ofChange Rows.ibinMaySpec).at F).post enc Tryz.prog Tryz.f4 false true false false) := by
  obtain ⟨places, hx⟩ := reads os enc
  refine returnsInHanded_of_row (C := Tryz.checked) (s := OpenSpec.ofChange Rows.ibinMaySpec) own started (by kernel_rfl) Tryz.func4
    (witness_row_at (enc := enc) (C := Tryz.checked) false (laidWorld7 os) #[.slice none 0 0, .slice none 0 0] rfl (by kernel_rfl) (by kernel_rfl) (by kernel_rfl)
      (OpenSpec.preRow_of_cond 8 hx (by kernel_rfl) (fun k hk => by cases hk) (by kernel_rfl) (laid_met os))) ?_
  intro W base args ds gs before hval hW _ _ _ hL _ _
  exact contract H enc W base args ds gs before hval hW hL

theorem said : Rows.IbinMaySaid :=
  OpenClaim.holds_of_cond 4 Tryz.f4 rfl rfl rfl rfl rfl rfl rfl ⟨rfl, rfl, rfl, rfl, rfl⟩ rfl rfl rfl rfl rfl (by kernel_rfl) Tryz.func4 (by kernel_rfl)
    (of_decide_eq_true (by kernel_rfl)) (by unfold Func.isWrapper; first | (rw [if_pos (by decide +kernel)]; kernel_rfl) | (rw [if_neg (by decide +kernel)]; exact ⟨rfl, rfl⟩))
    (fun os started H enc _ F => by rw [OpenClaim.pre_eq_preRow]; exact lifted os started H enc F)

theorem plain (f : FuncId) (fn : Func) (hf : Tryz.pinned.checked.prog.funcNamed "geode/geodelaw07.IbinMay" = some f) (hfn : Tryz.pinned.checked.prog.funcs[f]? = some fn) :
    false = Tryz.pinned.checked.prog.looks [] ∧ ∀ (j : Nat) t, fn.params[j]? = some t → Tryz.pinned.checked.prog.wantsStandIn t = false := by
  obtain rfl : f = 4 := Option.some.inj ((show Tryz.prog.funcNamed "geode/geodelaw07.IbinMay" = some 4 by kernel_rfl).symm.trans hf) |>.symm
  obtain rfl : fn = Tryz.f4 := (Option.some.inj (Tryz.func4.symm.trans hfn)).symm
  refine ⟨by kernel_rfl, fun j t ht => ?_⟩
  rw [Tryz.params4] at ht
  have hm := Array.mem_of_getElem? ht
  simp only [List.mem_toArray, List.mem_cons, List.not_mem_nil, or_false] at hm
  rcases hm with rfl | rfl
  · exact (show Tryz.prog.wantsStandIn 22 = false by kernel_rfl)
  · exact (show Tryz.prog.wantsStandIn 22 = false by kernel_rfl)

theorem card : Rows.IbinMayCardSaid :=
  Claim7.holds_tied_plain_at .later [] _ _ _ _ said (fun _ h => by cases h) (by kernel_rfl) (fun _ h => by cases h) ibinMay_row_tie rfl ⟨rfl, rfl⟩ (by kernel_rfl) rfl plain (by kernel_rfl)
end Go.Proofs.YtokneepfknepaaaGreatDoor.lawMay7
namespace Go.Proofs.YtokneepfknepaaaGreatDoor
theorem ibinMay_card : Rows.IbinMayCardSaid := lawMay7.card
#print axioms ibinMay_card
end Go.Proofs.YtokneepfknepaaaGreatDoor
