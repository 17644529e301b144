/- The law IbinNests, walked (UNDER WAY: the drawn regions 20 and 21 are not walked yet). -/
import Derived.Test.YtokneepfknepaaaDoorG11
set_option linter.unusedSimpArgs false
set_option linter.unusedVariables false
namespace Go.Proofs.YtokneepfknepaaaDoor
open Go.RowKit
set_option maxRecDepth 100000 in
set_option maxHeartbeats 1600000 in
theorem ibinNests_any (hM : MayOk) {w : World} (hg : Gl7 [] w) (lv : Value) (is : List InstrT) (ds : List Value) (h : Sl [] w 19 lv is.length ds) (hs : InssR [] w is ds) (hop : ∀ i, i ∈ is → -9223372036854775808 ≤ i.op ∧ i.op < 9223372036854775808) (at_ : Int) :
    Calls Tryd.prog 9 #[lv, .int .i64 at_] w fun e w' => e = .returned (.bool true) ∧ Fr [] w w' := by
  have hh := h
  obtain ⟨la, lc, rfl⟩ := h.shape
  cases hgr : greatL is with
  | true =>
    have Hgr := Lib.hid hgr
    clear hgr
    go_enter Tryd.func9, Tryd.ntmps9
    go_wp2_with first | (go_at_call 38; refine (known7 hM hg).mono ?_; rintro e w1 ⟨rfl, hF1⟩) | (go_at_call 39; refine (great7 _ _ is ds (h.fr hF1 (by simp)) (InssR.fr hF1 (by simp) hs)).mono ?_; rintro e w2 ⟨rfl, hF2⟩; rw [Hgr.out]; have f2 := hF1.trans hF2)
    go_ret
    exact ⟨rfl, f2⟩
  | false =>
    have Hgr := Lib.hid hgr
    have h120 := (great_no hgr).1
    clear hgr
    cases hn : nested is with
    | false =>
      have Hn := Lib.hid hn
      clear hn
      go_enter Tryd.func9, Tryd.ntmps9
      go_wp2_with first | (go_at_call 38; refine (known7 hM hg).mono ?_; rintro e w1 ⟨rfl, hF1⟩) | (go_at_call 39; refine (great7 _ _ is ds (h.fr hF1 (by simp)) (InssR.fr hF1 (by simp) hs)).mono ?_; rintro e w2 ⟨rfl, hF2⟩; rw [Hgr.out]; have f2 := hF1.trans hF2) | (go_at_call 41; refine (nested_any _ _ is ds (h.fr f2 (by simp)) (InssR.fr f2 (by simp) hs) (by omega)).mono ?_; rintro e w3 ⟨rfl, hF3⟩; rw [Hn.out]; have f3 := f2.trans hF3)
      go_ret
      exact ⟨rfl, f3⟩
    | true =>
      have Hn := Lib.hid hn
      by_cases p1 : at_ < 0
      · clear hn
        go_enter Tryd.func9, Tryd.ntmps9
        go_wp2_with first | (go_at_call 38; refine (known7 hM hg).mono ?_; rintro e w1 ⟨rfl, hF1⟩) | (go_at_call 39; refine (great7 _ _ is ds (h.fr hF1 (by simp)) (InssR.fr hF1 (by simp) hs)).mono ?_; rintro e w2 ⟨rfl, hF2⟩; rw [Hgr.out]; have f2 := hF1.trans hF2) | (go_at_call 41; refine (nested_any _ _ is ds (h.fr f2 (by simp)) (InssR.fr f2 (by simp) hs) (by omega)).mono ?_; rintro e w3 ⟨rfl, hF3⟩; rw [Hn.out]; have f3 := f2.trans hF3)
        go_ret
        exact ⟨rfl, f3⟩
      · obtain ⟨c, rfl⟩ := Int.eq_ofNat_of_zero_le (Int.not_lt.1 p1)
        by_cases p2 : is.length < c
        · have i2 : (is.length : Int) < (c : Int) := by omega
          clear hn
          go_enter Tryd.func9, Tryd.ntmps9
          go_wp2_with first | (go_at_call 38; refine (known7 hM hg).mono ?_; rintro e w1 ⟨rfl, hF1⟩) | (go_at_call 39; refine (great7 _ _ is ds (h.fr hF1 (by simp)) (InssR.fr hF1 (by simp) hs)).mono ?_; rintro e w2 ⟨rfl, hF2⟩; rw [Hgr.out]; have f2 := hF1.trans hF2) | (go_at_call 41; refine (nested_any _ _ is ds (h.fr f2 (by simp)) (InssR.fr f2 (by simp) hs) (by omega)).mono ?_; rintro e w3 ⟨rfl, hF3⟩; rw [Hn.out]; have f3 := f2.trans hF3)
          go_ret
          exact ⟨rfl, f3⟩
        · have i2 : ¬ (is.length : Int) < (c : Int) := by omega
          clear hn p1
          go_enter Tryd.func9, Tryd.ntmps9
          go_wp2_with first | (go_at_call 38; refine (known7 hM hg).mono ?_; rintro e w1 ⟨rfl, hF1⟩) | (go_at_call 39; refine (great7 _ _ is ds (h.fr hF1 (by simp)) (InssR.fr hF1 (by simp) hs)).mono ?_; rintro e w2 ⟨rfl, hF2⟩; rw [Hgr.out]; have f2 := hF1.trans hF2) | (go_at_call 41; refine (nested_any _ _ is ds (h.fr f2 (by simp)) (InssR.fr f2 (by simp) hs) (by omega)).mono ?_; rintro e w3 ⟨rfl, hF3⟩; rw [Hn.out]; have f3 := f2.trans hF3)
          go_loopw [5, 6, 7, 8] (fun o e v n wr => ∃ (k : Nat) (cs : List Value), n = .int .i64 k ∧ k ≤ is.length ∧ o = .int .i64 ((is.take k).countP isOpen : Nat) ∧ e = .int .i64 ((is.take k).countP isEnd : Nat) ∧ St [] w wr [.own 81 19 v ((is.take k).filter other).length cs] ∧ InssR [] w ((is.take k).filter other) cs) (fun _ _ _ n _ => is.length - (intOf n).toNat)
          case atStart => exact ⟨0, [], rfl, by omega, rfl, rfl, ((St.start [] w).step0 f3).dstT (.nil rfl), rfl⟩
          case round =>
            obtain ⟨k, cs, rfl, hk, rfl, rfl, hS, hI⟩ := hrel
            by_cases hlt : k < is.length
            · obtain ⟨i, hi⟩ : ∃ t, is[k]? = some t := ⟨is[k], by simp [hlt]⟩
              obtain ⟨b, off, cap2, tv, lv, cv, hv, hb, hnS, hR, hc⟩ := Sl.ins_elem hh hs k i hi
              injection hv with hv1 hv2 hv3
              subst hv1 hv3
              have hbw : b < wr.heap.size := Nat.lt_of_lt_of_le hb hS.fr.size
              have hR2 := hR
              obtain ⟨ta, tc, rfl⟩ := hR.1.shape
              obtain ⟨la, lc, rfl⟩ := hR.2.1.shape
              obtain ⟨ca, cc, rfl⟩ := hR.2.2.shape
              have hRow : wr.rangeAt b (off + k * 19) (insC i (.slice ta i.types.length tc) (.slice la i.labels.length lc) (.slice ca i.catches.length cc)) := fun r v hv => by
                rw [Nat.add_assoc, (hS.fr.cell hb (by simp) _).trans (hc r (List.getElem?_eq_some_iff.1 hv).1)]
                exact hv
              have f0 := (hS.fr.cell hb (by simp) _).trans (hc 0 (by decide))
              simp only [Nat.add_zero, insC, List.getElem?_cons_zero] at f0
              have hOne : ∀ v ∈ insC i (.slice ta i.types.length tc) (.slice la i.labels.length lc) (.slice ca i.catches.length cc), v.oneCell' = true := by simp [insC, Value.oneCell']
              have i3 : (k : Int) < (is.length : Int) := by omega
              have lO : (is.take k).countP isOpen ≤ 120 := Nat.le_trans List.countP_le_length (by rw [List.length_take]; omega)
              have lE : (is.take k).countP isEnd ≤ 120 := Nat.le_trans List.countP_le_length (by rw [List.length_take]; omega)
              have lF : ((is.take k).filter other).length ≤ 120 := Nat.le_trans (List.length_filter_le _ _) (by rw [List.length_take]; omega)
              have htk : is.take (k + 1) = is.take k ++ [i] := by rw [List.take_add_one, hi]; rfl
              have Htk := Lib.hid htk
              clear hc hi htk
              by_cases c1 : isOpen i = true
              · have q : (i.op == 2) = true ∨ ((i.op == 2) = false ∧ (i.op == 3) = true) ∨ ((i.op == 2) = false ∧ (i.op == 3) = false ∧ (i.op == 4) = true) ∨ ((i.op == 2) = false ∧ (i.op == 3) = false ∧ (i.op == 4) = false ∧ (i.op == 31) = true) := by
                  have := c1
                  unfold isOpen at this
                  simp only [decide_eq_true_eq] at this
                  simp
                  omega
                have e1 : (is.take (k + 1)).countP isOpen = (is.take k).countP isOpen + 1 := by rw [Htk.out, List.countP_append]; simp [c1]
                have c2 : isEnd i = false := by
                  have := c1
                  unfold isOpen at this
                  unfold isEnd
                  simp only [decide_eq_true_eq, decide_eq_false_iff_not] at this ⊢
                  omega
                have e2 : (is.take (k + 1)).countP isEnd = (is.take k).countP isEnd := by rw [Htk.out, List.countP_append]; simp [c2]
                have e3 : (is.take (k + 1)).filter other = (is.take k).filter other := by rw [Htk.out, List.filter_append]; simp [other, c1]
                have E1 := Lib.hid e1
                have E2 := Lib.hid e2
                have E3 := Lib.hid e3
                clear e1 e2 e3 c1 c2
                rcases q with q1 | ⟨q1, q2⟩ | ⟨q1, q2, q3⟩ | ⟨q1, q2, q3, q4⟩
                all_goals
                  go_wp2
                  go_roundw
                  case rel =>
                    refine ⟨k + 1, cs, by go_num, by omega, ?_, ?_, ?_, ?_⟩
                    · rw [E1.out]; simp
                    · rw [E2.out]
                    · rw [E3.out]; exact hS
                    · rw [E3.out]; exact hI
                  case measure => simp [intOf]; omega
              · have c1 : isOpen i = false := by simpa using c1
                have q : (i.op == 2) = false ∧ (i.op == 3) = false ∧ (i.op == 4) = false ∧ (i.op == 31) = false := by
                  have := c1
                  unfold isOpen at this
                  simp only [decide_eq_false_iff_not] at this
                  simp
                  omega
                obtain ⟨q1, q2, q3, q4⟩ := q
                have e1 : (is.take (k + 1)).countP isOpen = (is.take k).countP isOpen := by rw [Htk.out, List.countP_append]; simp [c1]
                have E1 := Lib.hid e1
                clear e1
                by_cases c2 : isEnd i = true
                · have q5 : (i.op == 11) = true := by
                    have := c2
                    unfold isEnd at this
                    simpa using this
                  have e2 : (is.take (k + 1)).countP isEnd = (is.take k).countP isEnd + 1 := by rw [Htk.out, List.countP_append]; simp [c2]
                  have e3 : (is.take (k + 1)).filter other = (is.take k).filter other := by rw [Htk.out, List.filter_append]; simp [other, c2]
                  have E2 := Lib.hid e2
                  have E3 := Lib.hid e3
                  clear e2 e3 c1 c2
                  go_wp2
                  go_roundw
                  case rel =>
                    refine ⟨k + 1, cs, by go_num, by omega, ?_, ?_, ?_, ?_⟩
                    · rw [E1.out]
                    · rw [E2.out]; simp
                    · rw [E3.out]; exact hS
                    · rw [E3.out]; exact hI
                  case measure => simp [intOf]; omega
                · have c2 : isEnd i = false := by simpa using c2
                  have q5 : (i.op == 11) = false := by
                    have := c2
                    unfold isEnd at this
                    simpa using this
                  have e2 : (is.take (k + 1)).countP isEnd = (is.take k).countP isEnd := by rw [Htk.out, List.countP_append]; simp [c2]
                  have E2 := Lib.hid e2
                  clear e2
                  by_cases c3 : isElse i = true
                  · have q6 : (i.op == 5) = true := by
                      have := c3
                      unfold isElse at this
                      simpa using this
                    have e3 : (is.take (k + 1)).filter other = (is.take k).filter other := by rw [Htk.out, List.filter_append]; simp [other, c3]
                    have E3 := Lib.hid e3
                    clear e3 c1 c2 c3
                    go_wp2
                    go_roundw
                    case rel =>
                      refine ⟨k + 1, cs, by go_num, by omega, ?_, ?_, ?_, ?_⟩
                      · rw [E1.out]
                      · rw [E2.out]
                      · rw [E3.out]; exact hS
                      · rw [E3.out]; exact hI
                    case measure => simp [intOf]; omega
                  · have c3 : isElse i = false := by simpa using c3
                    have q6 : (i.op == 5) = false := by
                      have := c3
                      unfold isElse at this
                      simpa using this
                    have e3 : (is.take (k + 1)).filter other = (is.take k).filter other ++ [i] := by rw [Htk.out, List.filter_append]; simp [other, c1, c2, c3]
                    have E3 := Lib.hid e3
                    clear e3 c1 c2 c3
                    go_wp2_with first | (refine st_load (ty := 81) rfl rfl rfl und_ins rfl ?_; (repeat (apply Exists.intro)); refine ⟨?_, ?_, ?_, ?_⟩; (· exact hS); (· apply RowAt.elem; exact hRow); (· exact size_ins)) | (refine wpList_oneI rfl rfl rfl ?_) | (at_builtin; refine app_ins rfl rfl rfl rfl ?_; (repeat (apply Exists.intro)); refine ⟨?_, ?_, ?_, ?_, ?_⟩; (· (repeat (first | (with_reducible assumption) | (with_reducible apply St.alloc) | (with_reducible apply St.drew) | (with_reducible apply St.drewN) | (with_reducible apply St.alloc')))); (· (try simp only [World.size_alloc, World.size_setCell, size_drew, size_drewN]); apply DstT.own; ((try simp only [World.size_alloc, World.size_setCell, size_drew, size_drewN]); repeat (first | (exact Pick.here) | (with_reducible apply Pick.there)))); (· (try simp only [World.size_alloc, World.size_setCell, size_drew, size_drewN]); apply SrcT.lit; (· ((try simp only [World.size_alloc, World.size_setCell, size_drew, size_drewN]); repeat (first | (exact Pick.here) | (with_reducible apply Pick.there)))); (· rfl); (· exact hOne)); (· omega); intro vN wN hS)
                    go_roundw
                    case rel =>
                      refine ⟨k + 1, cs ++ insC i (.slice ta i.types.length tc) (.slice la i.labels.length lc) (.slice ca i.catches.length cc), by go_num, by omega, ?_, ?_, ?_, ?_⟩
                      · rw [E1.out]
                      · rw [E2.out]
                      · rw [E3.out, List.length_append]; exact hS.sel (.cons .here .nil)
                      · rw [E3.out]; exact InssR.app (InssR.one hR2) hI
                    case measure => simp [intOf]; omega
            · obtain rfl : k = is.length := by omega
              rw [List.take_length] at hS hI ⊢
              rw [nested_count Hn.out]
              have hcl : c ≤ is.length := by omega
              have hcL : c ≤ lc := by
                obtain ⟨_, _, a', cap', e, h4, _⟩ := hh
                injection e with _ _ e3
                omega
              have hTk := Sl.takeK hh hcl
              have hDk := Sl.dropK hh hcl
              generalize is.countP isEnd = nE
              by_cases hcc : lc = c
              all_goals first | (have hcd := hcc.symm; subst hcd; rw [if_pos rfl, Nat.sub_self] at hDk) | (rw [if_neg hcc] at hDk)
              all_goals
                have hO2 : ∀ v ∈ insC (InstrT.of 2) (.slice none 0 0) (.slice none 0 0) (.slice none 0 0), v.oneCell' = true := by simp [insC, Value.oneCell']
                have hOb : ∀ v ∈ insC (InstrT.of 11) (.slice none 0 0) (.slice none 0 0) (.slice none 0 0), v.oneCell' = true := by simp [insC, Value.oneCell']
                have hIs : ∀ (k : Int), InssR [] w (is.take c ++ [InstrT.of k] ++ is.drop c) ([] ++ ds.take (c * 19) ++ insC (InstrT.of k) (.slice none 0 0) (.slice none 0 0) (.slice none 0 0) ++ ds.drop (c * 19)) := fun k => InssR.app (InssR.drop c hs) (InssR.app (InssR.one (inert k w)) (InssR.take c hs))
                have hLn : ∀ (k : Int), (is.take c ++ [InstrT.of k] ++ is.drop c).length = 0 + c + 1 + (is.length - c) := fun k => by simp only [List.length_append, List.length_cons, List.length_nil, List.length_take, List.length_drop]; omega
                have N1 := Lib.hid (nested_others is)
                have N2 := Lib.hid (not_more Hn.out c)
                have N3 := Lib.hid (not_less Hn.out c)
                go_upto_region 20 with fail
                go_cut [9] (fun v9 wx => St [] w wx [.own 81 19 v9 (0 + c + 1 + (is.length - c)) ([] ++ ds.take (c * 19) ++ insC (InstrT.of 2) (.slice none 0 0) (.slice none 0 0) (.slice none 0 0) ++ ds.drop (c * 19)), .own 81 19 u7 (is.filter other).length cs])
                case first =>
                  go_region_held3 (fun _ => True) (trivial) (first | (refine step_insO rfl rfl rfl rfl ?_; (repeat (apply Exists.intro)); refine ⟨?_, ?_, ?_, ?_⟩; (· apply St.dst0; (· (repeat (first | (with_reducible assumption) | (with_reducible apply St.alloc) | (with_reducible apply St.drew) | (with_reducible apply St.drewN) | (with_reducible apply St.alloc')))); (· ((try simp only [World.size_alloc, World.size_setCell, size_drew, size_drewN]); repeat (first | (exact Pick.here) | (with_reducible apply Pick.there))))); (· apply SrcT.arg; apply St.sl (hs := hTk); (repeat (first | (with_reducible assumption) | (with_reducible apply St.alloc) | (with_reducible apply St.drew) | (with_reducible apply St.drewN) | (with_reducible apply St.alloc')))); (· omega); intro vN wN hS) | (refine step_ins rfl rfl rfl rfl ?_; (repeat (apply Exists.intro)); refine ⟨?_, ?_, ?_, ?_, ?_⟩; (· (repeat (first | (with_reducible assumption) | (with_reducible apply St.alloc) | (with_reducible apply St.drew) | (with_reducible apply St.drewN) | (with_reducible apply St.alloc')))); (· (try simp only [World.size_alloc, World.size_setCell, size_drew, size_drewN]); apply DstT.own; ((try simp only [World.size_alloc, World.size_setCell, size_drew, size_drewN]); repeat (first | (exact Pick.here) | (with_reducible apply Pick.there)))); (· (try simp only [World.size_alloc, World.size_setCell, size_drew, size_drewN]); apply SrcT.lit; (· ((try simp only [World.size_alloc, World.size_setCell, size_drew, size_drewN]); repeat (first | (exact Pick.here) | (with_reducible apply Pick.there)))); (· rfl); (· first | exact hO2 | exact hOb)); (· omega); intro vN wN hS) | (refine step_ins rfl rfl rfl rfl ?_; (repeat (apply Exists.intro)); refine ⟨?_, ?_, ?_, ?_, ?_⟩; (· (repeat (first | (with_reducible assumption) | (with_reducible apply St.alloc) | (with_reducible apply St.drew) | (with_reducible apply St.drewN) | (with_reducible apply St.alloc')))); (· (try simp only [World.size_alloc, World.size_setCell, size_drew, size_drewN]); apply DstT.own; ((try simp only [World.size_alloc, World.size_setCell, size_drew, size_drewN]); repeat (first | (exact Pick.here) | (with_reducible apply Pick.there)))); (· apply SrcT.arg; apply St.sl (hs := hDk); (repeat (first | (with_reducible assumption) | (with_reducible apply St.alloc) | (with_reducible apply St.drew) | (with_reducible apply St.drewN) | (with_reducible apply St.alloc')))); (· omega); intro vN wN hS))
                  all_goals
                    go_wp2_with fail
                    go_meet
                    exact hS.sel (by ((try simp only [World.size_alloc, World.size_setCell, size_drew, size_drewN]); repeat (first | (exact Sel.all) | (exact Sel.nil) | (apply Sel.cons; (· ((try simp only [World.size_alloc, World.size_setCell, size_drew, size_drewN]); repeat (first | (exact Pick.here) | (with_reducible apply Pick.there))); done)) | (apply Sel.skip))))
                case rest =>
                  clear hS
                  have hS := hcut
                  clear hcut
                  go_upto_region 21 with fail
                  go_cut [10] (fun v10 wx => St [] w wx [.own 81 19 v10 (0 + c + 1 + (is.length - c)) ([] ++ ds.take (c * 19) ++ insC (InstrT.of 11) (.slice none 0 0) (.slice none 0 0) (.slice none 0 0) ++ ds.drop (c * 19)), .own 81 19 u9 (0 + c + 1 + (is.length - c)) ([] ++ ds.take (c * 19) ++ insC (InstrT.of 2) (.slice none 0 0) (.slice none 0 0) (.slice none 0 0) ++ ds.drop (c * 19)), .own 81 19 u7 (is.filter other).length cs])
                  case first =>
                    go_region_held3 (fun _ => True) (trivial) (first | (refine step_insO rfl rfl rfl rfl ?_; (repeat (apply Exists.intro)); refine ⟨?_, ?_, ?_, ?_⟩; (· apply St.dst0; (· (repeat (first | (with_reducible assumption) | (with_reducible apply St.alloc) | (with_reducible apply St.drew) | (with_reducible apply St.drewN) | (with_reducible apply St.alloc')))); (· ((try simp only [World.size_alloc, World.size_setCell, size_drew, size_drewN]); repeat (first | (exact Pick.here) | (with_reducible apply Pick.there))))); (· apply SrcT.arg; apply St.sl (hs := hTk); (repeat (first | (with_reducible assumption) | (with_reducible apply St.alloc) | (with_reducible apply St.drew) | (with_reducible apply St.drewN) | (with_reducible apply St.alloc')))); (· omega); intro vN wN hS) | (refine step_ins rfl rfl rfl rfl ?_; (repeat (apply Exists.intro)); refine ⟨?_, ?_, ?_, ?_, ?_⟩; (· (repeat (first | (with_reducible assumption) | (with_reducible apply St.alloc) | (with_reducible apply St.drew) | (with_reducible apply St.drewN) | (with_reducible apply St.alloc')))); (· (try simp only [World.size_alloc, World.size_setCell, size_drew, size_drewN]); apply DstT.own; ((try simp only [World.size_alloc, World.size_setCell, size_drew, size_drewN]); repeat (first | (exact Pick.here) | (with_reducible apply Pick.there)))); (· (try simp only [World.size_alloc, World.size_setCell, size_drew, size_drewN]); apply SrcT.lit; (· ((try simp only [World.size_alloc, World.size_setCell, size_drew, size_drewN]); repeat (first | (exact Pick.here) | (with_reducible apply Pick.there)))); (· rfl); (· first | exact hO2 | exact hOb)); (· omega); intro vN wN hS) | (refine step_ins rfl rfl rfl rfl ?_; (repeat (apply Exists.intro)); refine ⟨?_, ?_, ?_, ?_, ?_⟩; (· (repeat (first | (with_reducible assumption) | (with_reducible apply St.alloc) | (with_reducible apply St.drew) | (with_reducible apply St.drewN) | (with_reducible apply St.alloc')))); (· (try simp only [World.size_alloc, World.size_setCell, size_drew, size_drewN]); apply DstT.own; ((try simp only [World.size_alloc, World.size_setCell, size_drew, size_drewN]); repeat (first | (exact Pick.here) | (with_reducible apply Pick.there)))); (· apply SrcT.arg; apply St.sl (hs := hDk); (repeat (first | (with_reducible assumption) | (with_reducible apply St.alloc) | (with_reducible apply St.drew) | (with_reducible apply St.drewN) | (with_reducible apply St.alloc')))); (· omega); intro vN wN hS))
                    all_goals
                      go_wp2_with fail
                      go_meet
                      exact hS.sel (by ((try simp only [World.size_alloc, World.size_setCell, size_drew, size_drewN]); repeat (first | (exact Sel.all) | (exact Sel.nil) | (apply Sel.cons; (· ((try simp only [World.size_alloc, World.size_setCell, size_drew, size_drewN]); repeat (first | (exact Pick.here) | (with_reducible apply Pick.there))); done)) | (apply Sel.skip))))
                  case rest =>
                    clear hS
                    have hS := hcut
                    clear hcut
                    have hFr := hS.fr
                    have b1 : (is.filter other).length ≤ is.length := List.length_filter_le _ _
                    have o1 := Own.sl (S' := []) (hS.own (v := u10) (n := 0 + c + 1 + (is.length - c)) (xs := [] ++ ds.take (c * 19) ++ insC (InstrT.of 11) (.slice none 0 0) (.slice none 0 0) (.slice none 0 0) ++ ds.drop (c * 19)) (e := 81) (k := 19) .here) (by simp)
                    have o2 := Own.sl (S' := []) (hS.own (v := u9) (n := 0 + c + 1 + (is.length - c)) (xs := [] ++ ds.take (c * 19) ++ insC (InstrT.of 2) (.slice none 0 0) (.slice none 0 0) (.slice none 0 0) ++ ds.drop (c * 19)) (e := 81) (k := 19) (.there .here)) (by simp)
                    have o3 := Own.sl (S' := []) (hS.own (v := u7) (n := (is.filter other).length) (xs := cs) (e := 81) (k := 19) (.there (.there .here))) (by simp)
                    rw [← hLn 11] at o1
                    rw [← hLn 2] at o2
                    have i1 := InssR.fr hFr (by simp) (hIs 11)
                    have i2 := InssR.fr hFr (by simp) (hIs 2)
                    have i3 := InssR.fr hFr (by simp) hI
                    have l1 := hLn 11
                    have l2 := hLn 2
                    have k3 : ∀ w', Fr [] wc w' → Calls Tryd.prog 41 #[u7] w' fun e w'' => e = .returned (.bool true) ∧ Fr [] w' w'' := fun w' hf => (nested_any w' u7 _ cs (o3.fr hf (by simp)) (InssR.fr hf (by simp) i3) (by omega)).mono fun e w'' ⟨h1, h2⟩ => ⟨by rw [h1, N1.out], h2⟩
                    have k2 : ∀ w', Fr [] wc w' → Calls Tryd.prog 41 #[u9] w' fun e w'' => e = .returned (.bool false) ∧ Fr [] w' w'' := fun w' hf => (nested_any w' u9 _ _ (o2.fr hf (by simp)) (InssR.fr hf (by simp) i2) (by omega)).mono fun e w'' ⟨h1, h2⟩ => ⟨by rw [h1, N2.out], h2⟩
                    have k1 : ∀ w', Fr [] wc w' → Calls Tryd.prog 41 #[u10] w' fun e w'' => e = .returned (.bool false) ∧ Fr [] w' w'' := fun w' hf => (nested_any w' u10 _ _ (o1.fr hf (by simp)) (InssR.fr hf (by simp) i1) (by omega)).mono fun e w'' ⟨h1, h2⟩ => ⟨by rw [h1, N3.out], h2⟩
                    have K1 := Lib.hid k1
                    have K2 := Lib.hid k2
                    have K3 := Lib.hid k3
                    clear k1 k2 k3 o1 o2 o3 i1 i2 i3 hIs hLn l1 l2 b1 hI hO2 hOb hTk hDk N1 N2 N3
                    go_wp2_with first | (go_at_call 41; (with_reducible refine (K3.out _ (Fr.refl _ _)).mono ?_); rintro e wA ⟨rfl, hA⟩) | (go_at_call 41; (with_reducible refine (K2.out _ hA).mono ?_); rintro e wB ⟨rfl, hB⟩; have hAB := hA.trans hB) | (go_at_call 41; (with_reducible refine (K1.out _ hAB).mono ?_); rintro e wD ⟨rfl, hD⟩; have hAD := hAB.trans hD)
                    go_ret
                    exact ⟨rfl, hFr.trans hAD⟩
end Go.Proofs.YtokneepfknepaaaDoor
