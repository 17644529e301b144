/- The walk of layer 7: are two rows of instructions the same? -/
import Derived.Test.YtokneepfknepaaaDoorG6
set_option linter.unusedSimpArgs false
set_option linter.unusedVariables false
namespace Go.Proofs.YtokneepfknepaaaDoor
open Go.RowKit
set_option maxRecDepth 100000 in
set_option maxHeartbeats 3200000 in
theorem equalF_any (w : World) (va vb : Value) (xs ys : List InstrT) (ds es : List Value) (h1 : Sl [] w 19 va xs.length ds) (r1 : InssR [] w xs ds) (h2 : Sl [] w 19 vb ys.length es) (r2 : InssR [] w ys es) (hl : xs.length ≤ 1099511627776) (hl2 : ys.length ≤ 1099511627776) :
    Calls Tryd.prog 87 #[va, vb, .func (.func 88) #[] #[]] w fun e w' => e = .returned (.bool (decide (xs = ys))) ∧ Fr [] w w' := by
  have hh1 := h1
  have hh2 := h2
  obtain ⟨a1, c1, rfl⟩ := h1.shape
  obtain ⟨a2, c2, rfl⟩ := h2.shape
  by_cases hlen : xs.length = ys.length
  · have q : ((((xs.length : Nat) : Int)) != ((ys.length : Nat) : Int)) = false := by simp [hlen]
    go_enter Tryd.func87, Tryd.ntmps87
    go_wp2
    go_loopw [17] (fun n wr => ∃ (k : Nat), n = .int .i64 k ∧ k ≤ xs.length ∧ St [] w wr [] ∧ Hid (xs.take k = ys.take k)) (fun n _ => xs.length - (intOf n).toNat)
    case atStart => exact ⟨0, rfl, by omega, St.start [] w, Lib.hid rfl⟩
    case round =>
      obtain ⟨k, rfl, hk, hS, hI⟩ := hrel
      by_cases hlt : k < xs.length
      · obtain ⟨i, hi⟩ : ∃ t, xs[k]? = some t := ⟨xs[k], by simp [hlt]⟩
        obtain ⟨j, hj⟩ : ∃ t, ys[k]? = some t := ⟨ys[k]'(by omega), by simp [hlen ▸ hlt]⟩
        obtain ⟨b1, o1, p1, tv1, lv1, cv1, hv1, hb1, _, hR1, hc1⟩ := Sl.ins_elem hh1 r1 k i hi
        obtain ⟨b2, o2, p2, tv2, lv2, cv2, hv2, hb2, _, hR2, hc2⟩ := Sl.ins_elem hh2 r2 k j hj
        injection hv1 with e1 _ e3
        injection hv2 with e4 _ e6
        subst e1 e3 e4 e6
        have hbw1 : b1 < wr.heap.size := Nat.lt_of_lt_of_le hb1 hS.fr.size
        have hbw2 : b2 < wr.heap.size := Nat.lt_of_lt_of_le hb2 hS.fr.size
        obtain ⟨ta, tc, rfl⟩ := hR1.1.shape
        obtain ⟨la, lc, rfl⟩ := hR1.2.1.shape
        obtain ⟨ca, cc, rfl⟩ := hR1.2.2.shape
        obtain ⟨ta2, tc2, rfl⟩ := hR2.1.shape
        obtain ⟨la2, lc2, rfl⟩ := hR2.2.1.shape
        obtain ⟨ca2, cc2, rfl⟩ := hR2.2.2.shape
        have hRow1 : wr.rangeAt b1 (o1 + k * 19) (insC i (.slice ta i.types.length tc) (.slice la i.labels.length lc) (.slice ca i.catches.length cc)) := fun r v hv => by
          rw [Nat.add_assoc, (hS.fr.cell hb1 (by simp) _).trans (hc1 r (List.getElem?_eq_some_iff.1 hv).1)]
          exact hv
        have hRowF : ∀ {w' : World}, Fr [] w w' → w'.rangeAt b2 (o2 + k * 19) (insC j (.slice ta2 j.types.length tc2) (.slice la2 j.labels.length lc2) (.slice ca2 j.catches.length cc2)) := fun hf r v hv => by
          rw [Nat.add_assoc, (hf.cell hb2 (by simp) _).trans (hc2 r (List.getElem?_eq_some_iff.1 hv).1)]
          exact hv
        have hRow2 := fun (_ : Unit) => hRowF hS.fr
        have hOne1 : ∀ v ∈ insC i (.slice ta i.types.length tc) (.slice la i.labels.length lc) (.slice ca i.catches.length cc), v.oneCell' = true := by simp [insC, Value.oneCell']
        have hOne2 : ∀ v ∈ insC j (.slice ta2 j.types.length tc2) (.slice la2 j.labels.length lc2) (.slice ca2 j.catches.length cc2), v.oneCell' = true := by simp [insC, Value.oneCell']
        have i1 : (k : Int) < (xs.length : Int) := by omega
        have i2 : (k : Int) < (ys.length : Int) := by omega
        clear hc1 hc2
        cases hp : decide (i = j) with
        | false =>
          have hne : decide (xs = ys) = false := by
            simp only [decide_eq_false_iff_not] at hp ⊢
            intro h
            rw [h, hj] at hi
            injection hi with hi
            exact hp hi.symm
          have Hne := Lib.hid hne
          have Hp := Lib.hid hp
          clear hp hne hi hj
          go_wp2_with first | (refine st_load (ty := 81) rfl rfl rfl und_ins rfl ?_; (repeat (apply Exists.intro)); refine ⟨?_, ?_, ?_, ?_⟩; (· (repeat (first | (with_reducible assumption) | (with_reducible apply St.alloc) | (with_reducible apply St.drew) | (with_reducible apply St.drewN) | (with_reducible apply St.alloc')))); (· (try simp only [World.size_alloc, World.size_setCell, size_drew, size_drewN]); first | (apply RowAt.elem; with_reducible exact hRow1) | (apply RowAt.elem; with_reducible exact hRow2 ()) | (apply RowAt.loc; ((try simp only [World.size_alloc, World.size_setCell, size_drew, size_drewN]); repeat (first | (exact Pick.here) | (with_reducible apply Pick.there))); done)); (· exact size_ins)) | (refine st_store (ty := 81) rfl rfl rfl rfl ?_; (repeat (apply Exists.intro)); refine ⟨?_, ?_, ?_, ?_, ?_, ?_⟩; (· (repeat (first | (with_reducible assumption) | (with_reducible apply St.alloc) | (with_reducible apply St.drew) | (with_reducible apply St.drewN) | (with_reducible apply St.alloc')))); (· (try simp only [World.size_alloc, World.size_setCell, size_drew, size_drewN]); ((try simp only [World.size_alloc, World.size_setCell, size_drew, size_drewN]); repeat (first | (exact Pick.here) | (with_reducible apply Pick.there)))); (· rfl); (· exact size_ins); (· first | exact hOne1 | exact hOne2); intro wN hS; (try clear hQ); have hQ := St.facts hS; simp only [Facts, Res.fact, List.cons_append, List.nil_append, true_and, and_true] at hQ; have hRow2 := fun (_ : Unit) => hRowF hS.fr) | (go_at_call 88; (refine (same_i _ i j _ _ _ _ _ _ (hS.ins hR1) (hS.ins hR2)).mono ?_); rintro e w2 ⟨rfl, hF2⟩; rw [Hp.out]; refine st_fr hF2 ?_; (repeat (apply Exists.intro)); refine ⟨?_, ?_⟩; (· (repeat (first | (with_reducible assumption) | (with_reducible apply St.alloc) | (with_reducible apply St.drew) | (with_reducible apply St.drewN) | (with_reducible apply St.alloc')))); (try simp only [World.size_alloc, World.size_setCell, size_drew, size_drewN]); intro hS; (try clear hQ); have hQ := St.facts hS; simp only [Facts, Res.fact, List.cons_append, List.nil_append, true_and, and_true] at hQ)
          go_ret
          exact ⟨by rw [Hne.out]; rfl, by (first | (with_reducible exact hS.fr) | (apply St.fr; (repeat (first | (with_reducible assumption) | (with_reducible apply St.alloc) | (with_reducible apply St.drew) | (with_reducible apply St.drewN) | (with_reducible apply St.alloc'))); done) | exact hS.fr)⟩
        | true =>
          have hij : i = j := by simpa using hp
          have hI2 : xs.take (k + 1) = ys.take (k + 1) := by
            rw [List.take_add_one, List.take_add_one, hI.out, hi, hj, hij]
          have HI2 := Lib.hid hI2
          have Hp := Lib.hid hp
          clear hp hij hI2 hi hj
          go_wp2_with first | (refine st_load (ty := 81) rfl rfl rfl und_ins rfl ?_; (repeat (apply Exists.intro)); refine ⟨?_, ?_, ?_, ?_⟩; (· (repeat (first | (with_reducible assumption) | (with_reducible apply St.alloc) | (with_reducible apply St.drew) | (with_reducible apply St.drewN) | (with_reducible apply St.alloc')))); (· (try simp only [World.size_alloc, World.size_setCell, size_drew, size_drewN]); first | (apply RowAt.elem; with_reducible exact hRow1) | (apply RowAt.elem; with_reducible exact hRow2 ()) | (apply RowAt.loc; ((try simp only [World.size_alloc, World.size_setCell, size_drew, size_drewN]); repeat (first | (exact Pick.here) | (with_reducible apply Pick.there))); done)); (· exact size_ins)) | (refine st_store (ty := 81) rfl rfl rfl rfl ?_; (repeat (apply Exists.intro)); refine ⟨?_, ?_, ?_, ?_, ?_, ?_⟩; (· (repeat (first | (with_reducible assumption) | (with_reducible apply St.alloc) | (with_reducible apply St.drew) | (with_reducible apply St.drewN) | (with_reducible apply St.alloc')))); (· (try simp only [World.size_alloc, World.size_setCell, size_drew, size_drewN]); ((try simp only [World.size_alloc, World.size_setCell, size_drew, size_drewN]); repeat (first | (exact Pick.here) | (with_reducible apply Pick.there)))); (· rfl); (· exact size_ins); (· first | exact hOne1 | exact hOne2); intro wN hS; (try clear hQ); have hQ := St.facts hS; simp only [Facts, Res.fact, List.cons_append, List.nil_append, true_and, and_true] at hQ; have hRow2 := fun (_ : Unit) => hRowF hS.fr) | (go_at_call 88; (refine (same_i _ i j _ _ _ _ _ _ (hS.ins hR1) (hS.ins hR2)).mono ?_); rintro e w2 ⟨rfl, hF2⟩; rw [Hp.out]; refine st_fr hF2 ?_; (repeat (apply Exists.intro)); refine ⟨?_, ?_⟩; (· (repeat (first | (with_reducible assumption) | (with_reducible apply St.alloc) | (with_reducible apply St.drew) | (with_reducible apply St.drewN) | (with_reducible apply St.alloc')))); (try simp only [World.size_alloc, World.size_setCell, size_drew, size_drewN]); intro hS; (try clear hQ); have hQ := St.facts hS; simp only [Facts, Res.fact, List.cons_append, List.nil_append, true_and, and_true] at hQ)
          go_roundw
          case rel =>
            refine ⟨_, _, _, _, _, ⟨k + 1, ?_, by omega, hS.sel .nil, HI2⟩, rfl, rfl, rfl, rfl, rfl⟩
            first | rfl | go_num | simp
          case measure => simp [intOf]; omega
      · obtain rfl : k = xs.length := by omega
        have he : decide (xs = ys) = true := by
          have := hI.out
          rw [List.take_length, hlen, List.take_length] at this
          simpa using this
        have He := Lib.hid he
        clear he hI
        go_wp2
        go_ret
        exact ⟨by rw [He.out]; rfl, hS.fr⟩
  · have q : ((((xs.length : Nat) : Int)) != ((ys.length : Nat) : Int)) = true := by simp; omega
    have hne : decide (xs = ys) = false := by
      simp only [decide_eq_false_iff_not]
      intro h
      exact hlen (by rw [h])
    rw [hne]
    go_enter Tryd.func87, Tryd.ntmps87
    go_wp2
    go_ret
    exact ⟨rfl, Fr.refl _ _⟩
theorem Same7_any (w : World) (va vb : Value) (xs ys : List InstrT) (ds es : List Value) (h1 : Sl [] w 19 va xs.length ds) (r1 : InssR [] w xs ds) (h2 : Sl [] w 19 vb ys.length es) (r2 : InssR [] w ys es) (hl : xs.length ≤ 1099511627776) (hl2 : ys.length ≤ 1099511627776) :
    Calls Tryd.prog 43 #[va, vb] w fun e w' => e = .returned (.bool (decide (xs = ys))) ∧ Fr [] w w' := by
  go_enter Tryd.func43, Tryd.ntmps43
  go_wp2_with (go_at_call 87; refine (equalF_any _ _ _ xs ys ds es h1 r1 h2 r2 hl hl2).mono ?_; rintro e w2 ⟨rfl, hF2⟩)
  go_ret
  exact ⟨rfl, hF2⟩
end Go.Proofs.YtokneepfknepaaaDoor
