/- The walk of the document's comparison of instructions (layer 7). The walk of the document's copy of instructions (layer 7). Calls of one whole number that look at it by comparisons alone: a small reckoner over the code of a function, and its proof: what it tells of one number holds of every number that compares alike. The walks of the document's answers (layers 5 and 7): what is an index, which numbers are opcodes, and their shapes. Made by tools/refsh2.py. The document's May (layer 7): the keys of its first chain of tests (UNDER WAY). The document's May (layer 7): the keys of its second chain of tests (UNDER WAY). The document's May (layer 7): the keys of its tests of a catch and of a block's type. The walk of layer 7: the shape of an opcode, named. -/
import Derived.Test.YtokneepfknepaaaGreatDoorG8
import Derived.Test.YtokneepfknepaaaGreatDoorG7
import Derived.Test.YtokneepfknepaaaGreatDoorG1
import Derived.Test.YtokneepfknepaaaGreatDoorG5
set_option linter.unusedSimpArgs false
set_option linter.unusedVariables false
namespace Go.Proofs.YtokneepfknepaaaGreatDoor
open Go.RowKit
set_option maxRecDepth 100000 in
set_option maxHeartbeats 3200000 in
theorem refOne_any (w : World) (i j : InstrT) (tv lv cv tv' lv' cv' : Value) (h : InsR [] w i tv lv cv) (h' : InsR [] w j tv' lv' cv') :
    Calls Tryz.prog 23 #[.agg (insC i tv lv cv).toArray, .agg (insC j tv' lv' cv').toArray] w fun e w' => e = .returned (.bool (decide (i = j))) ∧ Fr [] w w' := by
  have h0 := h
  have h0' := h'
  obtain ⟨ta, tc, rfl⟩ := h.1.shape
  obtain ⟨la, lc, rfl⟩ := h.2.1.shape
  obtain ⟨ca, cc, rfl⟩ := h.2.2.shape
  obtain ⟨ta', tc', rfl⟩ := h'.1.shape
  obtain ⟨la', lc', rfl⟩ := h'.2.1.shape
  obtain ⟨ca', cc', rfl⟩ := h'.2.2.shape
  have hbig : i.catches.length ≤ 9223372036854775807 := by
    obtain ⟨_, _, a', cap', _, h4, h5, _⟩ := h.2.2
    unfold maxLen at h5
    omega
  have hS := ((St.start [] w).alloc (insC i (.slice ta i.types.length tc) (.slice la i.labels.length lc) (.slice ca i.catches.length cc)) 44).alloc (insC j (.slice ta' j.types.length tc') (.slice la' j.labels.length lc') (.slice ca' j.catches.length cc')) 44
  simp only [World.size_alloc] at hS
  have l1 := hS.loc (.there .here)
  have l2 := hS.loc .here
  go_enter Tryz.func23, Tryz.ntmps23
  go_upto_region 1 with fail
  refine rk_region (T := tOne (diffs i j)) (vs := vsOne i j (.slice ta i.types.length tc) (.slice la i.labels.length lc) (.slice ca i.catches.length cc) (.slice ta' j.types.length tc') (.slice la' j.labels.length lc') (.slice ca' j.catches.length cc')) (bs := fun g => if g = 0 then w.heap.size else w.heap.size + 1) (env := [(2, .p 0 0), (3, .p 1 0)]) (t := 75) (v := .b ((diffs i j).any id)) (I := (· = _))
    (m := List.replicate 6 false ++ (List.replicate 70 true ++ List.replicate 30 false)) ?hT rfl ?henv ?hans ?hm ?ht ?k
  case hT => exact tOne_ok (fun r hr => l1.cell r) (fun r hr => l2.cell r) h.2.2.shape h'.2.2.shape
  case henv =>
    intro t v hv
    simp only [aGet] at hv
    split at hv
    · rename_i e
      subst e
      injection hv with hv
      subst hv
      exact ⟨by simp, rfl⟩
    · split at hv
      · rename_i e
        subst e
        injection hv with hv
        subst hv
        exact ⟨by simp, by simp [AV.val]⟩
      · cases hv
  case hans => 
    rw [show (diffs i j).any id = (_ || _ || _ || _ || _ || _ || _ || _ || _ || _) from by simp only [diffs, List.any_cons, List.any_nil, id, Bool.or_false, Bool.or_assoc]; rfl]
    exact one_ans _ _ _ _ _ _ _ _ _ _
  case hm => kernel_rfl
  case ht => simp
  case k =>
    intro f w' hw hf
    subst hw
    simp only [List.replicate, List.cons_append, List.nil_append, mixL, Exit.then, Nat.reduceAdd]
    have hf' : f 75 = .bool ((diffs i j).any id) := hf
    rw [hf']
    clear hf hf'
    have hF0 := hS.fr
    have e1 := l1.cell 18
    have e2 := l1.cell 11
    have e3 := l1.cell 10
    have d1 := l2.cell 18
    have d2 := l2.cell 11
    have d3 := l2.cell 10
    simp only [insC, List.getElem?_cons_succ, List.getElem?_cons_zero] at e1 e2 e3 d1 d2 d3
    have z1 := l1.lt
    have z2 := l2.lt
    clear l1 l2 hS
    unfold insC
    simp only [insC] at z1 z2 hF0
    generalize ((w.alloc (Obj.cells _ _)).alloc (Obj.cells _ _)) = W at *
    cases hd : (diffs i j).any id with
    | true =>
      have hne : decide (i = j) = false := decide_eq_false (fun h => by subst h; simp [diffs] at hd)
      have Hne := Lib.hid hne
      clear hne hd
      go_wp2
      go_ret
      exact ⟨by rw [Hne.out]; rfl, hF0⟩
    | false =>
      have hlen : i.catches.length = j.catches.length := by
        simp [diffs] at hd
        omega
      have hE : i.op = j.op ∧ i.x = j.x ∧ i.y = j.y ∧ i.u = j.u ∧ i.heap = j.heap ∧ i.heap2 = j.heap2 ∧ i.null = j.null ∧ i.null2 = j.null2 ∧ i.block = j.block := by
        simp [diffs] at hd
        refine ⟨by simp_all, by simp_all, by simp_all, by omega, by simp_all, by simp_all, by simp_all, by simp_all, by simp_all⟩
      have HE := Lib.hid hE
      have Hlen := Lib.hid hlen
      clear hlen hE hd
      have hh1 := h.2.2.fr hF0 (fun _ _ h => h)
      have hh2 := h'.2.2.fr hF0 (fun _ _ h => h)
      go_wp2
      go_loopw [5] (fun n wr => ∃ (k : Nat), n = .int .i64 k ∧ k ≤ i.catches.length ∧ Fr [] W wr ∧ Hid (i.catches.take k = j.catches.take k)) (fun n _ => i.catches.length - (intOf n).toNat)
      case atStart => exact ⟨0, rfl, by omega, Fr.refl _ _, Lib.hid rfl⟩
      case round =>
        obtain ⟨k, rfl, hi, hF, ht⟩ := hrel
        have q1 := (hF.cell z1 (by simp) 18).trans e1
        have q2 := (hF.cell z2 (by simp) 18).trans d1
        by_cases hlt : k < i.catches.length
        · have hlt2 : k < j.catches.length := by have := Hlen.out; omega
          obtain ⟨x, hx⟩ : ∃ t, i.catches[k]? = some t := ⟨i.catches[k], by simp [hlt]⟩
          obtain ⟨y, hy⟩ : ∃ t, j.catches[k]? = some t := ⟨j.catches[k], by simp [hlt2]⟩
          obtain ⟨b1, o1, p1, hv1, hb1, _, hd1⟩ := Sl.elem hh1 (fun _ => rfl) k x hx
          obtain ⟨b2, o2, p2, hv2, hb2, _, hd2⟩ := Sl.elem hh2 (fun _ => rfl) k y hy
          injection hv1 with ea1 _ ea2
          injection hv2 with eb1 _ eb2
          subst ea1 ea2 eb1 eb2
          have f10 := (hF.cell hb1 (by simp) _).trans (hd1 0 (by decide))
          have f11 := (hF.cell hb1 (by simp) _).trans (hd1 1 (by decide))
          have f12 := (hF.cell hb1 (by simp) _).trans (hd1 2 (by decide))
          have f20 := (hF.cell hb2 (by simp) _).trans (hd2 0 (by decide))
          have f21 := (hF.cell hb2 (by simp) _).trans (hd2 1 (by decide))
          have f22 := (hF.cell hb2 (by simp) _).trans (hd2 2 (by decide))
          clear hd1 hd2
          obtain ⟨k1, t1, l1⟩ := x
          obtain ⟨k2, t2, l2⟩ := y
          simp only [Nat.add_zero, ← Nat.add_assoc, catchC, List.getElem?_cons_zero, List.getElem?_cons_succ] at f10 f11 f12 f20 f21 f22
          have i1 : (k : Int) < (i.catches.length : Int) := by omega
          have i2 : (k : Int) < (j.catches.length : Int) := by omega
          have Hx := Lib.hid hx
          have Hy := Lib.hid hy
          clear hx hy
          rcases beq_i (a := k1) (b := k2) with ⟨g0, q0⟩ | ⟨g0, q0⟩
          rotate_left
          · have hne : decide (i = j) = false := decide_eq_false (fun e => by subst e; have := Hx.out.symm.trans Hy.out; injections; contradiction)
            have Hne := Lib.hid hne
            clear hne q0
            go_wp2_with fail
            go_quiet (fail)
            go_wp2
            go_ret
            exact ⟨by rw [Hne.out]; rfl, hF0.trans (by repeat (first | (with_reducible exact Fr.refl _ _) | (with_reducible assumption) | (with_reducible apply Fr.alloc) | (with_reducible apply Fr.drew) | (with_reducible apply Fr.drewN) | (with_reducible refine Fr.setCell ?_ (by first | (left; simp; done) | (right; simp; done) | (right; simp; omega)) _)))⟩
          rcases beq_i (a := t1) (b := t2) with ⟨g1, q3⟩ | ⟨g1, q3⟩
          rotate_left
          · have hne : decide (i = j) = false := decide_eq_false (fun e => by subst e; have := Hx.out.symm.trans Hy.out; injections; contradiction)
            have Hne := Lib.hid hne
            clear hne q0 q3
            go_wp2_with fail
            go_quiet (fail)
            go_wp2
            go_ret
            exact ⟨by rw [Hne.out]; rfl, hF0.trans (by repeat (first | (with_reducible exact Fr.refl _ _) | (with_reducible assumption) | (with_reducible apply Fr.alloc) | (with_reducible apply Fr.drew) | (with_reducible apply Fr.drewN) | (with_reducible refine Fr.setCell ?_ (by first | (left; simp; done) | (right; simp; done) | (right; simp; omega)) _)))⟩
          rcases beq_i (a := l1) (b := l2) with ⟨g2, q4⟩ | ⟨g2, q4⟩
          rotate_left
          · have hne : decide (i = j) = false := decide_eq_false (fun e => by subst e; have := Hx.out.symm.trans Hy.out; injections; contradiction)
            have Hne := Lib.hid hne
            clear hne q0 q3 q4
            go_wp2_with fail
            go_quiet (fail)
            go_wp2
            go_ret
            exact ⟨by rw [Hne.out]; rfl, hF0.trans (by repeat (first | (with_reducible exact Fr.refl _ _) | (with_reducible assumption) | (with_reducible apply Fr.alloc) | (with_reducible apply Fr.drew) | (with_reducible apply Fr.drewN) | (with_reducible refine Fr.setCell ?_ (by first | (left; simp; done) | (right; simp; done) | (right; simp; omega)) _)))⟩
          have hn := take_eq_at ht.out Hx.out Hy.out (by subst q0 q3 q4; rfl)
          have Hn := Lib.hid hn
          clear hn q0 q3 q4
          go_wp2_with fail
          go_quiet (fail)
          go_wp2
          go_roundw
          case rel => exact ⟨k + 1, by go_num, by omega, by repeat (first | (with_reducible exact Fr.refl _ _) | (with_reducible assumption) | (with_reducible apply Fr.alloc) | (with_reducible apply Fr.drew) | (with_reducible apply Fr.drewN) | (with_reducible refine Fr.setCell ?_ (by first | (left; simp; done) | (right; simp; done) | (right; simp; omega)) _)), Hn⟩
          case measure => simp [intOf]; omega
        · have hk : k = i.catches.length := by omega
          have hc : i.catches = j.catches := by
            have := ht.out
            rw [List.take_of_length_le (by omega), List.take_of_length_le (by have := Hlen.out; omega)] at this
            exact this
          have Hc := Lib.hid hc
          clear hc
          have i1 : ¬ (k : Int) < (i.catches.length : Int) := by omega
          have q3 := (hF.cell z1 (by simp) 11).trans e2
          have q4 := (hF.cell z2 (by simp) 11).trans d2
          have q5 := (hF.cell z1 (by simp) 10).trans e3
          have q6 := (hF.cell z2 (by simp) 10).trans d3
          by_cases hl : i.labels = j.labels
          · have Hl := Lib.hid (decide_eq_true hl)
            have hres : decide (i.types = j.types) = decide (i = j) := by
              rw [decide_eq_decide]
              obtain ⟨g1, g2, g3, g4, g5, g6, g7, g8, g9⟩ := HE.out
              have g10 := Hc.out
              constructor
              · intro g11
                cases i; cases j
                simp_all
              · intro e; rw [e]
            have Hres := Lib.hid hres
            clear hl hres
            go_wp2_with first | (go_at_call 63; (with_reducible refine (refInts_any _ _ _ i.labels j.labels ?_ ?_).mono ?_); (· exact h0.2.1.fr (hF0.trans hF) (by simp)); (· exact h0'.2.1.fr (hF0.trans hF) (by simp)); rintro e w3 ⟨rfl, hF3⟩; rw [Hl.out]; have q7 := (hF3.cell (Nat.lt_of_lt_of_le z1 hF.size) (by simp) 10).trans q5; have q8 := (hF3.cell (Nat.lt_of_lt_of_le z2 hF.size) (by simp) 10).trans q6) | (go_at_call 64; (with_reducible refine (refSameVals_any _ _ _ i.types j.types ?_ ?_).mono ?_); (· exact h0.1.fr ((hF0.trans hF).trans hF3) (by simp)); (· exact h0'.1.fr ((hF0.trans hF).trans hF3) (by simp)); rintro e w4 ⟨rfl, hF4⟩; rw [Hres.out])
            go_ret
            exact ⟨rfl, ((hF0.trans hF).trans hF3).trans hF4⟩
          · have Hl := Lib.hid (decide_eq_false hl)
            have hne : decide (i = j) = false := decide_eq_false (fun e => hl (by rw [e]))
            have Hne := Lib.hid hne
            clear hl hne
            go_wp2_with first | (go_at_call 63; (with_reducible refine (refInts_any _ _ _ i.labels j.labels ?_ ?_).mono ?_); (· exact h0.2.1.fr (hF0.trans hF) (by simp)); (· exact h0'.2.1.fr (hF0.trans hF) (by simp)); rintro e w3 ⟨rfl, hF3⟩; rw [Hl.out])
            go_ret
            exact ⟨by rw [Hne.out]; rfl, (hF0.trans hF).trans hF3⟩
set_option maxRecDepth 100000 in
set_option maxHeartbeats 3200000 in
theorem refSame_any (w : World) (a b : Value) (xs ys : List InstrT) (ds es : List Value) (h1 : Sl [] w 19 a xs.length ds) (r1 : InssR [] w xs ds) (h2 : Sl [] w 19 b ys.length es) (r2 : InssR [] w ys es) (hl : xs.length ≤ 1099511627776) :
    Calls Tryz.prog 10 #[a, b] w fun e w' => e = .returned (.bool (decide (xs = ys))) ∧ Fr [] w w' := by
  have hh1 := h1
  have hh2 := h2
  obtain ⟨a1, c1, rfl⟩ := h1.shape
  obtain ⟨a2, c2, rfl⟩ := h2.shape
  by_cases hlen : xs.length = ys.length
  · have gl : (((xs.length : Nat) : Int) != ((ys.length : Nat) : Int)) = false := by simp; omega
    have Hlen := Lib.hid hlen
    clear hlen
    go_enter Tryz.func10, Tryz.ntmps10
    go_wp2
    go_loopw [5] (fun n wr => ∃ (k : Nat), n = .int .i64 k ∧ k ≤ xs.length ∧ Fr [] w wr ∧ Hid (xs.take k = ys.take k)) (fun n _ => xs.length - (intOf n).toNat)
    case atStart => exact ⟨0, rfl, by omega, Fr.refl _ _, Lib.hid rfl⟩
    case round =>
      obtain ⟨k, rfl, hk, hF, hI⟩ := hrel
      by_cases hlt : k < xs.length
      · have hlt2 : k < ys.length := by have := Hlen.out; omega
        obtain ⟨i, hi⟩ : ∃ t, xs[k]? = some t := ⟨xs[k], by simp [hlt]⟩
        obtain ⟨j, hj⟩ : ∃ t, ys[k]? = some t := ⟨ys[k], by simp [hlt2]⟩
        obtain ⟨b1, o1, p1, tv1, lv1, cv1, hv1, hb1, _, hR1, hc1⟩ := Sl.ins_elem hh1 r1 k i hi
        obtain ⟨b2, o2, p2, tv2, lv2, cv2, hv2, hb2, _, hR2, hc2⟩ := Sl.ins_elem hh2 r2 k j hj
        injection hv1 with e1 _ e3
        injection hv2 with e4 _ e6
        subst e1 e3 e4 e6
        obtain ⟨ta, tc, rfl⟩ := hR1.1.shape
        obtain ⟨la, lc, rfl⟩ := hR1.2.1.shape
        obtain ⟨ca, cc, rfl⟩ := hR1.2.2.shape
        obtain ⟨ta2, tc2, rfl⟩ := hR2.1.shape
        obtain ⟨la2, lc2, rfl⟩ := hR2.2.1.shape
        obtain ⟨ca2, cc2, rfl⟩ := hR2.2.2.shape
        have hRow1 : ∀ w', Fr [] w w' → w'.rangeAt b1 (o1 + k * 19) (insC i (.slice ta i.types.length tc) (.slice la i.labels.length lc) (.slice ca i.catches.length cc)) := fun w' hf r v hv => by
          rw [Nat.add_assoc, (hf.cell hb1 (by simp) _).trans (hc1 r (List.getElem?_eq_some_iff.1 hv).1)]
          exact hv
        have hRow2 : ∀ w', Fr [] w w' → w'.rangeAt b2 (o2 + k * 19) (insC j (.slice ta2 j.types.length tc2) (.slice la2 j.labels.length lc2) (.slice ca2 j.catches.length cc2)) := fun w' hf r v hv => by
          rw [Nat.add_assoc, (hf.cell hb2 (by simp) _).trans (hc2 r (List.getElem?_eq_some_iff.1 hv).1)]
          exact hv
        have i1 : (k : Int) < (xs.length : Int) := by omega
        have i2 : (k : Int) < (ys.length : Int) := by omega
        clear hc1 hc2
        cases hp : decide (i = j) with
        | false =>
          have hne : decide (xs = ys) = false := by
            simp only [decide_eq_false_iff_not] at hp ⊢
            intro h
            rw [h, hj] at hi
            injection hi with hi
            exact hp hi.symm
          have Hne := Lib.hid hne
          have Hp := Lib.hid hp
          clear hp hne hi hj
          go_wp2_with fail
          refine wp_region_held_drew (S := fun w' => w'.rangeAt b1 (o1 + k * 19) (insC i (.slice ta i.types.length tc) (.slice la i.labels.length lc) (.slice ca i.catches.length cc)) ∧ w'.rangeAt b2 (o2 + k * 19) (insC j (.slice ta2 j.types.length tc2) (.slice la2 j.labels.length lc2) (.slice ca2 j.catches.length cc2))) (by kernel_rfl) ⟨hRow1 _ (hF.drew), hRow2 _ (hF.drew)⟩ (fun hr => ?_)
          refine wpAnyH_take (i := 0) (v := .slice (some ⟨b1, o1, none⟩) xs.length c1) rfl (by kernel_rfl) (by kernel_rfl) (by kernel_rfl) (fun _ _ _ h => h) (Or.inl ⟨by rfl, fun _ _ => by go_simp⟩) hr ?_
          simp only [Act.put, List.setIfInBounds_toArray, List.set_cons_zero, List.set_cons_succ]
          refine wpAnyH_take (i := 1) (v := .int .i64 k) rfl (by kernel_rfl) (by kernel_rfl) (by kernel_rfl) (fun _ _ _ h => h) (Or.inl ⟨by rfl, fun _ _ => by go_simp⟩) hr ?_
          simp only [Act.put, List.setIfInBounds_toArray, List.set_cons_zero, List.set_cons_succ]
          refine wpAnyH_take (i := 2) (v := .pointer (some ⟨b1, o1 + k * 19, none⟩)) rfl (by kernel_rfl) (by kernel_rfl) (by kernel_rfl) (fun _ _ _ h => h) (Or.inl ⟨by rfl, fun _ _ => by go_simp⟩) hr ?_
          simp only [Act.put, List.setIfInBounds_toArray, List.set_cons_zero, List.set_cons_succ]
          refine wpAnyH_take (i := 3) (v := .agg (List.toArray (insC i (.slice ta i.types.length tc) (.slice la i.labels.length lc) (.slice ca i.catches.length cc)))) rfl (by kernel_rfl) (by kernel_rfl) (by kernel_rfl) (fun _ _ _ h => h) (yieldsIf_load_mid rfl 44 _ rfl b1 (o1 + k * 19) rfl (insC i (.slice ta i.types.length tc) (.slice la i.labels.length lc) (.slice ca i.catches.length cc)) _ (fun _ h => h.1) und_ins rfl size_ins) hr ?_
          simp only [Act.put, List.setIfInBounds_toArray, List.set_cons_zero, List.set_cons_succ]
          refine wpAnyH_take (i := 4) (v := .slice (some ⟨b2, o2, none⟩) ys.length c2) rfl (by kernel_rfl) (by kernel_rfl) (by kernel_rfl) (fun _ _ _ h => h) (Or.inl ⟨by rfl, fun _ _ => by go_simp⟩) hr ?_
          simp only [Act.put, List.setIfInBounds_toArray, List.set_cons_zero, List.set_cons_succ]
          refine wpAnyH_take (i := 5) (v := .int .i64 k) rfl (by kernel_rfl) (by kernel_rfl) (by kernel_rfl) (fun _ _ _ h => h) (Or.inl ⟨by rfl, fun _ _ => by go_simp⟩) hr ?_
          simp only [Act.put, List.setIfInBounds_toArray, List.set_cons_zero, List.set_cons_succ]
          refine wpAnyH_take (i := 6) (v := .pointer (some ⟨b2, o2 + k * 19, none⟩)) rfl (by kernel_rfl) (by kernel_rfl) (by kernel_rfl) (fun _ _ _ h => h) (Or.inl ⟨by rfl, fun _ _ => by go_simp⟩) hr ?_
          simp only [Act.put, List.setIfInBounds_toArray, List.set_cons_zero, List.set_cons_succ]
          refine wpAnyH_take (i := 7) (v := .agg (List.toArray (insC j (.slice ta2 j.types.length tc2) (.slice la2 j.labels.length lc2) (.slice ca2 j.catches.length cc2)))) rfl (by kernel_rfl) (by kernel_rfl) (by kernel_rfl) (fun _ _ _ h => h) (yieldsIf_load_mid rfl 44 _ rfl b2 (o2 + k * 19) rfl (insC j (.slice ta2 j.types.length tc2) (.slice la2 j.labels.length lc2) (.slice ca2 j.catches.length cc2)) _ (fun _ h => h.2) und_ins rfl size_ins) hr ?_
          simp only [Act.put, List.setIfInBounds_toArray, List.set_cons_zero, List.set_cons_succ]
          refine wpAnyH_ready (rs := [8]) (by kernel_rfl) (by simp) ?_; refine AllReadyH.cons rfl (fun K hK => ?_) AllReadyH.nil; rw [if_pos (by rfl)]; go_simp
          refine (refOne_any _ i j _ _ _ _ _ _ (hR1.fr hF.drew (by simp)) (hR2.fr hF.drew (by simp))).mono ?_
          rintro e w1 ⟨rfl, hF1⟩
          have hFN := hF.drew.trans hF1
          refine hK _ _ ⟨hRow1 _ hFN, hRow2 _ hFN⟩ (fun hr => ?_)
          rw [Hp.out]
          refine wpAnyH_take (i := 9) (v := .bool true) rfl (by kernel_rfl) (by kernel_rfl) (by kernel_rfl) (fun _ _ _ h => h) (Or.inl ⟨by rfl, fun _ _ => by go_simp⟩) hr ?_
          simp only [Act.put, List.setIfInBounds_toArray, List.set_cons_zero, List.set_cons_succ]
          refine wpAnyH_done (by kernel_rfl) ?_ _
          (try simp only [Act.put, List.setIfInBounds_toArray, List.set_cons_zero, List.set_cons_succ])
          go_wp2
          go_ret
          exact ⟨by rw [Hne.out]; rfl, hFN⟩
        | true =>
          have hij : i = j := by simpa using hp
          have hI2 : xs.take (k + 1) = ys.take (k + 1) := by
            rw [List.take_add_one, List.take_add_one, hI.out, hi, hj, hij]
          have HI2 := Lib.hid hI2
          have Hp := Lib.hid hp
          clear hp hij hI2 hi hj
          go_wp2_with fail
          refine wp_region_held_drew (S := fun w' => w'.rangeAt b1 (o1 + k * 19) (insC i (.slice ta i.types.length tc) (.slice la i.labels.length lc) (.slice ca i.catches.length cc)) ∧ w'.rangeAt b2 (o2 + k * 19) (insC j (.slice ta2 j.types.length tc2) (.slice la2 j.labels.length lc2) (.slice ca2 j.catches.length cc2))) (by kernel_rfl) ⟨hRow1 _ (hF.drew), hRow2 _ (hF.drew)⟩ (fun hr => ?_)
          refine wpAnyH_take (i := 0) (v := .slice (some ⟨b1, o1, none⟩) xs.length c1) rfl (by kernel_rfl) (by kernel_rfl) (by kernel_rfl) (fun _ _ _ h => h) (Or.inl ⟨by rfl, fun _ _ => by go_simp⟩) hr ?_
          simp only [Act.put, List.setIfInBounds_toArray, List.set_cons_zero, List.set_cons_succ]
          refine wpAnyH_take (i := 1) (v := .int .i64 k) rfl (by kernel_rfl) (by kernel_rfl) (by kernel_rfl) (fun _ _ _ h => h) (Or.inl ⟨by rfl, fun _ _ => by go_simp⟩) hr ?_
          simp only [Act.put, List.setIfInBounds_toArray, List.set_cons_zero, List.set_cons_succ]
          refine wpAnyH_take (i := 2) (v := .pointer (some ⟨b1, o1 + k * 19, none⟩)) rfl (by kernel_rfl) (by kernel_rfl) (by kernel_rfl) (fun _ _ _ h => h) (Or.inl ⟨by rfl, fun _ _ => by go_simp⟩) hr ?_
          simp only [Act.put, List.setIfInBounds_toArray, List.set_cons_zero, List.set_cons_succ]
          refine wpAnyH_take (i := 3) (v := .agg (List.toArray (insC i (.slice ta i.types.length tc) (.slice la i.labels.length lc) (.slice ca i.catches.length cc)))) rfl (by kernel_rfl) (by kernel_rfl) (by kernel_rfl) (fun _ _ _ h => h) (yieldsIf_load_mid rfl 44 _ rfl b1 (o1 + k * 19) rfl (insC i (.slice ta i.types.length tc) (.slice la i.labels.length lc) (.slice ca i.catches.length cc)) _ (fun _ h => h.1) und_ins rfl size_ins) hr ?_
          simp only [Act.put, List.setIfInBounds_toArray, List.set_cons_zero, List.set_cons_succ]
          refine wpAnyH_take (i := 4) (v := .slice (some ⟨b2, o2, none⟩) ys.length c2) rfl (by kernel_rfl) (by kernel_rfl) (by kernel_rfl) (fun _ _ _ h => h) (Or.inl ⟨by rfl, fun _ _ => by go_simp⟩) hr ?_
          simp only [Act.put, List.setIfInBounds_toArray, List.set_cons_zero, List.set_cons_succ]
          refine wpAnyH_take (i := 5) (v := .int .i64 k) rfl (by kernel_rfl) (by kernel_rfl) (by kernel_rfl) (fun _ _ _ h => h) (Or.inl ⟨by rfl, fun _ _ => by go_simp⟩) hr ?_
          simp only [Act.put, List.setIfInBounds_toArray, List.set_cons_zero, List.set_cons_succ]
          refine wpAnyH_take (i := 6) (v := .pointer (some ⟨b2, o2 + k * 19, none⟩)) rfl (by kernel_rfl) (by kernel_rfl) (by kernel_rfl) (fun _ _ _ h => h) (Or.inl ⟨by rfl, fun _ _ => by go_simp⟩) hr ?_
          simp only [Act.put, List.setIfInBounds_toArray, List.set_cons_zero, List.set_cons_succ]
          refine wpAnyH_take (i := 7) (v := .agg (List.toArray (insC j (.slice ta2 j.types.length tc2) (.slice la2 j.labels.length lc2) (.slice ca2 j.catches.length cc2)))) rfl (by kernel_rfl) (by kernel_rfl) (by kernel_rfl) (fun _ _ _ h => h) (yieldsIf_load_mid rfl 44 _ rfl b2 (o2 + k * 19) rfl (insC j (.slice ta2 j.types.length tc2) (.slice la2 j.labels.length lc2) (.slice ca2 j.catches.length cc2)) _ (fun _ h => h.2) und_ins rfl size_ins) hr ?_
          simp only [Act.put, List.setIfInBounds_toArray, List.set_cons_zero, List.set_cons_succ]
          refine wpAnyH_ready (rs := [8]) (by kernel_rfl) (by simp) ?_; refine AllReadyH.cons rfl (fun K hK => ?_) AllReadyH.nil; rw [if_pos (by rfl)]; go_simp
          refine (refOne_any _ i j _ _ _ _ _ _ (hR1.fr hF.drew (by simp)) (hR2.fr hF.drew (by simp))).mono ?_
          rintro e w1 ⟨rfl, hF1⟩
          have hFN := hF.drew.trans hF1
          refine hK _ _ ⟨hRow1 _ hFN, hRow2 _ hFN⟩ (fun hr => ?_)
          rw [Hp.out]
          refine wpAnyH_take (i := 9) (v := .bool false) rfl (by kernel_rfl) (by kernel_rfl) (by kernel_rfl) (fun _ _ _ h => h) (Or.inl ⟨by rfl, fun _ _ => by go_simp⟩) hr ?_
          simp only [Act.put, List.setIfInBounds_toArray, List.set_cons_zero, List.set_cons_succ]
          refine wpAnyH_done (by kernel_rfl) ?_ _
          (try simp only [Act.put, List.setIfInBounds_toArray, List.set_cons_zero, List.set_cons_succ])
          go_wp2
          go_roundw
          case rel => exact ⟨k + 1, by go_num, by omega, hFN, HI2⟩
          case measure => simp [intOf]; omega
      · obtain rfl : k = xs.length := by omega
        have he : decide (xs = ys) = true := by
          have := hI.out
          rw [List.take_length, Hlen.out, List.take_length] at this
          simpa using this
        have He := Lib.hid he
        clear he hI
        go_wp2
        go_ret
        exact ⟨by rw [He.out]; rfl, hF⟩
  · have gl : (((xs.length : Nat) : Int) != ((ys.length : Nat) : Int)) = true := by simp; omega
    have he : decide (xs = ys) = false := decide_eq_false (fun h => hlen (by rw [h]))
    have He := Lib.hid he
    clear he hlen
    go_enter Tryz.func10, Tryz.ntmps10
    go_wp2
    go_ret
    exact ⟨by rw [He.out]; rfl, Fr.refl _ _⟩
end Go.Proofs.YtokneepfknepaaaGreatDoor

set_option linter.unusedSimpArgs false
set_option linter.unusedVariables false
namespace Go.Proofs.YtokneepfknepaaaGreatDoor
open Go.RowKit
theorem St.slM {w0 w : World} {G : List Res} (h : St [] w0 w G) {e : TypeId} {k n : Nat} {v : Value} {xs : List Value} (hr : Res.own e k v n xs ∈ G) : Sl [] w k v n xs :=
  Own.sl (S' := []) (show Own [] w e k v n xs from h.all _ hr) (by simp)
theorem InssD.toS {w0 w : World} {D G : List Res} (h : St [] w0 w G) (hD : ∀ r, r ∈ D → r ∈ G) : ∀ {is : List InstrT} {cs : List Value}, InssD D is cs → InssR [] w is cs
  | [], _, k => k
  | _ :: _, _, ⟨tv, lv, cv, rest, e, h1, h2⟩ =>
    ⟨tv, lv, cv, rest, e, ⟨h.slM (e := 39) (hD _ (h1 _ (by simp [insG]))), h.slM (e := 3) (hD _ (h1 _ (by simp [insG]))), h.slM (e := 67) (hD _ (h1 _ (by simp [insG])))⟩, InssD.toS h hD h2⟩
theorem app0_val {w : World} {ops : Array Oper} {rest : List Oper} {o : Oper} {a : Act} {Q : Exit → Act → World → Prop} {s x : Operand} {v xv : Value} (hgd : o.guard = none)
    (ho : o.op = .call { callee := .builtin .append, args := #[s, x], argTypes := #[35, 35] }) (hs : a.eval s = v) (hx : a.eval x = xv)
    (h : ∃ S w0 G m news, St S w0 w (.own 39 4 v 0 [] :: G) ∧ SrcT 39 4 G w xv m news ∧ m ≤ 549755813888 ∧
      ∀ v' w', St S w0 w' (.own 39 4 v' m news :: G) → wpList Tryz.prog ops Q rest (a.put o.dst v') w') :
    wpList Tryz.prog ops Q (o :: rest) a w := by
  obtain ⟨S, w0, G, m, news, hst, hsrc, hb, h⟩ := h
  have h2 : SrcT 39 4 (.own 39 4 v 0 [] :: G) w xv m news := by
    cases hsrc with
    | own p => exact .own (.there p)
    | lit p a b => exact .lit (.there p) a b
    | arg hs => exact .arg hs
  obtain ⟨i0, hi, hz0, hz1, hz2⟩ := info_parts info_val
  exact st_appT hgd ho hs hx und_vals und_vals hi hz0 hz1 hz2 rfl (by decide) (by decide) ⟨S, w0, _, G, 0, [], m, news, hst, .own .here, h2, by omega, fun v' w' hs => h v' w' (by simpa using hs)⟩
theorem app0_int {w : World} {ops : Array Oper} {rest : List Oper} {o : Oper} {a : Act} {Q : Exit → Act → World → Prop} {s x : Operand} {v xv : Value} (hgd : o.guard = none)
    (ho : o.op = .call { callee := .builtin .append, args := #[s, x], argTypes := #[36, 36] }) (hs : a.eval s = v) (hx : a.eval x = xv)
    (h : ∃ S w0 G m news, St S w0 w (.own 3 1 v 0 [] :: G) ∧ SrcT 3 1 G w xv m news ∧ m ≤ 549755813888 ∧
      ∀ v' w', St S w0 w' (.own 3 1 v' m news :: G) → wpList Tryz.prog ops Q rest (a.put o.dst v') w') :
    wpList Tryz.prog ops Q (o :: rest) a w := by
  obtain ⟨S, w0, G, m, news, hst, hsrc, hb, h⟩ := h
  have h2 : SrcT 3 1 (.own 3 1 v 0 [] :: G) w xv m news := by
    cases hsrc with
    | own p => exact .own (.there p)
    | lit p a b => exact .lit (.there p) a b
    | arg hs => exact .arg hs
  obtain ⟨i0, hi, hz0, hz1, hz2⟩ := info_parts info_int
  exact st_appT hgd ho hs hx und_ints und_ints hi hz0 hz1 hz2 rfl (by decide) (by decide) ⟨S, w0, _, G, 0, [], m, news, hst, .own .here, h2, by omega, fun v' w' hs => h v' w' (by simpa using hs)⟩
theorem app0_catch {w : World} {ops : Array Oper} {rest : List Oper} {o : Oper} {a : Act} {Q : Exit → Act → World → Prop} {s x : Operand} {v xv : Value} (hgd : o.guard = none)
    (ho : o.op = .call { callee := .builtin .append, args := #[s, x], argTypes := #[42, 42] }) (hs : a.eval s = v) (hx : a.eval x = xv)
    (h : ∃ S w0 G m news, St S w0 w (.own 67 3 v 0 [] :: G) ∧ SrcT 67 3 G w xv m news ∧ m ≤ 549755813888 ∧
      ∀ v' w', St S w0 w' (.own 67 3 v' m news :: G) → wpList Tryz.prog ops Q rest (a.put o.dst v') w') :
    wpList Tryz.prog ops Q (o :: rest) a w := by
  obtain ⟨S, w0, G, m, news, hst, hsrc, hb, h⟩ := h
  have h2 : SrcT 67 3 (.own 67 3 v 0 [] :: G) w xv m news := by
    cases hsrc with
    | own p => exact .own (.there p)
    | lit p a b => exact .lit (.there p) a b
    | arg hs => exact .arg hs
  obtain ⟨i0, hi, hz0, hz1, hz2⟩ := info_parts info_catch
  exact st_appT hgd ho hs hx und_catches und_catches hi hz0 hz1 hz2 rfl (by decide) (by decide) ⟨S, w0, _, G, 0, [], m, news, hst, .own .here, h2, by omega, fun v' w' hs => h v' w' (by simpa using hs)⟩
set_option maxRecDepth 100000 in
set_option maxHeartbeats 3200000 in
theorem refCopy_any (w : World) (v : Value) (is : List InstrT) (ds : List Value) (hv : Sl [] w 19 v is.length ds) (hs : InssR [] w is ds) (hb : is.length ≤ 65536) (hsm : ∀ i, i ∈ is → i.types.length ≤ 65536 ∧ i.labels.length ≤ 65536 ∧ i.catches.length ≤ 65536) :
    Calls Tryz.prog 7 #[v] w fun e w' => ∃ v' cs, e = .returned v' ∧ Fr [] w w' ∧ Sl [] w' 19 v' is.length cs ∧ InssR [] w' is cs := by
  have hh := hv
  obtain ⟨a0, c0, rfl⟩ := hv.shape
  go_enter Tryz.func7, Tryz.ntmps7
  go_wp2
  go_loopw [3, 4] (fun v n wr => ∃ (k : Nat) (cs : List Value) (D : List Res), n = .int .i64 k ∧ k ≤ is.length ∧ St [] w wr (.own 44 19 v k cs :: D) ∧ InssD D (is.take k) cs) (fun _ n _ => is.length - (intOf n).toNat)
  case atStart => exact ⟨0, [], [], rfl, by omega, (St.start [] w).dstT (.nil rfl), rfl⟩
  case round =>
    obtain ⟨k, cs, D, rfl, hk, hS, hD⟩ := hrel
    by_cases hlt : k < is.length
    · obtain ⟨i, hi⟩ : ∃ t, is[k]? = some t := ⟨is[k], by simp [hlt]⟩
      obtain ⟨b, off, cap2, tv, lv, cv, hv, hb0, hnS, hR, hc⟩ := Sl.ins_elem hh hs k i hi
      injection hv with hv1 hv2 hv3
      subst hv1 hv3
      have hR2 := hR
      obtain ⟨ta, tc, rfl⟩ := hR.1.shape
      obtain ⟨la, lc, rfl⟩ := hR.2.1.shape
      obtain ⟨ca, cc, rfl⟩ := hR.2.2.shape
      have hRow : wr.rangeAt b (off + k * 19) (insC i (.slice ta i.types.length tc) (.slice la i.labels.length lc) (.slice ca i.catches.length cc)) := fun r v hv => by
        rw [Nat.add_assoc, (hS.fr.cell hb0 (by simp) _).trans (hc r (List.getElem?_eq_some_iff.1 hv).1)]
        exact hv
      have hOne : ∀ v ∈ insC i (.slice ta i.types.length tc) (.slice la i.labels.length lc) (.slice ca i.catches.length cc), v.oneCell' = true := by simp [insC, Value.oneCell']
      have i1 : (k : Int) < (is.length : Int) := by omega
      have hT1 := hR.1
      have hT2 := hR.2.1
      have hT3 := hR.2.2
      obtain ⟨lT, lL, lC⟩ := hsm i (List.mem_of_getElem? hi)
      have htk : is.take (k + 1) = is.take k ++ [i] := by rw [List.take_add_one, hi]; rfl
      have Htk := Lib.hid htk
      clear hc hi htk
      go_wp2_with first | (refine st_load (ty := 44) rfl rfl rfl und_ins rfl ?_; (repeat (apply Exists.intro)); refine ⟨?_, ?_, ?_, ?_⟩; (· exact zsts2); (· (try simp only [World.size_alloc, World.size_setCell, size_drew, size_drewN]); first | (apply RowAt.loc; (exact zpk1); done) | (apply RowAt.elem; exact hRow)); (· exact size_ins)) | (refine st_store (ty := 44) rfl rfl rfl rfl ?_; (repeat (apply Exists.intro)); refine ⟨?_, ?_, ?_, ?_, ?_, ?_⟩; (· exact zsts2); (· (try simp only [World.size_alloc, World.size_setCell, size_drew, size_drewN]); (exact zpk1)); (· rfl); (· exact size_ins); (· exact hOne); intro wN hS; simp only [insC] at hS; (try clear hQ); have hQ := St.facts hS; simp only [Facts, Res.fact, List.cons_append, List.nil_append, true_and, and_true] at hQ) | (at_builtin; refine app0_val rfl rfl rfl rfl ?_; (repeat (apply Exists.intro)); refine ⟨?_, ?_, ?_, ?_⟩; (· apply St.dst0; (· exact zsts2); (· exact zpk1)); (· apply SrcT.arg; apply St.sl (hs := hT1); (exact zsts2)); (· omega); intro vN wN hS; have hO : Own [] _ _ _ _ _ _ := hS.head; obtain ⟨aT, cT, rfl, _, _⟩ := Own.shape hO; (try clear hQ); have hQ := St.facts hS; simp only [Facts, Res.fact, List.cons_append, List.nil_append, true_and, and_true] at hQ) | (at_builtin; refine app0_int rfl rfl rfl rfl ?_; (repeat (apply Exists.intro)); refine ⟨?_, ?_, ?_, ?_⟩; (· apply St.dst0; (· exact zsts2); (· exact zpk1)); (· apply SrcT.arg; apply St.sl (hs := hT2); (exact zsts2)); (· omega); intro vN wN hS; have hO : Own [] _ _ _ _ _ _ := hS.head; obtain ⟨aL, cL, rfl, _, _⟩ := Own.shape hO; (try clear hQ); have hQ := St.facts hS; simp only [Facts, Res.fact, List.cons_append, List.nil_append, true_and, and_true] at hQ) | (at_builtin; refine app0_catch rfl rfl rfl rfl ?_; (repeat (apply Exists.intro)); refine ⟨?_, ?_, ?_, ?_⟩; (· apply St.dst0; (· exact zsts2); (· exact zpk1)); (· apply SrcT.arg; apply St.sl (hs := hT3); (exact zsts2)); (· omega); intro vN wN hS; have hO : Own [] _ _ _ _ _ _ := hS.head; obtain ⟨aC, cC, rfl, _, _⟩ := Own.shape hO; (try clear hQ); have hQ := St.facts hS; simp only [Facts, Res.fact, List.cons_append, List.nil_append, true_and, and_true] at hQ) | (refine wpList_oneI (i := i) (tv := .slice aT i.types.length cT) (lv := .slice aL i.labels.length cL) (cv := .slice aC i.catches.length cC) rfl rfl rfl ?_) | (at_builtin; refine app_ins rfl rfl rfl rfl ?_; (repeat (apply Exists.intro)); refine ⟨?_, ?_, ?_, ?_, ?_⟩; (· exact zsts2); (· (try simp only [World.size_alloc, World.size_setCell, size_drew, size_drewN]); apply DstT.own; (exact zpk1)); (· (try simp only [World.size_alloc, World.size_setCell, size_drew, size_drewN]); apply SrcT.lit; (· exact zpk1); (· rfl); (· simp [insC, Value.oneCell'])); (· omega); intro vN wN hS)
      go_roundw
      case rel =>
        refine ⟨k + 1, cs ++ insC i (.slice aT i.types.length cT) (.slice aL i.labels.length cL) (.slice aC i.catches.length cC), insG i (.slice aT i.types.length cT) (.slice aL i.labels.length cL) (.slice aC i.catches.length cC) ++ D, by go_num, by omega, ?_, ?_⟩
        · simp only [insG, List.cons_append, List.nil_append]
          exact hS.sel (by exact zsub1)
        · rw [Htk.out]
          exact InssD.snoc (fun r hr => List.mem_append_left _ hr) (hD.mono fun r hr => List.mem_append_right _ hr)
      case measure => simp [intOf]; omega
    · obtain rfl : k = is.length := by omega
      rw [List.take_length] at hD
      go_wp2
      go_ret
      exact ⟨_, cs, rfl, hS.fr, Own.sl (S' := []) hS.head (by simp), hD.toS hS (fun r hr => List.mem_cons_of_mem _ hr)⟩
end Go.Proofs.YtokneepfknepaaaGreatDoor

set_option linter.unusedSimpArgs false
set_option linter.unusedVariables false
namespace Go.Proofs.YtokneepfknepaaaGreatDoor
open Go.RowKit

/-- What a temporary holds: the number itself, another, a truth, nothing. -/
inductive PV where
  | n
  | i (k : Int)
  | b (x : Bool)
  | z
def PV.val (n : Int) : PV → Value
  | .n => .int .i64 n
  | .i k => .int .i64 k
  | .b x => .bool x
  | .z => undef
def rk_pGet : List (Nat × PV) → Nat → PV
  | [], t => if t = 0 then .n else .z
  | (s, v) :: e, t => if s = t then v else rk_pGet e t
structure PRel (N : Nat) (n : Int) (env : List (Nat × PV)) (a : Act) : Prop where
  size : a.tmps.size = N
  defers : a.defers = []
  get : ∀ t, t < N → a.tmps.getD t undef = (rk_pGet env t).val n
theorem PRel.put {N : Nat} {n : Int} {env : List (Nat × PV)} {a : Act} (h : PRel N n env a) {d : Nat} (hd : d < N) (v : PV) : PRel N n ((d, v) :: env) (a.put (some d) (v.val n)) := by
  refine ⟨by simpa [Act.put] using h.size, h.defers, fun t ht => ?_⟩
  have h2 := h.get t ht
  simp only [Act.put, Array.getD_eq_getD_getElem?, Array.getElem?_setIfInBounds] at h2 ⊢
  unfold rk_pGet
  by_cases e : d = t
  · subst e
    rw [if_pos rfl, if_pos rfl, if_pos (by rw [h.size]; exact hd)]
    rfl
  · rw [if_neg e, if_neg e]
    exact h2
def rk_pEval (N : Nat) (env : List (Nat × PV)) : Operand → Option PV
  | .tmp t => if t < N then some (rk_pGet env t) else none
  | .const (.int .i64 k) => some (.i k)
  | .const (.bool x) => some (.b x)
  | _ => none
theorem rk_pEval_ok {N : Nat} {n : Int} {env : List (Nat × PV)} {a : Act} (h : PRel N n env a) {x : Operand} {v : PV} (e : rk_pEval N env x = some v) : a.eval x = v.val n := by
  unfold rk_pEval at e
  split at e
  · split at e
    · injection e with e
      subst e
      exact h.get _ (by assumption)
    · cases e
  · injection e with e
    subst e
    rfl
  · injection e with e
    subst e
    rfl
  · cases e
def cmpB : BinOp → Int → Int → Option Bool
  | .eql, x, y => some (x == y)
  | .neq, x, y => some (x != y)
  | .lss, x, y => some (decide (x < y))
  | .leq, x, y => some (decide (x ≤ y))
  | .gtr, x, y => some (decide (x > y))
  | .geq, x, y => some (decide (x ≥ y))
  | _, _, _ => none
def Alk (ks : List Int) (n r : Int) : Prop := ∀ k, k ∈ ks → (n < k ↔ r < k) ∧ (n = k ↔ r = k)
def rk_pCmp (r : Int) (ks : List Int) (op : BinOp) : PV → PV → Option Bool
  | .n, .i k => if ks.elem k then cmpB op r k else none
  | _, _ => none
theorem cmpB_alike {ks : List Int} {n r : Int} (h : Alk ks n r) {k : Int} (hk : k ∈ ks) (op : BinOp) : cmpB op n k = cmpB op r k := by
  obtain ⟨h1, h2⟩ := h k hk
  cases op <;> simp only [cmpB] <;> congr 1
  · rw [Bool.eq_iff_iff]; simpa using h2
  · rw [Bool.eq_iff_iff]; simp only [bne_iff_ne, ne_eq]; exact not_congr h2
  · rw [decide_eq_decide]; exact h1
  · rw [decide_eq_decide]; constructor <;> intro hh <;> omega
  · rw [decide_eq_decide]; constructor <;> intro hh <;> omega
  · rw [decide_eq_decide]; constructor <;> intro hh <;> omega
theorem run_cmp {P : Program} {w : World} {op : BinOp} {n k : Int} {b : Bool} (h : cmpB op n k = some b) (t : TypeId) (x y : Operand) :
    (do eqGuard op t x y (.int .i64 n) (.int .i64 k); binOp op t (.int .i64 n) (.int .i64 k) : Sem Value).run P w = .ok (.bool b) w := by
  cases op <;> simp only [cmpB] at h <;> first | (cases h; done) | (injection h with h; subst h; simp [eqGuard, binOp, Op.intCmp])

section
variable (N : Nat) (r : Int) (ks : List Int) (callB : FuncId → Option Bool)
def rk_pOp (env : List (Nat × PV)) : Op → Option PV
  | .move x => rk_pEval N env x
  | .assign x => rk_pEval N env x
  | .pick c x y => match rk_pEval N env c with
    | some (.b t) => if t then rk_pEval N env x else rk_pEval N env y
    | _ => none
  | .binOp op _ x y _ => match rk_pEval N env x, rk_pEval N env y with
    | some u, some v => (rk_pCmp r ks op u v).map .b
    | _, _ => none
  | .unOp .not _ x => match rk_pEval N env x with
    | some (.b t) => some (.b (!t))
    | _ => none
  | .call c => match c with
    | { callee := .value (.func f), args := ⟨[x]⟩, .. } => match rk_pEval N env x with
      | some .n => (callB f).map .b
      | _ => none
    | _ => none
  | _ => none
def rk_pWanted (ops : List Oper) (env : List (Nat × PV)) (o : Oper) : Option Bool :=
  match o.guard with
  | none => some true
  | some (j, want) => match (ops[j]?).bind (·.dst) with
    | some d => if d < N then some (match rk_pGet env d with | .b x => x == want | _ => false) else none
    | none => none
def rk_pList (ops : List Oper) : List Oper → List (Nat × PV) → Option (List (Nat × PV))
  | [], env => some env
  | o :: rest, env => match o.dst with
    | none => none
    | some d => if d < N then (match rk_pWanted N ops env o with
      | some true => (match rk_pOp N r ks callB env o.op with
        | some v => rk_pList ops rest ((d, v) :: env)
        | none => none)
      | some false => rk_pList ops rest ((d, .z) :: env)
      | none => none) else none
/-- How a piece of code ends. -/
inductive PE where
  | normal
  | exit (id : Nat)
  | ret
def PE.out : PE → Exit
  | .normal => .normal
  | .exit id => .exit id
  | .ret => .ret
def rk_pCode : Code → List (Nat × PV) → Option (PE × List (Nat × PV))
  | .skip, env => some (.normal, env)
  | .region _ ops draw, env => if draw then none else (rk_pList N r ks callB ops.toList ops.toList env).map (fun e => (.normal, e))
  | .seq x y, env => match rk_pCode x env with
    | some (.normal, e) => rk_pCode y e
    | z => z
  | .cond c x y, env => match rk_pEval N env c with
    | some (.b t) => if t then rk_pCode x env else rk_pCode y env
    | _ => none
  | .block id x, env => match rk_pCode x env with
    | some (.exit j, e) => if j = id then some (.normal, e) else some (.exit j, e)
    | z => z
  | .exit id, env => some (.exit id, env)
  | .ret, env => some (.ret, env)
  | _, _ => none
end
section
variable {P : Program} {N : Nat} {n r : Int} {ks : List Int} {callB : FuncId → Option Bool} {w : World}
def CallsB (P : Program) (n : Int) (w : World) (callB : FuncId → Option Bool) : Prop :=
  ∀ f b, callB f = some b → (callFunc f #[.int .i64 n]).run P w = .ok (.enter f #[.int .i64 n]) w ∧ Calls P f #[.int .i64 n] w (fun e w' => e = .returned (.bool b) ∧ w' = w)
theorem rk_pOp_ok (ha : Alk ks n r) (hc : CallsB P n w callB) {env : List (Nat × PV)} {a : Act} (h : PRel N n env a) {o : Oper} {v : PV} (e : rk_pOp N r ks callB env o.op = some v) {K : Act → World → Prop} {Q : Exit → Act → World → Prop}
    (k : K (a.put o.dst (v.val n)) w) : o.wp P a w K Q := by
  unfold Oper.wp execOp
  unfold rk_pOp at e
  split at e
  · rename_i x ho
    simp only [ho, Sem.run_pure, rk_pEval_ok h e]
    exact k
  · rename_i x ho
    simp only [ho, Sem.run_pure, rk_pEval_ok h e]
    exact k
  · rename_i c x y ho
    split at e
    · rename_i t hcv
      simp only [ho, rk_pEval_ok h hcv, PV.val, asBool, Sem.run_bind, Sem.run_pure, Result.andThen_ok]
      cases t
      · simp only [Bool.false_eq_true, if_false] at e ⊢
        rw [rk_pEval_ok h e]
        exact k
      · simp only [if_true] at e ⊢
        rw [rk_pEval_ok h e]
        exact k
    · cases e
  · rename_i op t x y t2 ho
    split at e
    · rename_i u v' hu hv
      simp only [ho]
      rw [rk_pEval_ok h hu, rk_pEval_ok h hv]
      unfold rk_pCmp at e
      split at e
      · rename_i kk
        split at e
        · rename_i hk
          cases hb : cmpB op r kk with
          | none => rw [hb] at e; cases e
          | some b =>
            rw [hb] at e
            simp only [Option.map_some, Option.some.injEq] at e
            subst e
            have hk2 : kk ∈ ks := by simpa using hk
            have h3 := run_cmp (P := P) (w := w) ((cmpB_alike ha hk2 op).trans hb) t x y
            simp only [PV.val]
            rw [Sem.run_bind, h3]
            exact k
        · cases e
      · cases e
    · cases e
  · rename_i t x ho
    split at e
    · rename_i tv hx
      injection e with e
      subst e
      simp only [ho]
      rw [rk_pEval_ok h hx]
      simp only [PV.val, Op.unary, Sem.run_bind, Sem.run_pure, Result.andThen_ok]
      exact k
    · cases e
  · rename_i c ho
    split at e
    · rename_i f x ats
      split at e
      · rename_i hx
        cases hb : callB f with
        | none => rw [hb] at e; cases e
        | some b =>
          rw [hb] at e
          simp only [Option.map_some, Option.some.injEq] at e
          subst e
          obtain ⟨h1, h2⟩ := hc f b hb
          have hx2 := rk_pEval_ok h hx
          simp only [ho]
          have h4 : ({ callee := .value (.func f), args := ⟨[x]⟩, argTypes := ats } : Call).args.map a.eval = #[.int .i64 n] := by
            show #[x].map a.eval = _
            rw [List.map_toArray, List.map_cons, List.map_nil, hx2]
            rfl
          have h5 : (resolve a.eval { callee := .value (.func f), args := ⟨[x]⟩, argTypes := ats } o.type).run P w = .ok { target := .fn (.func f) #[], args := #[.int .i64 n] } w := by
            unfold resolve
            simp only [h4]
            rfl
          rw [Sem.run_bind, h5]
          show Oper.upon P o a K Q ((callFunc f (#[Value.int .i64 n] ++ #[])).run P w)
          rw [Array.append_empty, h1, Oper.upon_enter]
          refine h2.mono ?_
          rintro e w' ⟨rfl, rfl⟩
          exact k
      · cases e
    · cases e
  · cases e
theorem rk_pWanted_ok {ops : List Oper} {env : List (Nat × PV)} {a : Act} (h : PRel N n env a) {o : Oper} {t : Bool} (e : rk_pWanted N ops env o = some t) : Region.wanted o (yielded ops.toArray a.tmps) = t := by
  unfold rk_pWanted at e
  unfold Region.wanted
  split at e
  · rename_i hg
    injection e with e
    simp only [hg]
    exact e
  · rename_i j want hg
    split at e
    · rename_i d hd
      split at e
      · rename_i hlt
        injection e with e
        have h2 := h.get d hlt
        simp only [hg]
        unfold yielded
        have hd2 : ((ops.toArray[j]?).bind (·.dst)) = some d := by simpa using hd
        rw [hd2]
        have h3 : a.tmps[d]? = some (a.tmps.getD d undef) := by
          have : d < a.tmps.size := by rw [h.size]; exact hlt
          rw [Array.getElem?_eq_getElem this, Array.getD_eq_getD_getElem?, Array.getElem?_eq_getElem this]
          rfl
        simp only [Option.bind_some, h3, h2]
        rw [← e]
        cases hp : rk_pGet env d with
        | n => simp only [PV.val]; rfl
        | i k => simp only [PV.val]; rfl
        | b x => simp only [PV.val]; cases x <;> cases want <;> rfl
        | z => simp only [PV.val, undef]; rfl
      · cases e
    · cases e
theorem rk_pList_ok (ha : Alk ks n r) (hc : CallsB P n w callB) (ops : List Oper) {Q : Exit → Act → World → Prop} : ∀ (l : List Oper) {env env' : List (Nat × PV)} {a : Act}, PRel N n env a → rk_pList N r ks callB ops l env = some env' →
    (∀ a', PRel N n env' a' → Q .normal a' w) → wpList P ops.toArray Q l a w
  | [], env, env', a, h, e, k => by
    unfold rk_pList at e
    injection e with e
    subst e
    exact k a h
  | o :: rest, env, env', a, h, e, k => by
    unfold rk_pList at e
    split at e
    · cases e
    · rename_i d hdst
      split at e
      · rename_i hlt
        split at e
        · rename_i hw
          split at e
          · rename_i v hv
            refine wpList_step fun K hK => ?_
            rw [if_pos (rk_pWanted_ok h hw)]
            refine rk_pOp_ok ha hc h hv (hK _ _ ?_)
            rw [hdst]
            exact rk_pList_ok ha hc ops rest (h.put hlt v) e k
          · cases e
        · rename_i hw
          refine wpList_skip (rk_pWanted_ok h hw) ?_
          rw [hdst]
          exact rk_pList_ok ha hc ops rest (h.put hlt .z) e k
        · cases e
      · cases e
theorem rk_pCode_ok (ha : Alk ks n r) (hc : CallsB P n w callB) : ∀ (c : Code) {env env' : List (Nat × PV)} {a : Act} {x : PE} {Q : Exit → Act → World → Prop}, PRel N n env a → rk_pCode N r ks callB c env = some (x, env') →
    (∀ a', PRel N n env' a' → Q x.out a' w) → c.wp P Q a w := by
  intro c
  induction c with
  | skip =>
    intro env env' a x Q h e k
    simp only [rk_pCode, Option.some.injEq, Prod.mk.injEq] at e
    obtain ⟨rfl, rfl⟩ := e
    exact wp_skip (k a h)
  | region id ops draw =>
    intro env env' a x Q h e k
    unfold rk_pCode at e
    cases draw with
    | true => simp at e
    | false =>
      simp only [Bool.false_eq_true, if_false] at e
      cases hl : rk_pList N r ks callB ops.toList ops.toList env with
      | none => rw [hl] at e; cases e
      | some e2 =>
        rw [hl] at e
        simp only [Option.map_some, Option.some.injEq, Prod.mk.injEq] at e
        obtain ⟨rfl, rfl⟩ := e
        refine wp_region_list ?_
        have := rk_pList_ok (Q := Q) ha hc ops.toList ops.toList h hl k
        simpa using this
  | seq x y ihx ihy =>
    intro env env' a z Q h e k
    unfold rk_pCode at e
    split at e
    · rename_i e1 h1
      refine wp_seq (ihx h h1 fun a' h' => ?_)
      exact ihy h' e k
    · rename_i hne
      refine wp_seq (ihx h e fun a' h' => ?_)
      cases z with
      | normal => exact absurd e (hne _)
      | exit j => exact k a' h'
      | ret => exact k a' h'
  | cond c x y ihx ihy =>
    intro env env' a z Q h e k
    unfold rk_pCode at e
    split at e
    · rename_i t ht
      refine wp_cond (rk_pEval_ok h ht) ?_
      cases t
      · simp only [Bool.false_eq_true, if_false] at e ⊢
        exact ihy h e k
      · simp only [if_true] at e ⊢
        exact ihx h e k
    · cases e
  | block id x ih =>
    intro env env' a z Q h e k
    unfold rk_pCode at e
    split at e
    · rename_i j e1 h1
      refine wp_block (ih h h1 fun a' h' => ?_)
      split at e
      · rename_i hj
        simp only [Option.some.injEq, Prod.mk.injEq] at e
        obtain ⟨rfl, rfl⟩ := e
        show (if j = id then _ else _)
        rw [if_pos hj]
        exact k a' h'
      · rename_i hj
        simp only [Option.some.injEq, Prod.mk.injEq] at e
        obtain ⟨rfl, rfl⟩ := e
        show (if j = id then _ else _)
        rw [if_neg hj]
        exact k a' h'
    · rename_i hne
      refine wp_block (ih h e fun a' h' => ?_)
      cases z with
      | normal => exact k a' h'
      | exit j => exact absurd e (hne _ _)
      | ret => exact k a' h'
  | exit id =>
    intro env env' a x Q h e k
    simp only [rk_pCode, Option.some.injEq, Prod.mk.injEq] at e
    obtain ⟨rfl, rfl⟩ := e
    exact wp_exit (k a h)
  | ret =>
    intro env env' a x Q h e k
    simp only [rk_pCode, Option.some.injEq, Prod.mk.injEq] at e
    obtain ⟨rfl, rfl⟩ := e
    exact wp_ret (k a h)
  | _ => intro env env' a x Q h e k; simp [rk_pCode] at e
/-- What the reckoner tells of a call. -/
def rk_pAnswer (N : Nat) (r : Int) (ks : List Int) (callB : FuncId → Option Bool) (c : Code) (t : Nat) : Option PV :=
  match rk_pCode N r ks callB c [] with
  | some (.ret, env) => if t < N then some (rk_pGet env t) else none
  | _ => none
theorem pure_calls {f : FuncId} {fn : Func} {c : Code} {t : Nat} (hf : P.funcs[f]? = some fn) (hb : fn.body = some c) (hr : fn.results = #[.tmp t]) (hN : fn.ntmps = N) (hN1 : 1 ≤ N)
    (ha : Alk ks n r) (hc : CallsB P n w callB) {v : PV} (h : rk_pAnswer N r ks callB c t = some v) :
    Calls P f #[.int .i64 n] w fun e w' => e = .returned (v.val n) ∧ w' = w := by
  unfold rk_pAnswer at h
  split at h
  · rename_i env he
    split at h
    · rename_i ht
      injection h with h
      refine calls_of_wp hf hb (rk_pCode_ok ha hc c ?_ he fun a' h' => ?_)
      · refine ⟨?_, rfl, fun s hs => ?_⟩
        · simp [hN]; omega
        · simp only [Array.getD_eq_getD_getElem?, rk_pGet]
          by_cases h0 : s = 0
          · subst h0
            rw [if_pos rfl, Array.getElem?_append_left (by simp)]
            rfl
          · rw [if_neg h0, Array.getElem?_append_right (by simp; omega), Array.getElem?_replicate]
            split <;> rfl
      · refine bodyPost_ret (results_tmp hr _ _ _) h'.defers ⟨?_, rfl⟩
        rw [h'.get t ht, h]
    · cases h
  · cases h
/-- Every number compares with the numbers of a row as some number does that is one of them, or one more than one of them, or less than all. -/
def repsOf (ks : List Int) (low : Int) : List Int := low :: ks ++ ks.map (· + 1)
theorem alike_rep (low : Int) : ∀ (ks : List Int), (∀ k, k ∈ ks → low < k) → ∀ n : Int, ∃ r, r ∈ repsOf ks low ∧ Alk ks n r := by
  intro ks hlow n
  by_cases hn : n ∈ ks
  · exact ⟨n, by simp [repsOf, hn], fun k _ => ⟨Iff.rfl, Iff.rfl⟩⟩
  have key : ∀ l : List Int, (∀ k, k ∈ l → k ∈ ks) → ∃ m, (m = low ∨ (m - 1 ∈ ks ∧ m ≤ n)) ∧ (∀ k, k ∈ l → k < n → k < m) := by
    intro l
    induction l with
    | nil => exact fun _ => ⟨low, .inl rfl, fun k hk => by cases hk⟩
    | cons x l ih =>
      intro hl
      obtain ⟨m, h1, h2⟩ := ih fun k hk => hl k (List.mem_cons_of_mem _ hk)
      by_cases hx : x < n ∧ m ≤ x
      · refine ⟨x + 1, .inr ⟨by simpa using hl x List.mem_cons_self, by omega⟩, fun k hk hkn => ?_⟩
        rcases List.mem_cons.1 hk with rfl | hk
        · omega
        · have := h2 k hk hkn; omega
      · refine ⟨m, h1, fun k hk hkn => ?_⟩
        rcases List.mem_cons.1 hk with rfl | hk
        · omega
        · exact h2 k hk hkn
  obtain ⟨m, h1, h2⟩ := key ks fun _ h => h
  refine ⟨m, ?_, fun k hk => ?_⟩
  · rcases h1 with rfl | ⟨h1, _⟩
    · simp [repsOf]
    · simp only [repsOf, List.mem_cons, List.mem_append, List.mem_map]
      exact Or.inr ⟨m - 1, h1, by omega⟩
  · have hne : n ≠ k := fun h => hn (h ▸ hk)
    have h3 := hlow k hk
    have h4 := h2 k hk
    rcases h1 with rfl | ⟨_, h1⟩
    · have : ¬ k < n := fun h => by have := h4 h; omega
      constructor <;> constructor <;> intro <;> omega
    · constructor
      · constructor
        · intro; omega
        · intro h; by_cases hc : k < n
          · have := h4 hc; omega
          · omega
      · constructor
        · intro; omega
        · intro h
          by_cases hc : k < n
          · have := h4 hc; omega
          · omega
end
end Go.Proofs.YtokneepfknepaaaGreatDoor

set_option linter.unusedSimpArgs false
set_option linter.unusedVariables false
namespace Go.Proofs.YtokneepfknepaaaGreatDoor
open Go.RowKit
def opKs : List Int := [0, 2, 4, 5, 8, 10, 12, 13, 14, 16, 17, 18, 19, 20, 21, 26, 28, 31, 32, 38, 40, 41, 44, 55, 58, 62, 63, 64, 65, 66, 69, 90, 103, 138, 167, 172, 173, 192, 196, 208, 210, 213, 214, 255, 64256, 64257, 64258, 64261, 64262, 64263, 64264, 64266, 64267, 64270, 64272, 64273, 64275, 64276, 64279, 64280, 64281, 64286, 64520, 64521, 64522, 64523, 64524, 64525, 64526, 64527, 64529]
theorem al_le {n r : Int} (h : Alk opKs n r) (k : Int) (hk : k ∈ opKs) : (n ≤ k) = (r ≤ k) := by
  have := h k hk
  apply propext
  constructor <;> intro <;> omega
theorem al_ge {n r : Int} (h : Alk opKs n r) (k : Int) (hk : k ∈ opKs) : (k ≤ n) = (k ≤ r) := by
  have := h k hk
  apply propext
  constructor <;> intro <;> omega
theorem al_eq {n r : Int} (h : Alk opKs n r) (k : Int) (hk : k ∈ opKs) : (n = k) = (r = k) := propext (h k hk).2
theorem isQ_al {n r : Int} (h : Alk opKs n r) : isQ n = isQ r := by
  unfold isQ
  simp only [al_ge h 0 (by decide), al_le h 5 (by decide), al_eq h 8 (by decide), al_ge h 10 (by decide), al_le h 21 (by decide), al_ge h 26 (by decide), al_le h 28 (by decide), al_ge h 31 (by decide), al_le h 38 (by decide), al_eq h 40 (by decide), al_eq h 41 (by decide), al_ge h 44 (by decide), al_le h 55 (by decide), al_ge h 58 (by decide), al_le h 66 (by decide), al_ge h 69 (by decide), al_le h 90 (by decide), al_ge h 103 (by decide), al_le h 138 (by decide), al_eq h 167 (by decide), al_eq h 172 (by decide), al_eq h 173 (by decide), al_ge h 192 (by decide), al_le h 196 (by decide), al_ge h 208 (by decide), al_le h 214 (by decide), al_ge h 64256 (by decide), al_le h 64286 (by decide), al_ge h 64520 (by decide), al_le h 64529 (by decide)]
theorem q7_al {n r : Int} (h : Alk opKs n r) : q7 n = q7 r := by
  unfold q7
  simp only [al_eq h 17 (by decide), al_eq h 19 (by decide), al_ge h 64258 (by decide), al_le h 64261 (by decide), al_ge h 64264 (by decide), al_le h 64266 (by decide), al_ge h 64273 (by decide), al_le h 64275 (by decide), al_eq h 64520 (by decide), al_eq h 64522 (by decide), al_eq h 64524 (by decide), al_eq h 64526 (by decide)]
theorem q6_al {n r : Int} (h : Alk opKs n r) : q6 n = q6 r := by
  unfold q6
  simp only [al_eq h 8 (by decide), al_eq h 16 (by decide), al_eq h 18 (by decide), al_eq h 20 (by decide), al_eq h 21 (by decide), al_ge h 32 (by decide), al_le h 38 (by decide), al_eq h 63 (by decide), al_eq h 64 (by decide), al_eq h 210 (by decide)]
theorem q6b_al {n r : Int} (h : Alk opKs n r) : q6b n = q6b r := by
  unfold q6b
  simp only [al_eq h 64256 (by decide), al_eq h 64257 (by decide), al_eq h 64262 (by decide), al_eq h 64263 (by decide), al_ge h 64267 (by decide), al_le h 64270 (by decide), al_eq h 64272 (by decide), al_eq h 64521 (by decide), al_eq h 64523 (by decide), al_eq h 64525 (by decide), al_ge h 64527 (by decide), al_le h 64529 (by decide)]
theorem q4_al {n r : Int} (h : Alk opKs n r) : q4 n = q4 r := by
  unfold q4
  simp only [al_eq h 12 (by decide), al_eq h 13 (by decide), al_eq h 213 (by decide), al_eq h 214 (by decide)]
theorem q2_al {n r : Int} (h : Alk opKs n r) : q2 n = q2 r := by
  unfold q2
  simp only [al_ge h 2 (by decide), al_le h 4 (by decide)]
theorem q8_al {n r : Int} (h : Alk opKs n r) : q8 n = q8 r := by
  unfold q8
  simp only [al_ge h 40 (by decide), al_le h 62 (by decide)]
theorem q11_al {n r : Int} (h : Alk opKs n r) : q11 n = q11 r := by
  unfold q11
  simp only [al_eq h 208 (by decide), al_ge h 64276 (by decide), al_le h 64279 (by decide)]
theorem q13_al {n r : Int} (h : Alk opKs n r) : q13 n = q13 r := by
  unfold q13
  simp only [al_eq h 64280 (by decide), al_eq h 64281 (by decide)]
theorem shapeQ_al {n r : Int} (h : Alk opKs n r) : shapeQ n = shapeQ r := by
  unfold shapeQ
  simp only [isQ_al h, q2_al h, q4_al h, q7_al h, q8_al h, q11_al h, q13_al h, q6_al h, q6b_al h, al_eq h 31 (by decide), al_eq h 14 (by decide), al_eq h 65 (by decide), al_eq h 66 (by decide), al_eq h 28 (by decide)]
def codeOf (f : Func) : Code := match f.body with | some c => c | none => .skip
def isOk (c : Code) (r : Int) : Bool := match rk_pAnswer 121 r opKs (fun _ => none) c 2 with | some (.b x) => x == isQ r | _ => false
def shCall (r : Int) (f : FuncId) : Option Bool := if f = 72 then some (isQ r) else none
def shOk (c : Code) (r : Int) : Bool := match rk_pAnswer 203 r opKs (shCall r) c 2 with | some (.i k) => k == shapeQ r | _ => false
set_option maxRecDepth 1000000 in
theorem is_reps : (repsOf opKs (-1)).all (isOk (codeOf Tryz.f72)) = true := by kernel_rfl
set_option maxRecDepth 1000000 in
theorem sh_reps : (repsOf opKs (-1)).all (shOk (codeOf Tryz.f34)) = true := by kernel_rfl
theorem low_ks : ∀ k, k ∈ opKs → (-1 : Int) < k := by
  have h : opKs.all (fun k => decide ((-1 : Int) < k)) = true := by decide
  exact fun k hk => by simpa using List.all_eq_true.1 h k hk
theorem refIs_any (w : World) (n : Int) : Calls Tryz.prog 72 #[.int .i64 n] w fun e w' => e = .returned (.bool (isQ n)) ∧ w' = w := by
  obtain ⟨r, hr, ha⟩ := alike_rep (-1) opKs low_ks n
  have h := List.all_eq_true.1 is_reps r hr
  unfold isOk at h
  split at h
  · rename_i x hx
    have := pure_calls (P := Tryz.prog) (w := w) (fn := Tryz.f72) Tryz.func72 (c := codeOf Tryz.f72) (by rfl) (t := 2) Tryz.results72 (N := 121) (by rfl) (by decide) ha (callB := fun _ => none) (fun _ _ h => by cases h) hx
    rw [isQ_al ha]
    simp only [beq_iff_eq] at h
    rw [← h]
    exact this
  · cases h
theorem refShape_any (w : World) (n : Int) : Calls Tryz.prog 34 #[.int .i64 n] w fun e w' => e = .returned (.int .i64 (shapeP n)) ∧ w' = w := by
  obtain ⟨r, hr, ha⟩ := alike_rep (-1) opKs low_ks n
  have h := List.all_eq_true.1 sh_reps r hr
  unfold shOk at h
  split at h
  · rename_i x hx
    have hc : CallsB Tryz.prog n w (shCall r) := by
      intro f b hb
      unfold shCall at hb
      split at hb
      · rename_i hf
        subst hf
        injection hb with hb
        subst hb
        refine ⟨by kernel_rfl, ?_⟩
        rw [← isQ_al ha]
        exact refIs_any w n
      · cases hb
    have := pure_calls (P := Tryz.prog) (w := w) (fn := Tryz.f34) Tryz.func34 (c := codeOf Tryz.f34) (by rfl) (t := 2) Tryz.results34 (N := 203) (by rfl) (by decide) ha hc hx
    rw [shape_eq, shapeQ_al ha]
    simp only [beq_iff_eq] at h
    rw [← h]
    exact this
  · cases h
set_option maxRecDepth 100000 in
set_option maxHeartbeats 3200000 in
theorem refIndex_any (w : World) (n : Int) : Calls Tryz.prog 36 #[.int .i64 n] w fun e w' => e = .returned (.bool (idx n)) ∧ w' = w := by
  by_cases h : 0 ≤ n
  · go_enter Tryz.func36, Tryz.ntmps36
    go_wp2
    go_ret
    refine ⟨congrArg (fun b => Ending.returned (Value.bool b)) ?_, rfl⟩
    unfold idx
    rw [decide_eq_decide]
    omega
  · have h2 : n < 0 := by omega
    have E := Lib.hid (show idx n = false from by unfold idx; rw [decide_eq_false_iff_not]; omega)
    clear h
    go_enter Tryz.func36, Tryz.ntmps36
    go_wp2
    go_ret
    rw [E.out]
    exact ⟨rfl, rfl⟩
end Go.Proofs.YtokneepfknepaaaGreatDoor

set_option linter.unusedSimpArgs false
set_option linter.unusedVariables false
namespace Go.Proofs.YtokneepfknepaaaGreatDoor
open Go.RowKit
/-- The keys of the chain 'a field that the shape has not, and that is not zero': which fields the shape has, and the tests' answers. -/
def tMay (hs cs : List Bool) (n1 n2 : Bool) : RKey → Option AV
  | .fld ty (.p 0 0) f => if ty = 44 ∧ f < 12 then some (.p 0 (insOff f)) else none
  | .idx ty (.p 1 0) (.c .i64 n) => if ty = 69 ∧ 0 ≤ n ∧ n < 9 then some (.p 1 n.toNat) else none
  | .load ty (.p g o) => if g = 1 ∧ ty = 4 ∧ o < 9 then some (.b (hs.getD o false)) else if g = 0 ∧ ty = 4 ∧ o = 8 then some (.b n1) else if g = 0 ∧ ty = 4 ∧ o = 9 then some (.b n2)
      else if g = 0 ∧ (ty, o) ∈ insLoads then some (.k o) else none
  | .zero ty => if ty = 34 then some (.k 20) else if ty = 41 then some (.k 21) else none
  | .len t (.k i) => if t = 35 ∧ i = 10 then some (.k 22) else if t = 36 ∧ i = 11 then some (.k 23) else if t = 42 ∧ i = 18 then some (.k 24) else none
  | .bin .neq ty (.k i) (.c kd n) => if ty = 3 ∧ kd = .i64 ∧ n = 0 ∧ i = 1 then some (.b (cs.getD 0 false)) else if ty = 3 ∧ kd = .i64 ∧ n = 0 ∧ i = 2 then some (.b (cs.getD 1 false)) else if ty = 31 ∧ kd = .u64 ∧ n = 0 ∧ i = 3 then some (.b (cs.getD 2 false)) else none
  | .bin .neq ty (.k i) (.k j) => if ty = 34 ∧ i = 4 ∧ j = 20 then some (.b (cs.getD 3 false)) else if ty = 34 ∧ i = 6 ∧ j = 20 then some (.b (cs.getD 4 false)) else if ty = 41 ∧ i = 12 ∧ j = 21 then some (.b (cs.getD 7 false)) else none
  | .bin .gtr ty (.k i) (.c kd n) => if ty = 3 ∧ kd = .i64 ∧ n = 0 ∧ i = 22 then some (.b (cs.getD 5 false)) else if ty = 3 ∧ kd = .i64 ∧ n = 0 ∧ i = 23 then some (.b (cs.getD 6 false)) else if ty = 3 ∧ kd = .i64 ∧ n = 0 ∧ i = 24 then some (.b (cs.getD 8 false)) else none
  | _ => none
def mayF (hs cs : List Bool) (n1 n2 : Bool) : Bool :=
  !hs.getD 0 false && cs.getD 0 false || !hs.getD 1 false && cs.getD 1 false || !hs.getD 2 false && cs.getD 2 false || !hs.getD 3 false && cs.getD 3 false || !hs.getD 4 false && (n1 || n2 || cs.getD 4 false) ||
  !hs.getD 5 false && cs.getD 5 false || !hs.getD 6 false && cs.getD 6 false || !hs.getD 7 false && cs.getD 7 false || !hs.getD 8 false && cs.getD 8 false
set_option maxRecDepth 100000 in
theorem may_ans1 (c0 c1 c2 c3 c4 c5 c6 c7 c8 n1 n2 : Bool) : aAnswer (tMay (hasL 1) [c0, c1, c2, c3, c4, c5, c6, c7, c8] n1 n2) 264 (opsOfR Tryz.f12 5) [(1, .p 0 0), (4, .p 1 0)] 117 = some (.b (mayF (hasL 1) [c0, c1, c2, c3, c4, c5, c6, c7, c8] n1 n2)) := by
  rcases c0 with _ | _
  · rcases c1 with _ | _
    · rcases c2 with _ | _
      · rcases c3 with _ | _
        · rcases n1 with _ | _
          · rcases n2 with _ | _
            · rcases c4 with _ | _
              · rcases c5 with _ | _
                · rcases c6 with _ | _
                  · rcases c7 with _ | _
                    · rcases c8 with _ | _ <;> kernel_rfl
                    · kernel_rfl
                  · kernel_rfl
                · kernel_rfl
              · kernel_rfl
            · kernel_rfl
          · kernel_rfl
        · kernel_rfl
      · kernel_rfl
    · kernel_rfl
  · kernel_rfl
set_option maxRecDepth 100000 in
theorem may_ans2 (c0 c1 c2 c3 c4 c5 c6 c7 c8 n1 n2 : Bool) : aAnswer (tMay (hasL 2) [c0, c1, c2, c3, c4, c5, c6, c7, c8] n1 n2) 264 (opsOfR Tryz.f12 5) [(1, .p 0 0), (4, .p 1 0)] 117 = some (.b (mayF (hasL 2) [c0, c1, c2, c3, c4, c5, c6, c7, c8] n1 n2)) := by
  rcases c0 with _ | _
  · rcases c1 with _ | _
    · rcases c2 with _ | _
      · rcases c3 with _ | _
        · rcases n1 with _ | _
          · rcases n2 with _ | _
            · rcases c4 with _ | _
              · rcases c5 with _ | _
                · rcases c6 with _ | _
                  · rcases c8 with _ | _ <;> kernel_rfl
                  · kernel_rfl
                · kernel_rfl
              · kernel_rfl
            · kernel_rfl
          · kernel_rfl
        · kernel_rfl
      · kernel_rfl
    · kernel_rfl
  · kernel_rfl
set_option maxRecDepth 100000 in
theorem may_ans3 (c0 c1 c2 c3 c4 c5 c6 c7 c8 n1 n2 : Bool) : aAnswer (tMay (hasL 3) [c0, c1, c2, c3, c4, c5, c6, c7, c8] n1 n2) 264 (opsOfR Tryz.f12 5) [(1, .p 0 0), (4, .p 1 0)] 117 = some (.b (mayF (hasL 3) [c0, c1, c2, c3, c4, c5, c6, c7, c8] n1 n2)) := by
  rcases c0 with _ | _
  · rcases c1 with _ | _
    · rcases c2 with _ | _
      · rcases c3 with _ | _
        · rcases n1 with _ | _
          · rcases n2 with _ | _
            · rcases c4 with _ | _
              · rcases c5 with _ | _
                · rcases c6 with _ | _ <;> kernel_rfl
                · kernel_rfl
              · kernel_rfl
            · kernel_rfl
          · kernel_rfl
        · kernel_rfl
      · kernel_rfl
    · kernel_rfl
  · kernel_rfl
set_option maxRecDepth 100000 in
theorem may_ans5 (c0 c1 c2 c3 c4 c5 c6 c7 c8 n1 n2 : Bool) : aAnswer (tMay (hasL 5) [c0, c1, c2, c3, c4, c5, c6, c7, c8] n1 n2) 264 (opsOfR Tryz.f12 5) [(1, .p 0 0), (4, .p 1 0)] 117 = some (.b (mayF (hasL 5) [c0, c1, c2, c3, c4, c5, c6, c7, c8] n1 n2)) := by
  rcases c1 with _ | _
  · rcases c2 with _ | _
    · rcases c3 with _ | _
      · rcases n1 with _ | _
        · rcases n2 with _ | _
          · rcases c4 with _ | _
            · rcases c5 with _ | _
              · rcases c7 with _ | _
                · rcases c8 with _ | _ <;> kernel_rfl
                · kernel_rfl
              · kernel_rfl
            · kernel_rfl
          · kernel_rfl
        · kernel_rfl
      · kernel_rfl
    · kernel_rfl
  · kernel_rfl
set_option maxRecDepth 100000 in
theorem may_ans6 (c0 c1 c2 c3 c4 c5 c6 c7 c8 n1 n2 : Bool) : aAnswer (tMay (hasL 6) [c0, c1, c2, c3, c4, c5, c6, c7, c8] n1 n2) 264 (opsOfR Tryz.f12 5) [(1, .p 0 0), (4, .p 1 0)] 117 = some (.b (mayF (hasL 6) [c0, c1, c2, c3, c4, c5, c6, c7, c8] n1 n2)) := by
  rcases c1 with _ | _
  · rcases c2 with _ | _
    · rcases c3 with _ | _
      · rcases n1 with _ | _
        · rcases n2 with _ | _
          · rcases c4 with _ | _
            · rcases c5 with _ | _
              · rcases c6 with _ | _
                · rcases c7 with _ | _
                  · rcases c8 with _ | _ <;> kernel_rfl
                  · kernel_rfl
                · kernel_rfl
              · kernel_rfl
            · kernel_rfl
          · kernel_rfl
        · kernel_rfl
      · kernel_rfl
    · kernel_rfl
  · kernel_rfl
set_option maxRecDepth 100000 in
theorem may_ans7 (c0 c1 c2 c3 c4 c5 c6 c7 c8 n1 n2 : Bool) : aAnswer (tMay (hasL 7) [c0, c1, c2, c3, c4, c5, c6, c7, c8] n1 n2) 264 (opsOfR Tryz.f12 5) [(1, .p 0 0), (4, .p 1 0)] 117 = some (.b (mayF (hasL 7) [c0, c1, c2, c3, c4, c5, c6, c7, c8] n1 n2)) := by
  rcases c2 with _ | _
  · rcases c3 with _ | _
    · rcases n1 with _ | _
      · rcases n2 with _ | _
        · rcases c4 with _ | _
          · rcases c5 with _ | _
            · rcases c6 with _ | _
              · rcases c7 with _ | _
                · rcases c8 with _ | _ <;> kernel_rfl
                · kernel_rfl
              · kernel_rfl
            · kernel_rfl
          · kernel_rfl
        · kernel_rfl
      · kernel_rfl
    · kernel_rfl
  · kernel_rfl
set_option maxRecDepth 100000 in
theorem may_ans8 (c0 c1 c2 c3 c4 c5 c6 c7 c8 n1 n2 : Bool) : aAnswer (tMay (hasL 8) [c0, c1, c2, c3, c4, c5, c6, c7, c8] n1 n2) 264 (opsOfR Tryz.f12 5) [(1, .p 0 0), (4, .p 1 0)] 117 = some (.b (mayF (hasL 8) [c0, c1, c2, c3, c4, c5, c6, c7, c8] n1 n2)) := by
  rcases c3 with _ | _
  · rcases n1 with _ | _
    · rcases n2 with _ | _
      · rcases c4 with _ | _
        · rcases c5 with _ | _
          · rcases c6 with _ | _
            · rcases c7 with _ | _
              · rcases c8 with _ | _ <;> kernel_rfl
              · kernel_rfl
            · kernel_rfl
          · kernel_rfl
        · kernel_rfl
      · kernel_rfl
    · kernel_rfl
  · kernel_rfl
set_option maxRecDepth 100000 in
theorem may_ans9 (c0 c1 c2 c3 c4 c5 c6 c7 c8 n1 n2 : Bool) : aAnswer (tMay (hasL 9) [c0, c1, c2, c3, c4, c5, c6, c7, c8] n1 n2) 264 (opsOfR Tryz.f12 5) [(1, .p 0 0), (4, .p 1 0)] 117 = some (.b (mayF (hasL 9) [c0, c1, c2, c3, c4, c5, c6, c7, c8] n1 n2)) := by
  rcases c0 with _ | _
  · rcases c1 with _ | _
    · rcases c3 with _ | _
      · rcases n1 with _ | _
        · rcases n2 with _ | _
          · rcases c4 with _ | _
            · rcases c5 with _ | _
              · rcases c6 with _ | _
                · rcases c7 with _ | _
                  · rcases c8 with _ | _ <;> kernel_rfl
                  · kernel_rfl
                · kernel_rfl
              · kernel_rfl
            · kernel_rfl
          · kernel_rfl
        · kernel_rfl
      · kernel_rfl
    · kernel_rfl
  · kernel_rfl
set_option maxRecDepth 100000 in
theorem may_ans11 (c0 c1 c2 c3 c4 c5 c6 c7 c8 n1 n2 : Bool) : aAnswer (tMay (hasL 11) [c0, c1, c2, c3, c4, c5, c6, c7, c8] n1 n2) 264 (opsOfR Tryz.f12 5) [(1, .p 0 0), (4, .p 1 0)] 117 = some (.b (mayF (hasL 11) [c0, c1, c2, c3, c4, c5, c6, c7, c8] n1 n2)) := by
  rcases c0 with _ | _
  · rcases c1 with _ | _
    · rcases c2 with _ | _
      · rcases n1 with _ | _
        · rcases n2 with _ | _
          · rcases c4 with _ | _
            · rcases c5 with _ | _
              · rcases c6 with _ | _
                · rcases c7 with _ | _
                  · rcases c8 with _ | _ <;> kernel_rfl
                  · kernel_rfl
                · kernel_rfl
              · kernel_rfl
            · kernel_rfl
          · kernel_rfl
        · kernel_rfl
      · kernel_rfl
    · kernel_rfl
  · kernel_rfl
set_option maxRecDepth 100000 in
theorem may_ans12 (c0 c1 c2 c3 c4 c5 c6 c7 c8 n1 n2 : Bool) : aAnswer (tMay (hasL 12) [c0, c1, c2, c3, c4, c5, c6, c7, c8] n1 n2) 264 (opsOfR Tryz.f12 5) [(1, .p 0 0), (4, .p 1 0)] 117 = some (.b (mayF (hasL 12) [c0, c1, c2, c3, c4, c5, c6, c7, c8] n1 n2)) := by
  rcases c0 with _ | _
  · rcases c1 with _ | _
    · rcases c2 with _ | _
      · rcases c3 with _ | _
        · rcases n1 with _ | _
          · rcases n2 with _ | _
            · rcases c4 with _ | _
              · rcases c6 with _ | _
                · rcases c7 with _ | _
                  · rcases c8 with _ | _ <;> kernel_rfl
                  · kernel_rfl
                · kernel_rfl
              · kernel_rfl
            · kernel_rfl
          · kernel_rfl
        · kernel_rfl
      · kernel_rfl
    · kernel_rfl
  · kernel_rfl
set_option maxRecDepth 100000 in
theorem may_ans13 (c0 c1 c2 c3 c4 c5 c6 c7 c8 n1 n2 : Bool) : aAnswer (tMay (hasL 13) [c0, c1, c2, c3, c4, c5, c6, c7, c8] n1 n2) 264 (opsOfR Tryz.f12 5) [(1, .p 0 0), (4, .p 1 0)] 117 = some (.b (mayF (hasL 13) [c0, c1, c2, c3, c4, c5, c6, c7, c8] n1 n2)) := by
  rcases c1 with _ | _
  · rcases c2 with _ | _
    · rcases c5 with _ | _
      · rcases c6 with _ | _
        · rcases c7 with _ | _
          · rcases c8 with _ | _ <;> kernel_rfl
          · kernel_rfl
        · kernel_rfl
      · kernel_rfl
    · kernel_rfl
  · kernel_rfl
theorem may_ans {s : Int} (h0 : 1 ≤ s) (h1 : s ≤ 13) (c0 c1 c2 c3 c4 c5 c6 c7 c8 n1 n2 : Bool) : aAnswer (tMay (hasL s) [c0, c1, c2, c3, c4, c5, c6, c7, c8] n1 n2) 264 (opsOfR Tryz.f12 5) [(1, .p 0 0), (4, .p 1 0)] 117 = some (.b (mayF (hasL s) [c0, c1, c2, c3, c4, c5, c6, c7, c8] n1 n2)) := by
  rcases (show s = 1 ∨ s = 2 ∨ s = 3 ∨ s = 4 ∨ s = 5 ∨ s = 6 ∨ s = 7 ∨ s = 8 ∨ s = 9 ∨ s = 10 ∨ s = 11 ∨ s = 12 ∨ s = 13 by omega) with rfl | rfl | rfl | rfl | rfl | rfl | rfl | rfl | rfl | rfl | rfl | rfl | rfl
  · exact may_ans1 _ _ _ _ _ _ _ _ _ _ _
  · exact may_ans2 _ _ _ _ _ _ _ _ _ _ _
  · exact may_ans3 _ _ _ _ _ _ _ _ _ _ _
  · exact may_ans6 _ _ _ _ _ _ _ _ _ _ _
  · exact may_ans5 _ _ _ _ _ _ _ _ _ _ _
  · exact may_ans6 _ _ _ _ _ _ _ _ _ _ _
  · exact may_ans7 _ _ _ _ _ _ _ _ _ _ _
  · exact may_ans8 _ _ _ _ _ _ _ _ _ _ _
  · exact may_ans9 _ _ _ _ _ _ _ _ _ _ _
  · exact may_ans9 _ _ _ _ _ _ _ _ _ _ _
  · exact may_ans11 _ _ _ _ _ _ _ _ _ _ _
  · exact may_ans12 _ _ _ _ _ _ _ _ _ _ _
  · exact may_ans13 _ _ _ _ _ _ _ _ _ _ _
theorem zero_heap (w : World) : (Instr.build 34 #[]).run Tryz.prog w = .ok (.agg #[.int .i64 0, .int .i64 0]) w := by kernel_rfl
theorem zero_block (w : World) : (Instr.build 41 #[]).run Tryz.prog w = .ok (.agg #[.int .i64 0, .int .i64 0, .bool false, .int .i64 0, .int .i64 0, .int .i64 0]) w := by kernel_rfl
theorem gtr_int (w : World) (t : TypeId) (k : IntKind) (a b : Int) (X Y : Operand) : (do eqGuard .gtr t X Y (.int k a) (.int k b); binOp .gtr t (.int k a) (.int k b) : Sem Value).run Tryz.prog w = .ok (.bool (decide (a > b))) w := by
  simp [eqGuard, binOp, Op.intCmp]
theorem idx_nine (b : Nat) (w : World) (n : Int) (h0 : 0 ≤ n) (h1 : n < 9) : (Instr.indexAt 69 (.pointer (some ⟨b, 0, none⟩)) (.int .i64 n)).run Tryz.prog w = .ok (.pointer (some ⟨b, n.toNat, none⟩)) w := by
  rcases (show n = 0 ∨ n = 1 ∨ n = 2 ∨ n = 3 ∨ n = 4 ∨ n = 5 ∨ n = 6 ∨ n = 7 ∨ n = 8 by omega) with rfl | rfl | rfl | rfl | rfl | rfl | rfl | rfl | rfl <;> kernel_rfl
def vsMay (i : InstrT) (tv lv cv : Value) (k : Nat) : Value :=
  if k < 20 then insAt i tv lv cv k else if k = 20 then .agg #[.int .i64 0, .int .i64 0] else if k = 21 then .agg #[.int .i64 0, .int .i64 0, .bool false, .int .i64 0, .int .i64 0, .int .i64 0]
  else if k = 22 then .int .i64 i.types.length else if k = 23 then .int .i64 i.labels.length else .int .i64 i.catches.length
def csMay (i : InstrT) : List Bool := [i.x != 0, i.y != 0, (i.u : Int) != 0, decide (i.heap ≠ ⟨0, 0⟩), decide (i.heap2 ≠ ⟨0, 0⟩), decide ((i.types.length : Int) > 0), decide ((i.labels.length : Int) > 0), decide (i.block ≠ ⟨0, ⟨0, false, ⟨0, 0⟩⟩, 0⟩), decide ((i.catches.length : Int) > 0)]
theorem hasL_len (s : Int) : (hasL s).length = 9 := by
  unfold hasL
  repeat' split
  all_goals rfl
theorem tMay_ok {w : World} {b0 b1 : Nat} {i : InstrT} {tv lv cv : Value} {s : Int} (hc0 : ∀ r, r < 19 → w.cell? ⟨b0, r, none⟩ = (insC i tv lv cv)[r]?) (hc1 : ∀ r, r < 9 → w.cell? ⟨b1, r, none⟩ = (nineC s)[r]?)
    (hv1 : ∃ a c, tv = .slice a i.types.length c) (hv2 : ∃ a c, lv = .slice a i.labels.length c) (hv3 : ∃ a c, cv = .slice a i.catches.length c) :
    ∀ key v, tMay (hasL s) (csMay i) i.null i.null2 key = some v → key.runs (vsMay i tv lv cv) (fun g => if g = 0 then b0 else b1) Tryz.prog (· = w) v := by
  intro key v h
  unfold tMay at h
  split at h
  · rename_i ty f
    split at h
    · rename_i hk
      injection h with h
      subst h
      obtain ⟨rfl, hf⟩ := hk
      intro w' _
      exact fld_ins _ w' f hf
    · cases h
  · rename_i ty n
    split at h
    · rename_i hk
      injection h with h
      subst h
      obtain ⟨rfl, h0, h1⟩ := hk
      intro w' _
      exact idx_nine _ w' n h0 h1
    · cases h
  · rename_i ty g o
    split at h
    · rename_i hk
      injection h with h
      subst h
      obtain ⟨rfl, rfl, ho⟩ := hk
      rintro w' rfl
      refine run_load1 (d := (Tryz.prog.underlying 4).get (by kernel_rfl)) (by kernel_rfl) (by kernel_rfl) ?_
      have := hc1 o ho
      show World.cell? _ ⟨b1, o, none⟩ = _
      rw [this]
      unfold nineC
      have hl := hasL_len s
      rw [List.getElem?_map, List.getElem?_eq_getElem (by omega), List.getD_eq_getElem?_getD, List.getElem?_eq_getElem (by omega)]
      rfl
    · split at h
      · rename_i hk
        injection h with h
        subst h
        obtain ⟨rfl, rfl, rfl⟩ := hk
        rintro w' rfl
        exact load_ins hc0 4 8 (by decide)
      · split at h
        · rename_i hk
          injection h with h
          subst h
          obtain ⟨rfl, rfl, rfl⟩ := hk
          rintro w' rfl
          exact load_ins hc0 4 9 (by decide)
        · split at h
          · rename_i hk
            injection h with h
            subst h
            obtain ⟨rfl, hm⟩ := hk
            rintro w' rfl
            have ho : o < 20 := by
              have : insLoads.all (fun p => decide (p.2 < 20)) = true := by decide
              simpa using List.all_eq_true.1 this _ hm
            have := load_ins hc0 ty o hm
            show (Instr.loadAt ty (.pointer (some ⟨b0, o, none⟩))).run _ w' = .ok (vsMay i tv lv cv o) w'
            unfold vsMay
            rw [if_pos ho]
            exact this
          · cases h
  · rename_i ty
    split at h
    · rename_i hk
      injection h with h
      subst h
      subst hk
      intro w' _
      exact zero_heap w'
    · split at h
      · rename_i hk
        injection h with h
        subst h
        subst hk
        intro w' _
        exact zero_block w'
      · cases h
  · rename_i t k
    split at h
    · rename_i hk
      injection h with h
      subst h
      obtain ⟨rfl, rfl⟩ := hk
      obtain ⟨a, c, rfl⟩ := hv1
      intro w' _ ty cs
      exact len_slice w' _ 39 (by kernel_rfl) a _ c ty cs
    · split at h
      · rename_i hk
        injection h with h
        subst h
        obtain ⟨rfl, rfl⟩ := hk
        obtain ⟨a, c, rfl⟩ := hv2
        intro w' _ ty cs
        exact len_slice w' _ 3 (by kernel_rfl) a _ c ty cs
      · split at h
        · rename_i hk
          injection h with h
          subst h
          obtain ⟨rfl, rfl⟩ := hk
          obtain ⟨a, c, rfl⟩ := hv3
          intro w' _ ty cs
          exact len_slice w' _ 67 (by kernel_rfl) a _ c ty cs
        · cases h
  · rename_i ty k kd n
    split at h
    · rename_i hk
      injection h with h
      subst h
      obtain ⟨rfl, rfl, rfl, rfl⟩ := hk
      intro w' _ X Y
      exact neq_int w' _ _ _ _ X Y
    · split at h
      · rename_i hk
        injection h with h
        subst h
        obtain ⟨rfl, rfl, rfl, rfl⟩ := hk
        intro w' _ X Y
        exact neq_int w' _ _ _ _ X Y
      · split at h
        · rename_i hk
          injection h with h
          subst h
          obtain ⟨rfl, rfl, rfl, rfl⟩ := hk
          intro w' _ X Y
          exact neq_int w' _ _ _ _ X Y
        · cases h
  · rename_i ty k j
    split at h
    · rename_i hk
      injection h with h
      subst h
      obtain ⟨rfl, rfl, rfl⟩ := hk
      intro w' _ X Y
      exact neq_heap w' _ _ _ _ X Y
    · split at h
      · rename_i hk
        injection h with h
        subst h
        obtain ⟨rfl, rfl, rfl⟩ := hk
        intro w' _ X Y
        exact neq_heap w' _ _ _ _ X Y
      · split at h
        · rename_i hk
          injection h with h
          subst h
          obtain ⟨rfl, rfl, rfl⟩ := hk
          intro w' _ X Y
          exact neq_block w' _ _ _ _ _ _ _ _ _ _ _ _ X Y
        · cases h
  · rename_i ty k kd n
    split at h
    · rename_i hk
      injection h with h
      subst h
      obtain ⟨rfl, rfl, rfl, rfl⟩ := hk
      intro w' _ X Y
      exact gtr_int w' _ _ _ _ X Y
    · split at h
      · rename_i hk
        injection h with h
        subst h
        obtain ⟨rfl, rfl, rfl, rfl⟩ := hk
        intro w' _ X Y
        exact gtr_int w' _ _ _ _ X Y
      · split at h
        · rename_i hk
          injection h with h
          subst h
          obtain ⟨rfl, rfl, rfl, rfl⟩ := hk
          intro w' _ X Y
          exact gtr_int w' _ _ _ _ X Y
        · cases h
  · cases h
end Go.Proofs.YtokneepfknepaaaGreatDoor

set_option linter.unusedSimpArgs false
set_option linter.unusedVariables false
namespace Go.Proofs.YtokneepfknepaaaGreatDoor
open Go.RowKit
/-- The keys of the chain of what may not be. -/
def tMay7 (ix iy e8 g6 e9 g2 h3 p1 h4 p2 vt : Bool) : RKey → Option AV
  | .fld ty (.p 0 0) f => if ty = 44 ∧ f < 12 then some (.p 0 (insOff f)) else none
  | .idx ty (.p 1 0) (.c .i64 n) => if ty = 69 ∧ 0 ≤ n ∧ n < 9 then some (.p 1 n.toNat) else none
  | .load ty (.p g o) => if g = 1 ∧ ty = 4 ∧ o = 3 then some (.b h3) else if g = 1 ∧ ty = 4 ∧ o = 4 then some (.b h4) else if g = 0 ∧ (ty, o) ∈ insLoads then some (.k o) else none
  | .bin .eql ty (.k i) (.c kd n) => if ty = 56 ∧ i = 30 ∧ kd = .i64 ∧ n = 8 then some (.b e8) else if ty = 56 ∧ i = 30 ∧ kd = .i64 ∧ n = 9 then some (.b e9) else none
  | .bin .gtr ty (.k i) (.c kd n) => if ty = 3 ∧ kd = .i64 ∧ n = 63 ∧ i = 1 then some (.b g6) else none
  | .bin .geq ty (.k i) (.c kd n) => if ty = 31 ∧ kd = .u64 ∧ n = 4294967296 ∧ i = 3 then some (.b g2) else none
  | .call f [.k i] => if f = 36 ∧ i = 1 then some (.b ix) else if f = 36 ∧ i = 2 then some (.b iy) else if f = 37 ∧ i = 4 then some (.b p1) else if f = 37 ∧ i = 6 then some (.b p2)
      else if f = 38 ∧ i = 10 then some (.b vt) else none
  | _ => none
set_option maxRecDepth 100000 in
theorem may7_ans (ix iy e8 g6 e9 g2 h3 p1 h4 p2 vt : Bool) : aAnswer (tMay7 ix iy e8 g6 e9 g2 h3 p1 h4 p2 vt) 264 (opsOfR Tryz.f12 7) [(1, .p 0 0), (3, .k 30), (4, .p 1 0)] 171 = some (.b (!ix || !iy || e8 && g6 || e9 && g2 || h3 && !p1 || h4 && !p2 || !vt)) := by
  rcases ix with _ | _
  · kernel_rfl
  · rcases iy with _ | _
    · kernel_rfl
    · rcases e8 with _ | _
      · rcases e9 with _ | _
        · rcases h3 with _ | _
          · rcases h4 with _ | _
            · rcases vt with _ | _
              · kernel_rfl
              · kernel_rfl
            · rcases p2 with _ | _
              · kernel_rfl
              · rcases vt with _ | _
                · kernel_rfl
                · kernel_rfl
          · rcases p1 with _ | _
            · kernel_rfl
            · rcases h4 with _ | _
              · rcases vt with _ | _
                · kernel_rfl
                · kernel_rfl
              · rcases p2 with _ | _
                · kernel_rfl
                · rcases vt with _ | _
                  · kernel_rfl
                  · kernel_rfl
        · rcases g2 with _ | _
          · rcases h3 with _ | _
            · rcases h4 with _ | _
              · rcases vt with _ | _
                · kernel_rfl
                · kernel_rfl
              · rcases p2 with _ | _
                · kernel_rfl
                · rcases vt with _ | _
                  · kernel_rfl
                  · kernel_rfl
            · rcases p1 with _ | _
              · kernel_rfl
              · rcases h4 with _ | _
                · rcases vt with _ | _
                  · kernel_rfl
                  · kernel_rfl
                · rcases p2 with _ | _
                  · kernel_rfl
                  · rcases vt with _ | _
                    · kernel_rfl
                    · kernel_rfl
          · kernel_rfl
      · rcases g6 with _ | _
        · rcases e9 with _ | _
          · rcases h3 with _ | _
            · rcases h4 with _ | _
              · rcases vt with _ | _
                · kernel_rfl
                · kernel_rfl
              · rcases p2 with _ | _
                · kernel_rfl
                · rcases vt with _ | _
                  · kernel_rfl
                  · kernel_rfl
            · rcases p1 with _ | _
              · kernel_rfl
              · rcases h4 with _ | _
                · rcases vt with _ | _
                  · kernel_rfl
                  · kernel_rfl
                · rcases p2 with _ | _
                  · kernel_rfl
                  · rcases vt with _ | _
                    · kernel_rfl
                    · kernel_rfl
          · rcases g2 with _ | _
            · rcases h3 with _ | _
              · rcases h4 with _ | _
                · rcases vt with _ | _
                  · kernel_rfl
                  · kernel_rfl
                · rcases p2 with _ | _
                  · kernel_rfl
                  · rcases vt with _ | _
                    · kernel_rfl
                    · kernel_rfl
              · rcases p1 with _ | _
                · kernel_rfl
                · rcases h4 with _ | _
                  · rcases vt with _ | _
                    · kernel_rfl
                    · kernel_rfl
                  · rcases p2 with _ | _
                    · kernel_rfl
                    · rcases vt with _ | _
                      · kernel_rfl
                      · kernel_rfl
            · kernel_rfl
        · kernel_rfl
theorem eql_int (w : World) (t : TypeId) (k : IntKind) (a b : Int) (X Y : Operand) : (do eqGuard .eql t X Y (.int k a) (.int k b); binOp .eql t (.int k a) (.int k b) : Sem Value).run Tryz.prog w = .ok (.bool (a == b)) w := by
  simp [eqGuard, binOp, Op.intCmp]
theorem geq_int (w : World) (t : TypeId) (k : IntKind) (a b : Int) (X Y : Operand) : (do eqGuard .geq t X Y (.int k a) (.int k b); binOp .geq t (.int k a) (.int k b) : Sem Value).run Tryz.prog w = .ok (.bool (decide (a ≥ b))) w := by
  simp [eqGuard, binOp, Op.intCmp]
def vsMay7 (i : InstrT) (tv lv cv : Value) (k : Nat) : Value := if k < 20 then insAt i tv lv cv k else .int .i64 (shapeP i.op)
theorem call_index (w : World) (x : Int) : (callFunc 36 #[.int .i64 x]).run Tryz.prog w = .ok (.enter 36 #[.int .i64 x]) w := by kernel_rfl
theorem call_heap (w : World) (x : Value) : (callFunc 37 #[x]).run Tryz.prog w = .ok (.enter 37 #[x]) w := by kernel_rfl
theorem call_vals (w : World) (x : Value) : (callFunc 38 #[x]).run Tryz.prog w = .ok (.enter 38 #[x]) w := by kernel_rfl
theorem tMay7_ok {W : World} {b0 b1 : Nat} {i : InstrT} {tv lv cv : Value} (hc0 : ∀ r, r < 19 → W.cell? ⟨b0, r, none⟩ = (insC i tv lv cv)[r]?) (hc1 : ∀ r, r < 9 → W.cell? ⟨b1, r, none⟩ = (nineC (shapeP i.op))[r]?) (hb0 : b0 < W.heap.size) (hb1 : b1 < W.heap.size)
    (hT : Sl [] W 4 tv i.types.length (i.types.flatMap valC)) (hl : i.types.length ≤ 1099511627776) :
    ∀ key v, tMay7 (idx i.x) (idx i.y) (shapeP i.op == 8) (decide (i.x > 63)) (shapeP i.op == 9) (decide ((i.u : Int) ≥ 4294967296)) ((hasL (shapeP i.op)).getD 3 false) (plainH i.heap) ((hasL (shapeP i.op)).getD 4 false) (plainH i.heap2) (i.types.all plainVal) key = some v →
      key.runs (vsMay7 i tv lv cv) (fun g => if g = 0 then b0 else b1) Tryz.prog (fun w' => Fr [] W w') v := by
  intro key v h
  unfold tMay7 at h
  split at h
  · rename_i ty f
    split at h
    · rename_i hk
      injection h with h
      subst h
      obtain ⟨rfl, hf⟩ := hk
      intro w' _
      exact fld_ins _ w' f hf
    · cases h
  · rename_i ty n
    split at h
    · rename_i hk
      injection h with h
      subst h
      obtain ⟨rfl, h0, h1⟩ := hk
      intro w' _
      exact idx_nine _ w' n h0 h1
    · cases h
  · rename_i ty g o
    have hh : ∀ o, o < 9 → ∀ w', Fr [] W w' → (Instr.loadAt 4 (.pointer (some ⟨b1, o, none⟩))).run Tryz.prog w' = .ok (.bool ((hasL (shapeP i.op)).getD o false)) w' := fun o ho w' hf => by
      refine run_load1 (d := (Tryz.prog.underlying 4).get (by kernel_rfl)) (by kernel_rfl) (by kernel_rfl) ?_
      rw [hf.cell hb1 (by simp), hc1 o ho]
      unfold nineC
      have hl := hasL_len (shapeP i.op)
      rw [List.getElem?_map, List.getElem?_eq_getElem (by omega), List.getD_eq_getElem?_getD, List.getElem?_eq_getElem (by omega)]
      rfl
    split at h
    · rename_i hk
      injection h with h
      subst h
      obtain ⟨rfl, rfl, rfl⟩ := hk
      intro w' hf
      exact hh 3 (by decide) w' hf
    · split at h
      · rename_i hk
        injection h with h
        subst h
        obtain ⟨rfl, rfl, rfl⟩ := hk
        intro w' hf
        exact hh 4 (by decide) w' hf
      · split at h
        · rename_i hk
          injection h with h
          subst h
          obtain ⟨rfl, hm⟩ := hk
          intro w' hf
          have ho : o < 20 := by
            have : insLoads.all (fun p => decide (p.2 < 20)) = true := by decide
            simpa using List.all_eq_true.1 this _ hm
          have := load_ins (w := w') (fun r hr => (hf.cell hb0 (by simp) r).trans (hc0 r hr)) ty o hm
          show (Instr.loadAt ty (.pointer (some ⟨b0, o, none⟩))).run _ w' = .ok (vsMay7 i tv lv cv o) w'
          unfold vsMay7
          rw [if_pos ho]
          exact this
        · cases h
  · rename_i ty k kd n
    split at h
    · rename_i hk
      injection h with h
      subst h
      obtain ⟨rfl, rfl, rfl, rfl⟩ := hk
      intro w' _ X Y
      exact eql_int w' _ _ _ _ X Y
    · split at h
      · rename_i hk
        injection h with h
        subst h
        obtain ⟨rfl, rfl, rfl, rfl⟩ := hk
        intro w' _ X Y
        exact eql_int w' _ _ _ _ X Y
      · cases h
  · rename_i ty k kd n
    split at h
    · rename_i hk
      injection h with h
      subst h
      obtain ⟨rfl, rfl, rfl, rfl⟩ := hk
      intro w' _ X Y
      exact gtr_int w' _ _ _ _ X Y
    · cases h
  · rename_i ty k kd n
    split at h
    · rename_i hk
      injection h with h
      subst h
      obtain ⟨rfl, rfl, rfl, rfl⟩ := hk
      intro w' _ X Y
      exact geq_int w' _ _ _ _ X Y
    · cases h
  · rename_i f k
    split at h
    · rename_i hk
      injection h with h
      subst h
      obtain ⟨rfl, rfl⟩ := hk
      intro w' hf
      exact ⟨call_index w' i.x, (refIndex_any w' i.x).mono fun e w2 ⟨h1, h2⟩ => ⟨h1, h2 ▸ hf⟩⟩
    · split at h
      · rename_i hk
        injection h with h
        subst h
        obtain ⟨rfl, rfl⟩ := hk
        intro w' hf
        exact ⟨call_index w' i.y, (refIndex_any w' i.y).mono fun e w2 ⟨h1, h2⟩ => ⟨h1, h2 ▸ hf⟩⟩
      · split at h
        · rename_i hk
          injection h with h
          subst h
          obtain ⟨rfl, rfl⟩ := hk
          intro w' hf
          exact ⟨call_heap w' _, (refPlain_any w' i.heap).mono fun e w2 ⟨h1, h2⟩ => ⟨h1, hf.trans h2⟩⟩
        · split at h
          · rename_i hk
            injection h with h
            subst h
            obtain ⟨rfl, rfl⟩ := hk
            intro w' hf
            exact ⟨call_heap w' _, (refPlain_any w' i.heap2).mono fun e w2 ⟨h1, h2⟩ => ⟨h1, hf.trans h2⟩⟩
          · split at h
            · rename_i hk
              injection h with h
              subst h
              obtain ⟨rfl, rfl⟩ := hk
              intro w' hf
              exact ⟨call_vals w' _, (refVals_any w' tv i.types (hT.fr hf (by simp)) hl).mono fun e w2 ⟨h1, h2⟩ => ⟨h1, hf.trans h2⟩⟩
            · cases h
  · cases h
end Go.Proofs.YtokneepfknepaaaGreatDoor

set_option linter.unusedSimpArgs false
set_option linter.unusedVariables false
namespace Go.Proofs.YtokneepfknepaaaGreatDoor
open Go.RowKit
/-- The keys of the chain over a catch, which lies in block 2. -/
def tCat (b1 b2 b3 b4 b5 b6 : Bool) : RKey → Option AV
  | .fld ty (.p 2 0) f => if ty = 67 ∧ f < 3 then some (.p 2 f) else none
  | .load ty (.p 2 o) => if ty = 3 ∧ o < 3 then some (.k o) else none
  | .bin .lss ty (.k i) (.c kd n) => if ty = 3 ∧ i = 0 ∧ kd = .i64 ∧ n = 0 then some (.b b1) else none
  | .bin .gtr ty (.k i) (.c kd n) => if ty = 3 ∧ i = 0 ∧ kd = .i64 ∧ n = 3 then some (.b b2) else if ty = 3 ∧ i = 0 ∧ kd = .i64 ∧ n = 1 then some (.b b5) else none
  | .bin .neq ty (.k i) (.c kd n) => if ty = 3 ∧ i = 1 ∧ kd = .i64 ∧ n = 0 then some (.b b6) else none
  | .call f [.k i] => if f = 36 ∧ i = 2 then some (.b b3) else if f = 36 ∧ i = 1 then some (.b b4) else none
  | _ => none
set_option maxRecDepth 100000 in
theorem cat_ans (b1 b2 b3 b4 b5 b6 : Bool) : aAnswer (tCat b1 b2 b3 b4 b5 b6) 264 (opsOfR Tryz.f12 18) [(7, .p 2 0)] 227 = some (.b (b1 || b2 || !b3 || !b4 || b5 && b6)) := by
  rcases b1 with _ | _
  · rcases b2 with _ | _
    · rcases b3 with _ | _
      · kernel_rfl
      · rcases b4 with _ | _
        · kernel_rfl
        · rcases b5 with _ | _
          · kernel_rfl
          · rcases b6 with _ | _ <;> kernel_rfl
    · kernel_rfl
  · kernel_rfl
def vsCat (c : CatchT) (k : Nat) : Value := if k = 0 then .int .i64 c.kind else if k = 1 then .int .i64 c.tag else .int .i64 c.label
theorem lss_int (w : World) (t : TypeId) (k : IntKind) (a b : Int) (X Y : Operand) : (do eqGuard .lss t X Y (.int k a) (.int k b); binOp .lss t (.int k a) (.int k b) : Sem Value).run Tryz.prog w = .ok (.bool (decide (a < b))) w := by
  simp [eqGuard, binOp, Op.intCmp]
theorem fld_cat (b : Nat) (w : World) (f : Nat) (hf : f < 3) : (Instr.fieldAt 67 (.pointer (some ⟨b, 0, none⟩)) f).run Tryz.prog w = .ok (.pointer (some ⟨b, f, none⟩)) w := by
  rcases (show f = 0 ∨ f = 1 ∨ f = 2 by omega) with rfl | rfl | rfl <;> kernel_rfl
theorem tCat_ok {W : World} {b : Nat} {c : CatchT} (hc : ∀ r, r < 3 → W.cell? ⟨b, r, none⟩ = (catchC c)[r]?) :
    ∀ key v, tCat (decide (c.kind < 0)) (decide (c.kind > 3)) (idx c.label) (idx c.tag) (decide (c.kind > 1)) (c.tag != 0) key = some v → key.runs (vsCat c) (fun _ => b) Tryz.prog (· = W) v := by
  intro key v h
  unfold tCat at h
  split at h
  · rename_i ty f
    split at h
    · rename_i hk
      injection h with h
      subst h
      obtain ⟨rfl, hf⟩ := hk
      intro w' _
      exact fld_cat _ w' f hf
    · cases h
  · rename_i ty o
    split at h
    · rename_i hk
      injection h with h
      subst h
      obtain ⟨rfl, ho⟩ := hk
      rintro w' rfl
      refine run_load1 (d := (Tryz.prog.underlying 3).get (by kernel_rfl)) (by kernel_rfl) (by kernel_rfl) ?_
      rw [hc o ho]
      rcases (show o = 0 ∨ o = 1 ∨ o = 2 by omega) with rfl | rfl | rfl <;> rfl
    · cases h
  · rename_i ty i kd n
    split at h
    · rename_i hk
      injection h with h
      subst h
      obtain ⟨rfl, rfl, rfl, rfl⟩ := hk
      intro w' _ X Y
      exact lss_int w' _ _ _ _ X Y
    · cases h
  · rename_i ty i kd n
    split at h
    · rename_i hk
      injection h with h
      subst h
      obtain ⟨rfl, rfl, rfl, rfl⟩ := hk
      intro w' _ X Y
      exact gtr_int w' _ _ _ _ X Y
    · split at h
      · rename_i hk
        injection h with h
        subst h
        obtain ⟨rfl, rfl, rfl, rfl⟩ := hk
        intro w' _ X Y
        exact gtr_int w' _ _ _ _ X Y
      · cases h
  · rename_i ty i kd n
    split at h
    · rename_i hk
      injection h with h
      subst h
      obtain ⟨rfl, rfl, rfl, rfl⟩ := hk
      intro w' _ X Y
      exact neq_int w' _ _ _ _ X Y
    · cases h
  · rename_i f i
    split at h
    · rename_i hk
      injection h with h
      subst h
      obtain ⟨rfl, rfl⟩ := hk
      rintro w' rfl
      exact ⟨call_index w' c.label, refIndex_any w' c.label⟩
    · split at h
      · rename_i hk
        injection h with h
        subst h
        obtain ⟨rfl, rfl⟩ := hk
        rintro w' rfl
        exact ⟨call_index w' c.tag, refIndex_any w' c.tag⟩
      · cases h
  · cases h
/-- The keys of the tests of a block's type, which lies in block 3. -/
def tBlk (b1 b2 b3 b4 : Bool) : RKey → Option AV
  | .fld ty (.p 3 0) f => if ty = 41 ∧ f = 1 then some (.p 3 1) else if ty = 41 ∧ f = 2 then some (.p 3 5) else none
  | .load ty (.p 3 o) => if ty = 3 ∧ o = 5 then some (.k 5) else if ty = 39 ∧ o = 1 then some (.k 1) else none
  | .zero ty => if ty = 39 then some (.k 9) else none
  | .bin .eql ty (.k i) (.c kd n) => if ty = 3 ∧ i = 5 ∧ kd = .i64 ∧ n = 0 then some (.b b1) else none
  | .bin .eql ty (.k i) (.k j) => if ty = 39 ∧ i = 1 ∧ j = 9 then some (.b b2) else none
  | .call f [.k i] => if f = 39 ∧ i = 1 then some (.b b3) else if f = 36 ∧ i = 5 then some (.b b4) else none
  | _ => none
set_option maxRecDepth 100000 in
theorem blk_ans0 (b1 b2 b3 b4 : Bool) : aAnswer (tBlk b1 b2 b3 b4) 264 (opsOfR Tryz.f12 23) [(8, .p 3 0)] 2 = some (.b (b1 && b2)) := by
  rcases b1 with _ | _
  · kernel_rfl
  · rcases b2 with _ | _ <;> kernel_rfl
set_option maxRecDepth 100000 in
theorem blk_ans1 (b1 b2 b3 b4 : Bool) : aAnswer (tBlk b1 b2 b3 b4) 264 (opsOfR Tryz.f12 25) [(8, .p 3 0)] 2 = some (.b (b1 && b3)) := by
  rcases b1 with _ | _
  · kernel_rfl
  · rcases b3 with _ | _ <;> kernel_rfl
set_option maxRecDepth 100000 in
theorem blk_ans2 (b1 b2 b3 b4 : Bool) : aAnswer (tBlk b1 b2 b3 b4) 264 (opsOfR Tryz.f12 27) [(8, .p 3 0)] 2 = some (.b (b4 && b2)) := by
  rcases b4 with _ | _
  · kernel_rfl
  · rcases b2 with _ | _ <;> kernel_rfl
def blkC (b : BlockT) : List Value := [.int .i64 b.kind, .int .i64 b.val.kind, .bool b.val.null, .int .i64 b.val.heap.kind, .int .i64 b.val.heap.n, .int .i64 b.n]
def vsBlk (b : BlockT) (k : Nat) : Value := if k = 5 then .int .i64 b.n else if k = 1 then .agg #[.int .i64 b.val.kind, .bool b.val.null, .int .i64 b.val.heap.kind, .int .i64 b.val.heap.n] else .agg #[.int .i64 0, .bool false, .int .i64 0, .int .i64 0]
theorem eql_val (w : World) (k1 : Int) (n1 : Bool) (h1 m1 k2 : Int) (n2 : Bool) (h2 m2 : Int) (X Y : Operand) :
    (do eqGuard .eql 39 X Y (.agg #[.int .i64 k1, .bool n1, .int .i64 h1, .int .i64 m1]) (.agg #[.int .i64 k2, .bool n2, .int .i64 h2, .int .i64 m2]);
        binOp .eql 39 (.agg #[.int .i64 k1, .bool n1, .int .i64 h1, .int .i64 m1]) (.agg #[.int .i64 k2, .bool n2, .int .i64 h2, .int .i64 m2]) : Sem Value).run Tryz.prog w
      = .ok (.bool (decide ((⟨k1, n1, ⟨h1, m1⟩⟩ : ValT) = ⟨k2, n2, ⟨h2, m2⟩⟩))) w := by
  go_simp
  by_cases e1 : k1 = k2 <;> by_cases e3 : n1 = n2 <;> by_cases e4 : h1 = h2 <;> by_cases e5 : m1 = m2 <;> simp [e1, e3, e4, e5]
theorem zero_val (w : World) : (Instr.build 39 #[]).run Tryz.prog w = .ok (.agg #[.int .i64 0, .bool false, .int .i64 0, .int .i64 0]) w := by kernel_rfl
theorem call_val4 (w : World) (x : Value) : (callFunc 39 #[x]).run Tryz.prog w = .ok (.enter 39 #[x]) w := by kernel_rfl
theorem und_valT : Tryz.prog.underlying 39 = some ((Tryz.prog.underlying 39).get (by kernel_rfl)) := by kernel_rfl
theorem fld_blk1 (b : Nat) (w : World) : (Instr.fieldAt 41 (.pointer (some ⟨b, 0, none⟩)) 1).run Tryz.prog w = .ok (.pointer (some ⟨b, 1, none⟩)) w := by kernel_rfl
theorem fld_blk2 (b : Nat) (w : World) : (Instr.fieldAt 41 (.pointer (some ⟨b, 0, none⟩)) 2).run Tryz.prog w = .ok (.pointer (some ⟨b, 5, none⟩)) w := by kernel_rfl
theorem tBlk_ok {W : World} {b : Nat} {t : BlockT} (hb : b < W.heap.size) (hc : ∀ r, r < 6 → W.cell? ⟨b, r, none⟩ = (blkC t)[r]?) :
    ∀ key v, tBlk (t.n == 0) (decide (t.val = ⟨0, false, ⟨0, 0⟩⟩)) (plainVal t.val) (idx t.n) key = some v → key.runs (vsBlk t) (fun _ => b) Tryz.prog (fun w' => Fr [] W w') v := by
  intro key v h
  unfold tBlk at h
  split at h
  · rename_i ty f
    split at h
    · rename_i hk
      injection h with h
      subst h
      obtain ⟨rfl, rfl⟩ := hk
      intro w' _
      exact fld_blk1 _ w'
    · split at h
      · rename_i hk
        injection h with h
        subst h
        obtain ⟨rfl, rfl⟩ := hk
        intro w' _
        exact fld_blk2 _ w'
      · cases h
  · rename_i ty o
    split at h
    · rename_i hk
      injection h with h
      subst h
      obtain ⟨rfl, rfl⟩ := hk
      intro w' hF
      refine run_load1 (d := (Tryz.prog.underlying 3).get (by kernel_rfl)) (by kernel_rfl) (by kernel_rfl) ?_
      rw [hF.cell hb (by simp), hc 5 (by decide)]
      rfl
    · split at h
      · rename_i hk
        injection h with h
        subst h
        obtain ⟨rfl, rfl⟩ := hk
        intro w' hF
        refine run_load_mid (cs := [.int .i64 t.val.kind, .bool t.val.null, .int .i64 t.val.heap.kind, .int .i64 t.val.heap.n]) (fun j v hj => ?_) und_valT (by kernel_rfl) (by kernel_rfl)
        have hj4 : j < 4 := by
          rcases Nat.lt_or_ge j 4 with h | h
          · exact h
          · rw [List.getElem?_eq_none (by simpa using h)] at hj; cases hj
        rw [hF.cell hb (by simp), hc (1 + j) (by omega), ← hj]
        rcases (show j = 0 ∨ j = 1 ∨ j = 2 ∨ j = 3 by omega) with rfl | rfl | rfl | rfl <;> rfl
      · cases h
  · rename_i ty
    split at h
    · rename_i hk
      injection h with h
      subst h
      subst hk
      intro w' _
      exact zero_val w'
    · cases h
  · rename_i ty i kd n
    split at h
    · rename_i hk
      injection h with h
      subst h
      obtain ⟨rfl, rfl, rfl, rfl⟩ := hk
      intro w' _ X Y
      exact eql_int w' _ _ _ _ X Y
    · cases h
  · rename_i ty i j
    split at h
    · rename_i hk
      injection h with h
      subst h
      obtain ⟨rfl, rfl, rfl⟩ := hk
      intro w' _ X Y
      exact eql_val w' _ _ _ _ _ _ _ _ X Y
    · cases h
  · rename_i f i
    split at h
    · rename_i hk
      injection h with h
      subst h
      obtain ⟨rfl, rfl⟩ := hk
      intro w' hF
      exact ⟨call_val4 w' _, (refVal_any w' t.val).mono fun e w2 ⟨h1, h2⟩ => ⟨h1, hF.trans h2⟩⟩
    · split at h
      · rename_i hk
        injection h with h
        subst h
        obtain ⟨rfl, rfl⟩ := hk
        intro w' hF
        exact ⟨call_index w' t.n, (refIndex_any w' t.n).mono fun e w2 ⟨h1, h2⟩ => ⟨h1, h2 ▸ hF⟩⟩
      · cases h
  · cases h
theorem und_catT : Tryz.prog.underlying 67 = some ((Tryz.prog.underlying 67).get (by kernel_rfl)) := by kernel_rfl
theorem size_catT : (Tryz.prog.info? 67).map (·.size) = some 3 := by kernel_rfl
theorem und_blkT : Tryz.prog.underlying 41 = some ((Tryz.prog.underlying 41).get (by kernel_rfl)) := by kernel_rfl
theorem size_blkT : (Tryz.prog.info? 41).map (·.size) = some 6 := by kernel_rfl
theorem notCat (c : CatchT) : (decide (c.kind < 0) || decide (c.kind > 3) || !idx c.label || !idx c.tag || decide (c.kind > 1) && (c.tag != 0)) = !rMayCatch c := by
  unfold rMayCatch
  rw [Bool.not_not, show (c.tag != 0) = decide (c.tag ≠ 0) by rw [Bool.eq_iff_iff]; simp]
theorem row_of {w : World} {b o : Nat} {cs : List Value} (h : ∀ r, r < cs.length → w.cell? ⟨b, o + r, none⟩ = cs[r]?) : w.rangeAt b o cs := fun r v hv => by
  rw [h r (List.getElem?_eq_some_iff.1 hv).1]
  exact hv
theorem envOne {t0 : Nat} {u : AV} {vs : Nat → Value} {bs : Nat → Nat} {l : List Value} (h1 : t0 < l.length) (h2 : l.toArray.getD t0 undef = u.val vs bs) : ∀ t v, aGet [(t0, u)] t = some v → t < l.length ∧ l.toArray.getD t undef = v.val vs bs := by
  intro t v hv
  simp only [aGet] at hv
  split at hv
  · rename_i e
    subst e
    injection hv with hv
    subst hv
    exact ⟨h1, h2⟩
  · cases hv
end Go.Proofs.YtokneepfknepaaaGreatDoor

set_option linter.unusedSimpArgs false
set_option linter.unusedVariables false
namespace Go.Proofs.YtokneepfknepaaaGreatDoor
open Go.RowKit
theorem shapeC (op : Int) (h1 : -9223372036854775808 ≤ op) (h2 : op < 9223372036854775808) {k : Int} (hk : shapeP op = k) (w : World) (hg : Gl7 [] w) : Calls Tryz.prog 24 #[.int .i64 op] w fun e w' => e = .returned (.int .i64 k) ∧ Fr [] w w' := by
  subst hk
  exact shape_any hg op h1 h2
theorem indexL_range (c : UInt8) : ∀ (l : List UInt8), -1 ≤ indexL l c ∧ indexL l c ≤ (l.length : Int) - 1
  | [] => by simp [indexL]
  | a :: l => by
    have := indexL_range c l
    have e : ((a :: l).length : Int) = l.length + 1 := by simp
    rw [e]
    unfold indexL
    split
    · omega
    · split <;> omega
theorem shape_range (op : Int) : 0 ≤ shapeP op ∧ shapeP op ≤ 13 := by
  unfold shapeP
  split
  · omega
  · have h := indexL_range (findL runsL op 0).2 lettersL
    have e : (lettersL.length : Int) - 1 = 12 := rfl
    omega
end Go.Proofs.YtokneepfknepaaaGreatDoor
