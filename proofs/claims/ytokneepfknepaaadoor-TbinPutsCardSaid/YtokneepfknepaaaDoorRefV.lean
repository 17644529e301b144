/- The walks of the document's answers: what is plain (layer 4). -/
import Derived.Test.YtokneepfknepaaaDoorRefW
set_option linter.unusedSimpArgs false
set_option linter.unusedVariables false
namespace Go.Proofs.YtokneepfknepaaaDoor
open Go.RowKit

def refH (h : HeapT) : Bool := givenH h || indexedH h

set_option maxRecDepth 100000 in
set_option maxHeartbeats 800000 in
theorem refHeap_any (w : World) (h : HeapT) : Calls Tryd.prog 69 #[heapV h] w fun e w' => e = .returned (.bool (refH h)) ∧ Fr [] w w' := by
  obtain ⟨k, n⟩ := h
  unfold heapV
  dsimp only
  go_enter Tryd.func69, Tryd.ntmps69
  go_wp2
  all_goals
    go_ret
    refine ⟨congrArg (fun x => Ending.returned (Value.bool x)) ?_, by repeat (first | (with_reducible exact Fr.refl _ _) | (with_reducible assumption) | (with_reducible apply Fr.alloc) | (with_reducible apply Fr.drew) | (with_reducible apply Fr.drewN) | (with_reducible refine Fr.setCell ?_ (by first | (left; simp; done) | (right; simp; done) | (right; simp; omega)) _))⟩
    simp only [beq_iff_eq, beq_eq_false_iff_ne, decide_eq_true_eq, decide_eq_false_iff_not] at *
    rw [Bool.eq_iff_iff]
    simp [refH, givenH, indexedH]
    omega

theorem plainVal_ref (k : Int) (nl : Bool) (hk hn : Int) : plainVal ⟨k, nl, ⟨hk, hn⟩⟩ = if k = 3 then refH ⟨hk, hn⟩ else ((k == 1 || k == 2) && !nl && hk == 0 && hn == 0) := by
  unfold plainVal refH
  dsimp only
  by_cases h : k = 1 ∨ k = 2
  · rw [if_pos h, if_neg (by omega), Bool.eq_iff_iff]
    rcases h with rfl | rfl <;> simp [and_assoc]
  · rw [if_neg h]
    split
    · rfl
    · have h1 : (k == 1) = false := by simp; omega
      have h2 : (k == 2) = false := by simp; omega
      rw [h1, h2]
      rfl

set_option maxRecDepth 100000 in
set_option maxHeartbeats 800000 in
theorem refVal_any (w : World) (t : ValT) : Calls Tryd.prog 28 #[valV t] w fun e w' => e = .returned (.bool (plainVal t)) ∧ Fr [] w w' := by
  obtain ⟨k, nl, ⟨hk, hn⟩⟩ := t
  unfold valV
  dsimp only
  have f0 : Fr [] w (w.alloc (.cells #[.int .i64 k, .bool nl, .int .i64 hk, .int .i64 hn] 44)) := (Fr.refl _ _).alloc _
  go_enter Tryd.func28, Tryd.ntmps28
  go_wp2_with (go_at_call 69; refine (refHeap_any _ ⟨hk, hn⟩).mono ?_; rintro e w1 ⟨rfl, hf1⟩; generalize hb1 : refH ⟨hk, hn⟩ = b1; have Hb1 := Lib.hid hb1; clear hb1)
  all_goals
    go_ret
    refine ⟨congrArg (fun x => Ending.returned (Value.bool x)) ?_, by first | exact f0.trans hf1 | repeat (first | (with_reducible exact Fr.refl _ _) | (with_reducible assumption) | (with_reducible apply Fr.alloc) | (with_reducible apply Fr.drew) | (with_reducible apply Fr.drewN) | (with_reducible refine Fr.setCell ?_ (by first | (left; simp; done) | (right; simp; done) | (right; simp; omega)) _))⟩
    rw [plainVal_ref]
    first
      | (rw [Hb1.out]; simp_all; done)
      | (simp_all; done)
      | trace_state

set_option maxRecDepth 100000 in
set_option maxHeartbeats 800000 in
theorem refVals_any (w : World) (v : Value) (ts : List ValT) (h : Sl [] w 4 v ts.length (ts.flatMap valC)) (hl : ts.length ≤ 1099511627776) :
    Calls Tryd.prog 31 #[v] w fun e w' => e = .returned (.bool (ts.all plainVal)) ∧ Fr [] w w' := by
  have hh := h
  obtain ⟨_, _, a, cap, rfl, _⟩ := h
  go_enter Tryd.func31, Tryd.ntmps31
  go_wp2
  go_loopw [3] (fun n wr => ∃ (i : Nat), n = .int .i64 i ∧ i ≤ ts.length ∧ Fr [] w wr ∧ Hid ((ts.take i).all plainVal = true)) (fun n _ => ts.length - (intOf n).toNat)
  case atStart => exact ⟨0, rfl, by omega, Fr.refl _ _, Lib.hid rfl⟩
  case round =>
    obtain ⟨i, rfl, hi, hF, hall⟩ := hrel
    by_cases hlt : i < ts.length
    · obtain ⟨x, hx⟩ : ∃ t, ts[i]? = some t := ⟨ts[i], by simp [hlt]⟩
      obtain ⟨b1, o1, p1, hv1, hb1, _, hd1⟩ := Sl.elem hh (fun _ => rfl) i x hx
      injection hv1 with e1 _ e1c
      subst e1 e1c
      have f10 := (hF.cell hb1 (by simp) _).trans (hd1 0 (by decide))
      have f11 := (hF.cell hb1 (by simp) _).trans (hd1 1 (by decide))
      have f12 := (hF.cell hb1 (by simp) _).trans (hd1 2 (by decide))
      have f13 := (hF.cell hb1 (by simp) _).trans (hd1 3 (by decide))
      clear hd1
      simp only [Nat.add_zero, ← Nat.add_assoc, valC, List.getElem?_cons_zero, List.getElem?_cons_succ] at f10 f11 f12 f13
      have i1 : (i : Int) < (ts.length : Int) := by omega
      have Hx := Lib.hid hx
      clear hx
      go_wp2_with (go_at_call 28; refine (refVal_any _ x).mono ?_; rintro e w1 ⟨rfl, hf1⟩; generalize hb1 : plainVal x = b1; have Hb1 := Lib.hid hb1; clear hb1)
      · have hne : ts.all plainVal = false := by
          apply Bool.eq_false_iff.2
          intro hc
          have := List.all_eq_true.1 hc x (List.mem_of_getElem? Hx.out)
          rw [Hb1.out] at this
          simp_all
        go_ret
        exact ⟨by rw [hne]; rfl, hF.trans hf1⟩
      · go_roundw
        case rel =>
          refine ⟨i + 1, by go_num, by omega, hF.trans hf1, Lib.hid ?_⟩
          rw [take_one ts i x Hx.out, List.all_append, hall.out]
          have := Hb1.out
          simp_all
        case measure => simp [intOf]; omega
    · have hk : i = ts.length := by omega
      subst hk
      have hallP : ts.all plainVal = true := by simpa using hall.out
      have HP := Lib.hid hallP
      clear hallP hall
      have i1 : ¬ (ts.length : Int) < (ts.length : Int) := by omega
      go_wp2
      go_ret
      exact ⟨by rw [HP.out]; rfl, hF⟩

theorem indexed_ref (x : HeapT) : indexedH x = (x.kind == 13 && refH x) := by
  obtain ⟨k, n⟩ := x
  rw [Bool.eq_iff_iff]
  simp [refH, givenH, indexedH]
  omega
theorem plainField_ref (x : FieldT) : plainField x = (plainVal x.val && (x.pack == 0 || ((x.pack == 8 || x.pack == 16) && x.val.kind == 1))) := by
  obtain ⟨p, v, m⟩ := x
  unfold plainField
  dsimp only
  by_cases h0 : p = 0
  · simp [h0]
  · rw [if_neg h0]
    by_cases h : p = 8 ∨ p = 16
    · rw [if_pos h, Bool.eq_iff_iff]
      obtain ⟨k, nl, ⟨hk, hn⟩⟩ := v
      rcases h with rfl | rfl
      all_goals
        simp [plainVal_ref]
        constructor
        · rintro ⟨rfl, rfl, rfl, rfl⟩; simp
        · rintro ⟨h1, rfl⟩; simp at h1; simp_all
    · rw [if_neg h]
      have h8 : (p == 8) = false := by simp; omega
      have h16 : (p == 16) = false := by simp; omega
      have h00 : (p == 0) = false := by simp; omega
      simp [h8, h16, h00]

theorem plainSub_no1 {t : SubT} {x : HeapT} (hx : x ∈ t.supers) (h : indexedH x = false) : plainSub t = false := by
  apply Bool.eq_false_iff.2
  intro hc
  unfold plainSub at hc
  simp only [Bool.and_eq_true, List.all_eq_true] at hc
  rw [hc.1.1 x hx] at h
  cases h
theorem plainSub_no4 {t : SubT} {x : FieldT} (hx : x ∈ t.comp.fields) (h : plainField x = false) : plainSub t = false := by
  apply Bool.eq_false_iff.2
  intro hc
  unfold plainSub at hc
  simp only [Bool.and_eq_true, List.all_eq_true] at hc
  rw [hc.1.2.2 x hx] at h
  cases h

set_option maxRecDepth 100000 in
set_option maxHeartbeats 3200000 in
theorem refSub_any (w : World) (t : SubT) (hv pv rv fv : Value) (h : SubR [] w t hv pv rv fv) (hl : t.supers.length ≤ 1099511627776 ∧ t.comp.params.length ≤ 1099511627776 ∧ t.comp.results.length ≤ 1099511627776 ∧ t.comp.fields.length ≤ 1099511627776) :
    Calls Tryd.prog 78 #[.agg #[.bool t.final_, hv, .int .i64 t.comp.kind, pv, rv, fv]] w fun e w' => e = .returned (.bool (plainSub t)) ∧ Fr [] w w' := by
  obtain ⟨fb, sup, ⟨ck, ps, rs, fs⟩⟩ := t
  obtain ⟨l1, l2, l3, l4⟩ := hl
  obtain ⟨hs1, hs2, hs3, hs4⟩ := h
  dsimp only at l1 l2 l3 l4 hs1 hs2 hs3 hs4 ⊢
  obtain ⟨ha, hc, rfl⟩ := hs1.shape
  obtain ⟨pa, pc, rfl⟩ := hs2.shape
  obtain ⟨ra, rc, rfl⟩ := hs3.shape
  obtain ⟨fa, fc, rfl⟩ := hs4.shape
  have f0 := ((Fr.refl [] w).alloc (.cells #[.bool fb, .slice ha sup.length hc, .int .i64 ck, .slice pa ps.length pc, .slice ra rs.length rc, .slice fa fs.length fc] 60))
  have hL0 : Loc (w.alloc (.cells #[.bool fb, .slice ha sup.length hc, .int .i64 ck, .slice pa ps.length pc, .slice ra rs.length rc, .slice fa fs.length fc] 60)) w.heap.size [.bool fb, .slice ha sup.length hc, .int .i64 ck, .slice pa ps.length pc, .slice ra rs.length rc, .slice fa fs.length fc] 60 := Loc.new _ _ _
  go_enter Tryd.func78, Tryd.ntmps78
  go_wp2
  go_loopw [3] (fun n wr => ∃ (i : Nat), n = .int .i64 i ∧ i ≤ sup.length ∧ Fr [] (w.alloc (.cells #[.bool fb, .slice ha sup.length hc, .int .i64 ck, .slice pa ps.length pc, .slice ra rs.length rc, .slice fa fs.length fc] 60)) wr ∧ Hid ((sup.take i).all indexedH = true)) (fun n _ => sup.length - (intOf n).toNat)
  case atStart => exact ⟨0, rfl, by omega, Fr.refl _ _, Lib.hid rfl⟩
  case round =>
    obtain ⟨i, rfl, hi, hF, hall⟩ := hrel
    have hL := hL0.fr hF (by simp)
    have hFw := f0.trans hF
    have hLC0 := hL.cell; have hLF0 := hL.frz; have hLT0 := hL.lt
    by_cases hlt : i < sup.length
    · obtain ⟨x, hx⟩ : ∃ t, sup[i]? = some t := ⟨sup[i], by simp [hlt]⟩
      obtain ⟨b1, o1, p1, hv1, hb1, _, hd1⟩ := Sl.elem hs1 (fun _ => rfl) i x hx
      injection hv1 with e1 _ e1c
      subst e1 e1c
      have f10 := (hFw.cell hb1 (by simp) _).trans (hd1 0 (by decide))
      have f11 := (hFw.cell hb1 (by simp) _).trans (hd1 1 (by decide))
      clear hd1
      simp only [Nat.add_zero, ← Nat.add_assoc, heapC, List.getElem?_cons_zero, List.getElem?_cons_succ] at f10 f11
      have i1 : (i : Int) < (sup.length : Int) := by omega
      have Hx := Lib.hid hx
      clear hx
      obtain ⟨k, n⟩ := x
      simp only at f10 f11
      by_cases q : k = 13
      · subst q
        have hxm := Lib.hid (List.mem_of_getElem? Hx.out)
        by_cases q1 : 0 ≤ n
        · by_cases q2 : n < 4294967296
          · have hi0 : indexedH ⟨13, n⟩ = true := by simp [indexedH]; omega
            have Hi0 := Lib.hid hi0
            clear hi0
            go_wp2
            go_roundw
            case rel =>
              refine ⟨i + 1, by go_num, by omega, hF.alloc _, Lib.hid ?_⟩
              rw [take_one sup i _ Hx.out, List.all_append, hall.out]
              simp [Hi0.out]
            case measure => simp [intOf]; omega
          · have hi0 : indexedH ⟨13, n⟩ = false := by simp [indexedH]; omega
            have hne : plainSub ⟨fb, sup, ⟨ck, ps, rs, fs⟩⟩ = false := plainSub_no1 hxm.out hi0
            have Hne := Lib.hid hne
            clear hne hi0
            go_wp2
            go_ret
            exact ⟨by rw [Hne.out]; rfl, hFw.alloc _⟩
        · have hi0 : indexedH ⟨13, n⟩ = false := by simp [indexedH]; omega
          have hne : plainSub ⟨fb, sup, ⟨ck, ps, rs, fs⟩⟩ = false := plainSub_no1 hxm.out hi0
          have Hne := Lib.hid hne
          clear hne hi0
          go_wp2
          go_ret
          exact ⟨by rw [Hne.out]; rfl, hFw.alloc _⟩
      · have hne : plainSub ⟨fb, sup, ⟨ck, ps, rs, fs⟩⟩ = false := plainSub_no1 (List.mem_of_getElem? Hx.out) (by simp [indexedH, q])
        have g : (k == 13) = false := by simpa using q
        have g2 : (k != 13) = true := by simpa using q
        have Hne := Lib.hid hne
        clear hne q
        go_wp2
        go_ret
        exact ⟨by rw [Hne.out]; rfl, hFw⟩
    · have hk : i = sup.length := by omega
      subst hk
      have h1 : sup.all indexedH = true := by simpa using hall.out
      have H1 := Lib.hid h1
      clear h1 hall
      have i1 : ¬ (sup.length : Int) < (sup.length : Int) := by omega
      have fM := hFw.alloc (.cells #[.int .i64 ck, .slice pa ps.length pc, .slice ra rs.length rc, .slice fa fs.length fc] 58)
      have hM0 : Loc (wr.alloc (.cells #[.int .i64 ck, .slice pa ps.length pc, .slice ra rs.length rc, .slice fa fs.length fc] 58)) wr.heap.size [.int .i64 ck, .slice pa ps.length pc, .slice ra rs.length rc, .slice fa fs.length fc] 58 := Loc.new _ _ _
      go_wp2
      go_loopw [5] (fun n wr' => ∃ (i : Nat), n = .int .i64 i ∧ i ≤ fs.length ∧ Fr [] (wr.alloc (.cells #[.int .i64 ck, .slice pa ps.length pc, .slice ra rs.length rc, .slice fa fs.length fc] 58)) wr' ∧ Hid ((fs.take i).all plainField = true)) (fun n _ => fs.length - (intOf n).toNat)
      case atStart => exact ⟨0, rfl, by omega, Fr.refl _ _, Lib.hid rfl⟩
      case round =>
        obtain ⟨i, rfl, hi, hF2, hall⟩ := hrel
        have hM := hM0.fr hF2 (by simp)
        have hFw2 := fM.trans hF2
        have hLC1 := hM.cell; have hLF1 := hM.frz; have hLT1 := hM.lt
        by_cases hlt : i < fs.length
        · obtain ⟨x, hx⟩ : ∃ t, fs[i]? = some t := ⟨fs[i], by simp [hlt]⟩
          obtain ⟨b1, o1, p1, hv1, hb1, _, hd1⟩ := Sl.elem hs4 (fun _ => rfl) i x hx
          injection hv1 with e1 _ e1c
          subst e1 e1c
          have f10 := (hFw2.cell hb1 (by simp) _).trans (hd1 0 (by decide))
          have f11 := (hFw2.cell hb1 (by simp) _).trans (hd1 1 (by decide))
          have f12 := (hFw2.cell hb1 (by simp) _).trans (hd1 2 (by decide))
          have f13 := (hFw2.cell hb1 (by simp) _).trans (hd1 3 (by decide))
          have f14 := (hFw2.cell hb1 (by simp) _).trans (hd1 4 (by decide))
          have f15 := (hFw2.cell hb1 (by simp) _).trans (hd1 5 (by decide))
          clear hd1
          obtain ⟨p, ⟨k, nl, ⟨hk, hn⟩⟩, m⟩ := x
          simp only [Nat.add_zero, ← Nat.add_assoc, fieldC, List.cons_append, List.getElem?_cons_zero, List.getElem?_cons_succ] at f10 f11 f12 f13 f14 f15
          have i1 : (i : Int) < (fs.length : Int) := by omega
          have Hx := Lib.hid hx
          clear hx
          have hxm := Lib.hid (List.mem_of_getElem? Hx.out)
          have hN : Loc (wr.alloc (.cells #[.int .i64 p, .int .i64 k, .bool nl, .int .i64 hk, .int .i64 hn] 153)) wr.heap.size [.int .i64 p, .int .i64 k, .bool nl, .int .i64 hk, .int .i64 hn] 153 := Loc.new _ _ _
          have fN := hFw2.alloc (.cells #[.int .i64 p, .int .i64 k, .bool nl, .int .i64 hk, .int .i64 hn] 153)
          have fN2 := hF2.alloc (.cells #[.int .i64 p, .int .i64 k, .bool nl, .int .i64 hk, .int .i64 hn] 153)
          go_wp2_with (go_at_call 28; refine (refVal_any _ ⟨k, nl, ⟨hk, hn⟩⟩).mono ?_; rintro e w1 ⟨rfl, hf1⟩; generalize hb1 : plainVal ⟨k, nl, ⟨hk, hn⟩⟩ = b1; have Hb1 := Lib.hid hb1; clear hb1; have hN1 := hN.fr hf1 (by simp); have hLC2 := hN1.cell; have hLF2 := hN1.frz; have hLT2 := hN1.lt)
          all_goals first
            | (have hne : plainSub ⟨fb, sup, ⟨ck, ps, rs, fs⟩⟩ = false := plainSub_no4 hxm.out (by rw [plainField_ref]; have := Hb1.out; simp_all)
               go_ret
               exact ⟨by rw [hne]; rfl, fN.trans hf1⟩)
            | (have hyes : plainField ⟨p, ⟨k, nl, ⟨hk, hn⟩⟩, m⟩ = true := by rw [plainField_ref]; have := Hb1.out; simp_all
               go_roundw
               case rel =>
                 refine ⟨i + 1, by go_num, by omega, fN2.trans hf1, Lib.hid ?_⟩
                 rw [take_one fs i _ Hx.out, List.all_append, hall.out]
                 simp [hyes]
               case measure => simp [intOf]; omega)
            | trace_state
        · have hk : i = fs.length := by omega
          subst hk
          have h4 : fs.all plainField = true := by simpa using hall.out
          have H4 := Lib.hid h4
          clear h4 hall
          have i1 : ¬ (fs.length : Int) < (fs.length : Int) := by omega
          have hps := fun w' (hf : Fr [] wr w') => hs2.fr (hFw2.trans hf) (by simp)
          have hrs := fun w' (hf : Fr [] wr w') => hs3.fr (hFw2.trans hf) (by simp)
          have k2 := hps _ (Fr.refl [] wr)
          have k3 := hrs _ (Fr.refl [] wr)
          have Hp := Lib.hid hps
          have Hr := Lib.hid hrs
          clear hps hrs
          by_cases c1 : ck = 1
          · subst c1
            go_wp2_with first | (go_at_call 31; (with_reducible refine (refVals_any _ _ ps k2 l2).mono ?_); rintro e w1 ⟨rfl, hf1⟩; generalize hb2 : ps.all plainVal = b2; have Hb2 := Lib.hid hb2; clear hb2; have k3' := Hr.out _ hf1; have hM1 := hM.fr hf1 (by simp); have hLC3 := hM1.cell; have hLF3 := hM1.frz; have hLT3 := hM1.lt) | (go_at_call 31; (with_reducible refine (refVals_any _ _ rs k3' l3).mono ?_); rintro e w2 ⟨rfl, hf2⟩; generalize hb3 : rs.all plainVal = b3; have Hb3 := Lib.hid hb3; clear hb3)
            all_goals
              go_ret
              refine ⟨congrArg (fun x => Ending.returned (Value.bool x)) ?_, by first | exact hFw2.trans (hf1.trans hf2) | exact hFw2.trans hf1 | exact hFw2⟩
              first | rw [plainSub_bools true b2 b3 true _ _ _ _ _ _ H1.out Hb2.out Hb3.out H4.out] | rw [plainSub_bools true b2 _ true _ _ _ _ _ _ H1.out Hb2.out rfl H4.out] | rw [plainSub_bools true _ _ true _ _ _ _ _ _ H1.out rfl rfl H4.out]
              clear hFw hF2 hFw2 hM hM0 hL hL0 fM f0 hF k2 k3
              first | (simp_all; done) | trace_state
          · have g1 : (ck == 1) = false := by simpa using c1
            by_cases p0 : ps.length = 0
            · obtain rfl : ps = [] := List.length_eq_zero_iff.1 p0
              by_cases r0 : rs.length = 0
              · obtain rfl : rs = [] := List.length_eq_zero_iff.1 r0
                by_cases c2 : ck = 2
                · subst c2
                  go_wp2
                  go_ret
                  refine ⟨congrArg (fun x => Ending.returned (Value.bool x)) ?_, by first | exact hFw2.trans (hf1.trans hf2) | exact hFw2.trans hf1 | exact hFw2⟩
                  first | rw [plainSub_bools true b2 b3 true _ _ _ _ _ _ H1.out Hb2.out Hb3.out H4.out] | rw [plainSub_bools true b2 _ true _ _ _ _ _ _ H1.out Hb2.out rfl H4.out] | rw [plainSub_bools true _ _ true _ _ _ _ _ _ H1.out rfl rfl H4.out]
                  rfl
                · have g2 : (ck == 2) = false := by simpa using c2
                  by_cases c3 : ck = 3
                  · subst c3
                    go_wp2
                    go_ret
                    refine ⟨congrArg (fun x => Ending.returned (Value.bool x)) ?_, by first | exact hFw2.trans (hf1.trans hf2) | exact hFw2.trans hf1 | exact hFw2⟩
                    first | rw [plainSub_bools true b2 b3 true _ _ _ _ _ _ H1.out Hb2.out Hb3.out H4.out] | rw [plainSub_bools true b2 _ true _ _ _ _ _ _ H1.out Hb2.out rfl H4.out] | rw [plainSub_bools true _ _ true _ _ _ _ _ _ H1.out rfl rfl H4.out]
                    simp [nat_eq1]
                  · have g3 : (ck == 3) = false := by simpa using c3
                    have Hc := Lib.hid (And.intro c1 (And.intro c2 c3))
                    clear c1 c2 c3
                    go_wp2
                    go_ret
                    refine ⟨congrArg (fun x => Ending.returned (Value.bool x)) ?_, by first | exact hFw2.trans (hf1.trans hf2) | exact hFw2.trans hf1 | exact hFw2⟩
                    first | rw [plainSub_bools true b2 b3 true _ _ _ _ _ _ H1.out Hb2.out Hb3.out H4.out] | rw [plainSub_bools true b2 _ true _ _ _ _ _ _ H1.out Hb2.out rfl H4.out] | rw [plainSub_bools true _ _ true _ _ _ _ _ _ H1.out rfl rfl H4.out]
                    simp [g1, g2, g3]
              · have r1 : (0 : Int) < (rs.length : Int) := by omega
                have r2 : ∀ b : Bool, (if ck == 1 then fs.length == 0 else if ck == 2 then ([] : List ValT).length + rs.length == 0 else if ck == 3 then ([] : List ValT).length + rs.length == 0 && fs.length == 1 else false) = false := by
                  intro _
                  have : (([] : List ValT).length + rs.length == 0) = false := by simp only [beq_eq_false_iff_ne]; omega
                  rw [this, g1]
                  simp
                have R2 := Lib.hid r2
                clear r2 c1 r0
                go_wp2
                go_ret
                refine ⟨congrArg (fun x => Ending.returned (Value.bool x)) ?_, by first | exact hFw2.trans (hf1.trans hf2) | exact hFw2.trans hf1 | exact hFw2⟩
                first | rw [plainSub_bools true b2 b3 true _ _ _ _ _ _ H1.out Hb2.out Hb3.out H4.out] | rw [plainSub_bools true b2 _ true _ _ _ _ _ _ H1.out Hb2.out rfl H4.out] | rw [plainSub_bools true _ _ true _ _ _ _ _ _ H1.out rfl rfl H4.out]
                rw [R2.out true]
                simp
            · have r1 : (0 : Int) < (ps.length : Int) := by omega
              have r2 : ∀ b : Bool, (if ck == 1 then fs.length == 0 else if ck == 2 then ps.length + rs.length == 0 else if ck == 3 then ps.length + rs.length == 0 && fs.length == 1 else false) = false := by
                intro _
                have : (ps.length + rs.length == 0) = false := by simp only [beq_eq_false_iff_ne]; omega
                rw [this, g1]
                simp
              have HP0 : Hid (¬ ps = []) := Lib.hid (fun h => p0 (by rw [h]; rfl))
              have R2 := Lib.hid r2
              clear r2 c1 p0
              go_wp2
              go_ret
              refine ⟨congrArg (fun x => Ending.returned (Value.bool x)) ?_, by first | exact hFw2.trans (hf1.trans hf2) | exact hFw2.trans hf1 | exact hFw2⟩
              first | rw [plainSub_bools true b2 b3 true _ _ _ _ _ _ H1.out Hb2.out Hb3.out H4.out] | rw [plainSub_bools true b2 _ true _ _ _ _ _ _ H1.out Hb2.out rfl H4.out] | rw [plainSub_bools true _ _ true _ _ _ _ _ _ H1.out rfl rfl H4.out]
              first | exact absurd (by assumption) HP0.out | (rw [R2.out true]; simp; done)
end Go.Proofs.YtokneepfknepaaaDoor
