/- The walks of layer 6: groups are put. -/
import Derived.Test.YtokneepfknepaaaDoorPutWB
set_option linter.unusedSimpArgs false
set_option linter.unusedVariables false
namespace Go.Proofs.YtokneepfknepaaaDoor
open Go.RowKit

theorem HeapT.ok_given {h : HeapT} (g : givenH h = true) : h.ok := by
  simp only [givenH, decide_eq_true_eq] at g
  unfold HeapT.ok
  omega
theorem HeapT.ok_indexed {h : HeapT} (g : indexedH h = true) : h.ok := by
  simp only [indexedH, decide_eq_true_eq] at g
  unfold HeapT.ok
  omega
theorem plainVal_ok {v : ValT} (h : plainVal v = true) : v.heap.ok := by
  unfold plainVal at h
  split at h
  · simp only [decide_eq_true_eq] at h
    rw [h]
    unfold HeapT.ok
    simp
  · split at h
    · simp only [Bool.or_eq_true] at h
      rcases h with h | h
      · exact HeapT.ok_given h
      · exact HeapT.ok_indexed h
    · cases h
theorem plainField_ok {f : FieldT} (h : plainField f = true) : f.val.heap.ok := by
  unfold plainField at h
  split at h
  · exact plainVal_ok h
  · split at h
    · simp only [decide_eq_true_eq] at h
      rw [h]
      unfold HeapT.ok
      simp
    · cases h
theorem plainSub_ok {t : SubT} (h : plainSub t = true) : t.ok ∧ (t.comp.kind ≠ 1 → t.comp.kind ≠ 2 → 0 < t.comp.fields.length) := by
  unfold plainSub at h
  simp only [Bool.and_eq_true, List.all_eq_true] at h
  obtain ⟨⟨h1, ⟨h2, h3⟩, h4⟩, h5⟩ := h
  refine ⟨⟨fun x hx => ?_, fun x hx => plainVal_ok (h2 x hx), fun x hx => plainVal_ok (h3 x hx), fun x hx => plainField_ok (h4 x hx)⟩, fun k1 k2 => ?_⟩
  · have := h1 x hx
    simp only [indexedH, decide_eq_true_eq] at this
    omega
  · rw [if_neg k1, if_neg k2] at h5
    split at h5
    · simp at h5; omega
    · cases h5

set_option maxRecDepth 100000 in
set_option maxHeartbeats 1600000 in
theorem PutRec_any {w : World} (hg : Gl [] w) (sv : Value) (ts : List SubT) (cs : List Value) (h : Sl [] w 6 sv ts.length cs) (hs : SubsR [] w ts cs)
    (hl : ∀ t, t ∈ ts → t.len ≤ 65536) (hn : ts.length ≤ 65536) :
    Calls Tryd.prog 26 #[sv] w fun e w' => ∃ v', e = .returned v' ∧ Out w' v' (pRec ts) ∧ New w v' ∧ Fr [] w w' := by
  have hh := h
  obtain ⟨_, _, a, cap, rfl, _⟩ := h
  have hsz := fun o => World.size_alloc w o
  go_enter Tryd.func26, Tryd.ntmps26
  go_wp2
  go_loopw [7] (fun n wr => ∃ (i : Nat), n = .int .i64 i ∧ i ≤ ts.length ∧ Fr [] w wr ∧ Hid ((ts.take i).all plainSub = true)) (fun n _ => ts.length - (intOf n).toNat)
  case atStart => exact ⟨0, rfl, by omega, Fr.refl _ _, Lib.hid rfl⟩
  case round =>
    obtain ⟨i, rfl, hi, hF, hall⟩ := hrel
    by_cases hlt : i < ts.length
    · obtain ⟨t, ht⟩ : ∃ t, ts[i]? = some t := ⟨ts[i], by simp [hlt]⟩
      obtain ⟨b, off, cap2, hv, pv, rv, fv, hve, hb, hnS, hsr, hc⟩ := Sl.sub_elem hh hs i t ht
      injection hve with hv1 hv2 hv3
      subst hv1 hv3
      have hbw : b < wr.heap.size := Nat.lt_of_lt_of_le hb hF.size
      have htm : t ∈ ts := List.mem_of_getElem? ht
      have hl4 := hl t htm
      have htl := Lib.hid hl4
      have hl4 : t.supers.length ≤ 1099511627776 ∧ t.comp.params.length ≤ 1099511627776 ∧ t.comp.results.length ≤ 1099511627776 ∧ t.comp.fields.length ≤ 1099511627776 := by
        unfold SubT.len at hl4
        omega
      have e0 := (hF.cell hb hnS _).trans (hc 0 (by decide))
      have e1 := (hF.cell hb hnS _).trans (hc 1 (by decide))
      have e2 := (hF.cell hb hnS _).trans (hc 2 (by decide))
      have e3 := (hF.cell hb hnS _).trans (hc 3 (by decide))
      have e4 := (hF.cell hb hnS _).trans (hc 4 (by decide))
      have e5 := (hF.cell hb hnS _).trans (hc 5 (by decide))
      simp only [Nat.add_zero, ← Nat.add_assoc, subC, List.getElem?_cons_zero, List.getElem?_cons_succ] at e0 e1 e2 e3 e4 e5
      obtain ⟨ha, hc, rfl⟩ := hsr.1.shape
      obtain ⟨pa, pc, rfl⟩ := hsr.2.1.shape
      obtain ⟨ra, rc, rfl⟩ := hsr.2.2.1.shape
      obtain ⟨fa, fc, rfl⟩ := hsr.2.2.2.shape
      have hfo := fun o => hF.alloc o
      have hsr2 := fun o => hsr.fr (hfo o) (by simp)
      go_wp2_with (go_at_call 66; refine (plainSub_any [] _ t _ _ _ _ (hsr2 _) hl4).mono ?_; rintro e w2 ⟨rfl, hF2⟩; generalize hpb : plainSub t = pb; have Hpb := Lib.hid hpb; clear hpb)
      · have hne : pRec ts = [] := by
          unfold pRec
          rw [if_neg]
          intro hc
          have := List.all_eq_true.1 hc t htm
          rw [Hpb.out] at this
          simp_all
        go_ret
        exact ⟨_, rfl, by rw [hne]; exact Out.nil _, New.nil _, (hfo _).trans hF2⟩
      · go_roundw
        case rel =>
          refine ⟨i + 1, by go_num, by omega, (hfo _).trans hF2, Lib.hid ?_⟩
          rw [take_one ts i t ht, List.all_append, hall.out]
          have := Hpb.out
          simp_all
        case measure => simp [intOf]; omega
    · have hk : i = ts.length := by omega
      subst hk
      have hallP : ts.all plainSub = true := by simpa using hall.out
      have hP := fun t ht => plainSub_ok (List.all_eq_true.1 hallP t ht)
      have HallP := Lib.hid hallP
      clear hallP hall
      have hgr := hg.fr hF (by simp)
      by_cases h0 : ts.length = 0
      · have hts : ts = [] := List.length_eq_zero_iff.1 h0
        subst hts
        go_wp2
        go_ret
        exact ⟨_, rfl, by simpa [pRec] using Out.nil _, New.nil _, hF⟩
      · have z0 : ((ts.length : Int) == 0) = false := by simp; intro hc; subst hc; simp at h0
        by_cases h1 : ts.length = 1
        · obtain ⟨t, rfl⟩ : ∃ t, ts = [t] := by
            match ts, h1 with
            | [t], _ => exact ⟨t, rfl⟩
          obtain ⟨b, off, cap2, hv, pv, rv, fv, hve, hb, hnS, hsr, hc⟩ := Sl.sub_elem hh hs 0 t rfl
          injection hve with hv1 hv2 hv3
          subst hv1 hv3
          have e0 := (hF.cell hb hnS _).trans (hc 0 (by decide))
          have e1 := (hF.cell hb hnS _).trans (hc 1 (by decide))
          have e2 := (hF.cell hb hnS _).trans (hc 2 (by decide))
          have e3 := (hF.cell hb hnS _).trans (hc 3 (by decide))
          have e4 := (hF.cell hb hnS _).trans (hc 4 (by decide))
          have e5 := (hF.cell hb hnS _).trans (hc 5 (by decide))
          simp only [Nat.zero_mul, Nat.zero_add, Nat.add_zero, subC, List.getElem?_cons_zero, List.getElem?_cons_succ] at e0 e1 e2 e3 e4 e5
          obtain ⟨ha, hc, rfl⟩ := hsr.1.shape
          obtain ⟨pa, pc, rfl⟩ := hsr.2.1.shape
          obtain ⟨ra, rc, rfl⟩ := hsr.2.2.1.shape
          obtain ⟨fa, fc, rfl⟩ := hsr.2.2.2.shape
          obtain ⟨hk1, hk2⟩ := hP t (by simp)
          have hlt := hl t (by simp)
          have hx2 : ([] : List UInt8).length + 16 * t.len + 512 ≤ 70368744177664 := by simp; omega
          have hpr : pRec [t] = [] ++ pSub t := by unfold pRec; rw [if_pos HallP.out]; rfl
          have Hpr := Lib.hid hpr
          have Hh := Lib.hid hh
          have Hs := Lib.hid hs
          have Hl := Lib.hid hl
          clear hpr hP hh hs hl h0 z0 h1 hn
          go_wp2_with (go_at_call 67; refine (putSub_any (.slice none 0 0) hgr [] t _ _ _ _ (hsr.fr hF (by simp)) (Out.nil _) hk1 hx2 hk2).mono ?_; rintro e w4 ⟨v4, rfl, ho4, hA4⟩)
          go_ret
          exact ⟨v4, rfl, by rw [Hpr.out]; exact ho4, fun b hb => (hA4.2 b hb).elim (fun h => by simp [Value.blk] at h) (fun h => Nat.le_trans hF.size h), hF.trans hA4.1⟩
        · have z1 : ((ts.length : Int) == 1) = false := by simp; omega
          have hszr := fun o => World.size_alloc wr o
          have hpr : pRec ts = [78] ++ pList pSub ts := by
            unfold pRec
            rw [if_pos HallP.out]
            match ts, h0, h1 with
            | [], h0, _ => simp at h0
            | [t], _, h1 => simp at h1
            | a :: b :: c, _, _ => rfl
          have hO : Out (wr.alloc (.cells [.int .u8 78].toArray 5)) (.slice (some ⟨wr.heap.size, 0, none⟩) 1 1) [78] := Own.made 5 1 1 [B 78] (by simp) rfl (by intro u hu; simp at hu; subst hu; rfl) (by decide)
          have hf1 : Fr [] w (wr.alloc (.cells [.int .u8 78].toArray 5)) := hF.alloc _
          have hnb : ∀ (b : Nat), b < w.heap.size → b ∈ Value.blk (.slice (some ⟨wr.heap.size, 0, none⟩) 1 1) → b ∈ ([] : List Nat) := by
            intro b hb hm
            simp [Value.blk] at hm
            have := hF.size
            omega
          have hSr : Sl (Value.blk (.slice (some ⟨wr.heap.size, 0, none⟩) 1 1)) (wr.alloc (.cells [.int .u8 78].toArray 5)) 6 (.slice a ts.length cap) ts.length cs := (hh.sub hnb).fr hf1 (by simp)
          have hsr : SubsR (Value.blk (.slice (some ⟨wr.heap.size, 0, none⟩) 1 1)) (wr.alloc (.cells [.int .u8 78].toArray 5)) ts cs := SubsR.fr hf1 (by simp) (SubsR.sub hnb hs)
          have hgx : Gl (Value.blk (.slice (some ⟨wr.heap.size, 0, none⟩) 1 1)) (wr.alloc (.cells [.int .u8 78].toArray 5)) := (hg.sub hnb).fr hf1 (by simp)
          have hokA : ∀ t, t ∈ ts → t.ok ∧ t.len ≤ 65536 ∧ (t.comp.kind ≠ 1 → t.comp.kind ≠ 2 → 0 < t.comp.fields.length) := fun t ht => ⟨(hP t ht).1, hl t ht, (hP t ht).2⟩
          have Hpr := Lib.hid hpr
          clear hpr hP hh hs hl h0 h1
          go_wp2_with (go_at_call 68; refine (putList_sub _ hgx [78] _ ts cs hSr hsr hokA hO (by decide) hn).mono ?_; rintro e w4 ⟨v4, rfl, ho4, hA4⟩)
          go_ret
          refine ⟨v4, rfl, by rw [Hpr.out]; exact ho4, fun b hb => (hA4.2 b hb).elim (fun h => by simp [Value.blk] at h; have := hF.size; omega) (fun h => by have := hf1.size; omega), ?_⟩
          exact hf1.then hA4.1 (by intro k hk; simp [Value.blk] at hk; right; have := hF.size; omega)
end Go.Proofs.YtokneepfknepaaaDoor
