/- The walk of the law TbinCut. -/
import Derived.Test.YtokneepfknepaaaDoorPutWC
import Derived.Test.YtokneepfknepaaaDoorCutP
import Derived.Test.YtokneepfknepaaaDoorKnownW
set_option linter.unusedSimpArgs false
set_option linter.unusedVariables false
namespace Go.Proofs.YtokneepfknepaaaDoor
open Go.RowKit

theorem Sl.take {S : List Nat} {w : World} {a : Option Addr} {n cap c : Nat} {cs : List Value} (h : Sl S w 1 (.slice a n cap) n cs) (hc : c ≤ n) : Sl S w 1 (.slice a c cap) c (cs.take c) := by
  obtain ⟨h1, h2, a', cap', h3, h4, h5, hN, h6⟩ := h
  injection h3 with e1 e2 e3
  subst e1 e3
  refine ⟨by simp; omega, fun u hu => h2 u (List.mem_of_mem_take hu), a, cap, rfl, by omega, h5, hN, ?_⟩
  rcases h6 with h6 | ⟨b, off, e, hn, hb, hcell⟩
  · exact .inl (by omega)
  · refine .inr ⟨b, off, e, hn, hb, fun j hj => ?_⟩
    rw [hcell j (by omega), List.getElem?_take, if_pos (by omega)]
theorem pRec_len (ts : List SubT) (hn : ts.length ≤ 30) (hl : ∀ t, t ∈ ts → t.len ≤ 65536) : (pRec ts).length ≤ 1073741824 := by
  unfold pRec
  split
  · rename_i hp
    have hok := fun t ht => (plainSub_ok (List.all_eq_true.1 hp t ht)).1
    have h1 := flat_len pSub 1048704 ts (fun t ht => pSub_len t (hok t ht) (hl t ht))
    have h2 := putU_len ts.length (by omega)
    split
    · simp
    · rename_i t
      have := pSub_len t (hok t (by simp)) (hl t (by simp))
      omega
    · simp only [pList, List.length_cons, List.length_append]
      omega
  · simp
def SubT.small (t : SubT) : Prop := t.supers.length ≤ 60 ∧ t.comp.params.length ≤ 60 ∧ t.comp.results.length ≤ 60 ∧ t.comp.fields.length ≤ 60

set_option maxRecDepth 100000 in
set_option maxHeartbeats 3200000 in
theorem tbinCut_any {w : World} (hg : Gl [] w) (gv : Value) (ts : List SubT) (cs : List Value) (h : Sl [] w 6 gv ts.length cs) (hs : SubsR [] w ts cs) (at_ : Int) :
    Calls Tryd.prog 4 #[gv, .int .i64 at_] w fun e w' => e = .returned (.bool true) ∧ Fr [] w w' := by
  have hh := h
  have hmax := h.2.2
  obtain ⟨a, cap, rfl, hcap, hcm, _⟩ := hmax
  unfold maxLen at hcm
  have hnn : ts.length ≤ 9223372036854775807 := by omega
  clear hcap hcm
  by_cases h30 : ts.length ≤ 30
  · have g30 : ¬ (30 : Int) < (ts.length : Int) := by omega
    go_enter Tryd.func4, Tryd.ntmps4
    go_wp2_with (go_at_call 25; refine (known6 hg).mono ?_; rintro e w1 ⟨rfl, hF1⟩)
    go_loopw [5] (fun n wr => ∃ (i : Nat), n = .int .i64 i ∧ i ≤ ts.length ∧ wr = w1 ∧ Hid (∀ t, t ∈ ts.take i → t.small)) (fun n _ => ts.length - (intOf n).toNat)
    case atStart => exact ⟨0, rfl, by omega, rfl, fun t ht => by simp at ht⟩
    case round =>
      obtain ⟨i, rfl, hi, rfl, hall⟩ := hrel
      by_cases hlt : i < ts.length
      · obtain ⟨t, ht⟩ : ∃ t, ts[i]? = some t := ⟨ts[i], by simp [hlt]⟩
        obtain ⟨b, off, cap2, hv, pv, rv, fv, hve, hb, hnS, hsr, hc⟩ := Sl.sub_elem hh hs i t ht
        injection hve with hv1 hv2 hv3
        subst hv1 hv3
        have e1 := (hF1.cell hb hnS _).trans (hc 1 (by decide))
        have e3 := (hF1.cell hb hnS _).trans (hc 3 (by decide))
        have e4 := (hF1.cell hb hnS _).trans (hc 4 (by decide))
        have e5 := (hF1.cell hb hnS _).trans (hc 5 (by decide))
        simp only [← Nat.add_assoc, subC, List.getElem?_cons_zero, List.getElem?_cons_succ] at e1 e3 e4 e5
        obtain ⟨ha, hc, rfl⟩ := hsr.1.shape
        obtain ⟨pa, pc, rfl⟩ := hsr.2.1.shape
        obtain ⟨ra, rc, rfl⟩ := hsr.2.2.1.shape
        obtain ⟨fa, fc, rfl⟩ := hsr.2.2.2.shape
        have hlti : (i : Int) < (ts.length : Int) := by omega
        go_wp2
        all_goals first
          | (go_ret; exact ⟨rfl, hF1⟩)
          | (go_roundw
             case rel =>
               refine ⟨i + 1, by go_num, by omega, trivial, Lib.hid fun u hu => ?_⟩
               rw [take_one ts i t ht] at hu
               rcases List.mem_append.1 hu with hu | hu
               · exact hall.out u hu
               · rw [List.mem_singleton.1 hu]
                 unfold SubT.small
                 omega
             case measure => simp [intOf]; omega)
      · have hk : i = ts.length := by omega
        subst hk
        have hsm : ∀ t, t ∈ ts → t.small := by simpa using hall.out
        have hl : ∀ t, t ∈ ts → t.len ≤ 65536 := fun t ht => by
          have := hsm t ht
          unfold SubT.small at this
          unfold SubT.len
          omega
        have hS4 : ∀ t, t ∈ ts → SmallSub t := fun t ht => by
          have := hsm t ht
          unfold SubT.small at this
          exact ⟨by omega, by omega, by omega, by omega⟩
        have HS4 := Lib.hid hS4
        have HL := Lib.hid hl
        clear hsm hall hS4 hl
        have hg1 := hg.fr hF1 (by simp)
        have hh1 := hh.fr hF1 (by simp)
        have hs1 := SubsR.fr hF1 (by simp) hs
        have hlt2 : ¬ (ts.length : Int) < (ts.length : Int) := by omega
        have hpl := pRec_len ts (by omega) HL.out
        by_cases p1 : at_ < 0
        · go_wp2_with (go_at_call 26; refine (PutRec_any hg1 _ ts cs hh1 hs1 HL.out (by omega)).mono ?_; rintro e w2 ⟨v2, rfl, ho2, hN2, hF2⟩; obtain ⟨va, vc, rfl, hvc1, hvc2⟩ := Own.shape ho2; have f2 := hF1.trans hF2)
          go_ret
          exact ⟨rfl, f2⟩
        · obtain ⟨c, rfl⟩ := Int.eq_ofNat_of_zero_le (Int.not_lt.1 p1)
          by_cases p2 : c < (pRec ts).length
          · have p2i : ¬ (((pRec ts).length : Nat) : Int) ≤ (c : Int) := by omega
            have hlaw := rRec_cut_law ts (by omega) HS4.out c p2
            have hcl : (((pRec ts).map B).take c) = ((pRec ts).take c).map B := by simp
            have hcn : c = ((pRec ts).take c).length := by rw [List.length_take]; omega
            have hbl : ((pRec ts).take c).length ≤ 1099511627776 := by rw [List.length_take]; omega
            generalize hbs : (pRec ts).take c = bs at hlaw hcl hcn hbl
            clear hbs
            have Hlaw := Lib.hid hlaw
            have Hcl := Lib.hid hcl
            have Hcn := Lib.hid hcn
            clear hlaw hcl hcn p1
            have hmk : ∀ (w2 : World) (a : Option Addr) (cp : Nat), Sl [] w2 1 (.slice a (pRec ts).length cp) (pRec ts).length ((pRec ts).map B) → Sl [] w2 1 (.slice a c cp) bs.length (bs.map B) := by
              intro w2 a cp hsl
              have := hsl.take (Nat.le_of_lt p2)
              rw [Hcl.out] at this
              rw [← Hcn.out]
              exact this
            go_wp2_with first | ((go_at_call 26; refine (PutRec_any hg1 _ ts cs hh1 hs1 HL.out (by omega)).mono ?_; rintro e w2 ⟨v2, rfl, ho2, hN2, hF2⟩; obtain ⟨va, vc, rfl, hvc1, hvc2⟩ := Own.shape ho2; have f2 := hF1.trans hF2); have hsl := hmk _ _ _ (Own.sl ho2 (S' := []) (by simp)); have hg2 := hg1.fr hF2 (by simp)) | (go_at_call 27; refine (open_any hsl hg2 hbl).mono ?_; rintro e w3 ⟨rb3, v3, rfl, hR3, hN3, hF3⟩) | fail
            have c4 := rd_rec hR3
            have hlaw := Hlaw.out
            generalize rRec bs rOpen = q at c4 hlaw
            obtain ⟨ql, qs⟩ := q
            simp only at c4 hlaw
            obtain ⟨rfl, h1, h2, h3⟩ := hlaw
            have hC4 := Lib.hid c4
            clear c4
            have Hz := Lib.hid h1
            clear h1
            go_wp2_with first | (go_at_call 21; refine hC4.out.mono ?_; rintro e w4 ⟨v4, cs4, rfl, hS4, hB4, hR4, hF4⟩; obtain ⟨a4, c4, rfl⟩ := hS4.shape) | (go_at_call 24; refine (rd_err hR4).mono ?_; rintro e w' ⟨rfl, nq, rfl⟩; rw [Hz.out])
            have f3 := f2.trans hF3
            have f4 : Fr [] w w4 := f3.then hF4 (by intro k hk; simp at hk; subst hk; right; have := f2.size; omega)
            go_ret
            exact ⟨rfl, by repeat (first | (with_reducible exact Fr.refl _ _) | (with_reducible assumption) | (with_reducible apply Fr.alloc) | (with_reducible apply Fr.drew) | (with_reducible apply Fr.drewN) | (with_reducible refine Fr.setCell ?_ (by first | (left; simp; done) | (right; simp; done) | (right; simp; omega)) _))⟩
          · have p2i : (((pRec ts).length : Nat) : Int) ≤ (c : Int) := by omega
            go_wp2_with (go_at_call 26; refine (PutRec_any hg1 _ ts cs hh1 hs1 HL.out (by omega)).mono ?_; rintro e w2 ⟨v2, rfl, ho2, hN2, hF2⟩; obtain ⟨va, vc, rfl, hvc1, hvc2⟩ := Own.shape ho2; have f2 := hF1.trans hF2)
            go_ret
            exact ⟨rfl, f2⟩
  · have g30 : (30 : Int) < (ts.length : Int) := by omega
    go_enter Tryd.func4, Tryd.ntmps4
    go_wp2_with (go_at_call 25; refine (known6 hg).mono ?_; rintro e w1 ⟨rfl, hF1⟩)
    go_ret
    exact ⟨rfl, hF1⟩
end Go.Proofs.YtokneepfknepaaaDoor
