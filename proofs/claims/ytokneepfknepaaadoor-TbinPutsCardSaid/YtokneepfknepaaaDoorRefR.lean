/- The walks of the document's PutRec, and of the program's PutVals (layer 6). -/
import Derived.Test.YtokneepfknepaaaDoorRefS
import Derived.Test.YtokneepfknepaaaDoorPutB
set_option linter.unusedSimpArgs false
set_option linter.unusedVariables false
namespace Go.Proofs.YtokneepfknepaaaDoor
open Go.RowKit

set_option maxRecDepth 100000 in
set_option maxHeartbeats 6400000 in
theorem refPutRec_any (w : World) (sv : Value) (ts : List SubT) (cs : List Value) (h : Sl [] w 6 sv ts.length cs) (hs : SubsR [] w ts cs)
    (hl : ∀ t, t ∈ ts → t.len ≤ 65536) (hn : ts.length ≤ 65536) :
    Calls Tryd.prog 36 #[sv] w fun e w' => ∃ v', e = .returned v' ∧ St [] w w' [.own 5 1 (v') (pRec ts).length ((pRec ts).map B)] := by
  have hh := h
  obtain ⟨_, _, a, cap, rfl, _⟩ := h
  have hS0 := St.start [] w
  have HL := Lib.hid hl
  clear hl
  go_enter Tryd.func36, Tryd.ntmps36
  go_wp2
  go_loopw [3] (fun n wr => ∃ (i : Nat), n = .int .i64 i ∧ i ≤ ts.length ∧ St [] w wr [] ∧ Hid ((ts.take i).all plainSub = true)) (fun n _ => ts.length - (intOf n).toNat)
  case atStart => exact ⟨0, rfl, by omega, hS0, Lib.hid rfl⟩
  case round =>
    obtain ⟨i, rfl, hi, hS, hall⟩ := hrel
    by_cases hlt : i < ts.length
    · obtain ⟨t, ht⟩ : ∃ t, ts[i]? = some t := ⟨ts[i], by simp [hlt]⟩
      obtain ⟨b, off, cap2, hv, pv, rv, fv, hve, hb, hnS, hsr, hc⟩ := Sl.sub_elem (hS.sl hh) (SubsR.fr hS.fr (by simp) hs) i t ht; injection hve with hv1 hv2 hv3; subst hv1 hv3; have e0 := hc 0 (by decide); have e1 := hc 1 (by decide); have e2 := hc 2 (by decide); have e3 := hc 3 (by decide); have e4 := hc 4 (by decide); have e5 := hc 5 (by decide); simp only [Nat.zero_mul, Nat.zero_add, Nat.add_zero, ← Nat.add_assoc, subC, List.getElem?_cons_zero, List.getElem?_cons_succ] at e0 e1 e2 e3 e4 e5; have hsr0 := hsr; obtain ⟨ha, hc, rfl⟩ := hsr.1.shape; obtain ⟨pa, pc, rfl⟩ := hsr.2.1.shape; obtain ⟨ra, rc, rfl⟩ := hsr.2.2.1.shape; obtain ⟨fa, fc, rfl⟩ := hsr.2.2.2.shape
      have i1 : (i : Int) < (ts.length : Int) := by omega
      have htm := Lib.hid (List.mem_of_getElem? ht)
      have hl4 : t.supers.length ≤ 1099511627776 ∧ t.comp.params.length ≤ 1099511627776 ∧ t.comp.results.length ≤ 1099511627776 ∧ t.comp.fields.length ≤ 1099511627776 := by
        have := HL.out t htm.out
        unfold SubT.len at this
        omega
      have HL4 := Lib.hid hl4
      have Ht := Lib.hid ht
      clear ht hl4
      go_wp2_with (go_at_call 78; (with_reducible refine (refSub_any _ t _ _ _ _ hsr0 HL4.out).mono ?_); rintro e w2 ⟨rfl, hF2⟩; generalize hpb : plainSub t = pb; have Hpb := Lib.hid hpb; clear hpb)
      · have hne : pRec ts = [] := by
          unfold pRec
          rw [if_neg]
          intro hc
          have := List.all_eq_true.1 hc t htm.out
          rw [Hpb.out] at this
          simp_all
        go_ret
        refine ⟨_, rfl, ?_⟩
        rw [hne]
        exact St.ofOut (Out.nil _) (New.nil _) (hS.fr.trans hF2)
      · go_roundw
        case rel =>
          refine ⟨i + 1, by go_num, by omega, hS.step0 hF2, Lib.hid ?_⟩
          rw [take_one ts i t Ht.out, List.all_append, hall.out]
          have := Hpb.out
          simp_all
        case measure => simp [intOf]; omega
    · have hk : i = ts.length := by omega
      subst hk
      have hallP : ts.all plainSub = true := by simpa using hall.out
      have HallP := Lib.hid hallP
      have i1 : ¬ (ts.length : Int) < (ts.length : Int) := by omega
      clear hallP hall
      by_cases h0 : ts.length = 0
      · obtain rfl : ts = [] := List.length_eq_zero_iff.1 h0
        go_wp2
        go_ret
        exact ⟨_, rfl, St.ofOut (Out.nil _) (New.nil _) hS.fr⟩
      · have z0 : ((ts.length : Int) == 0) = false := by simp; intro hc; subst hc; simp at h0
        by_cases h1 : ts.length = 1
        · obtain ⟨t, rfl⟩ : ∃ t, ts = [t] := by
            match ts, h1 with
            | [t], _ => exact ⟨t, rfl⟩
          obtain ⟨b, off, cap2, hv, pv, rv, fv, hve, hb, hnS, hsr, hc⟩ := Sl.sub_elem (hS.sl hh) (SubsR.fr hS.fr (by simp) hs) 0 t rfl
          injection hve with hv1 hv2 hv3
          subst hv1 hv3
          have e0 := hc 0 (by decide)
          have e1 := hc 1 (by decide)
          have e2 := hc 2 (by decide)
          have e3 := hc 3 (by decide)
          have e4 := hc 4 (by decide)
          have e5 := hc 5 (by decide)
          simp only [Nat.zero_mul, Nat.zero_add, Nat.add_zero, ← Nat.add_assoc, subC, List.getElem?_cons_zero, List.getElem?_cons_succ] at e0 e1 e2 e3 e4 e5
          have hsr0 := hsr
          obtain ⟨ha, hc, rfl⟩ := hsr.1.shape
          obtain ⟨pa, pc, rfl⟩ := hsr.2.1.shape
          obtain ⟨ra, rc, rfl⟩ := hsr.2.2.1.shape
          obtain ⟨fa, fc, rfl⟩ := hsr.2.2.2.shape
          have hpt := List.all_eq_true.1 HallP.out t (by simp)
          have hlt := HL.out t (by simp)
          obtain ⟨fb, sup, ⟨ck, ps, rs, fs⟩⟩ := t
          dsimp only at e0 e2 hsr0
          have hpr : pRec [⟨fb, sup, ⟨ck, ps, rs, fs⟩⟩] = pSub ⟨fb, sup, ⟨ck, ps, rs, fs⟩⟩ := by unfold pRec; rw [if_pos HallP.out]
          have Hpr := Lib.hid hpr
          have Hpt := Lib.hid hpt
          clear hpr hpt h0 h1 z0
          go_wp2_with (go_at_call 79; (with_reducible refine (refPutSub_any _ _ _ _ _ _ _ _ _ _ _ hsr0 hlt Hpt.out).mono ?_); rintro e w4 ⟨v4, rfl, s4⟩; refine st_go s4 ?_; (repeat (apply Exists.intro)); refine ⟨?_, ?_⟩; (· (repeat (first | (with_reducible assumption) | (with_reducible apply St.alloc) | (with_reducible apply St.drew) | (with_reducible apply St.drewN) | (with_reducible apply St.alloc')))); (try simp only [World.size_alloc, World.size_setCell, size_drew, size_drewN]); intro hS; simp only [List.cons_append, List.nil_append] at hS; (try clear hQ); have hQ := St.facts hS; simp only [Facts, Res.fact, List.cons_append, List.nil_append, true_and, and_true] at hQ)
          go_ret
          rw [Hpr.out]
          exact ⟨v4, rfl, hS.sel (by ((try simp only [World.size_alloc, World.size_setCell, size_drew, size_drewN]); repeat (first | (exact Sel.all) | (exact Sel.nil) | (apply Sel.cons; (· ((try simp only [World.size_alloc, World.size_setCell, size_drew, size_drewN]); repeat (first | (exact Pick.here) | (with_reducible apply Pick.there))))))))⟩
        · have z1 : ((ts.length : Int) == 1) = false := by simp; omega
          have hpr : pRec ts = [78] ++ putU ts.length ++ ts.flatMap pSub := by
            unfold pRec
            rw [if_pos HallP.out]
            match ts, h0, h1 with
            | [], h0, _ => simp at h0
            | [t], _, h1 => simp at h1
            | a :: b :: c, _, _ => simp [pList]
          have hUl := putU_len ts.length (by omega)
          have hokA : ∀ t, t ∈ ts → t.ok := fun t ht => (plainSub_ok (List.all_eq_true.1 HallP.out t ht)).1
          have Hpr := Lib.hid hpr
          have HokA := Lib.hid hokA
          clear hpr h0 h1 hokA
          go_wp2_with first | (at_builtin; refine st_app rfl rfl rfl rfl ?_; (repeat (apply Exists.intro)); refine ⟨?_, ?_, ?_, ?_, ?_⟩; (· (repeat (first | (with_reducible assumption) | (with_reducible apply St.alloc) | (with_reducible apply St.drew) | (with_reducible apply St.drewN) | (with_reducible apply St.alloc')))); (· (try simp only [World.size_alloc, World.size_setCell, size_drew, size_drewN]); first | (apply Dst.own; ((try simp only [World.size_alloc, World.size_setCell, size_drew, size_drewN]); repeat (first | (exact Pick.here) | (with_reducible apply Pick.there))); done) | (apply Dst.lit; (· ((try simp only [World.size_alloc, World.size_setCell, size_drew, size_drewN]); repeat (first | (exact Pick.here) | (with_reducible apply Pick.there)))); (· omega)) | (apply Dst.nil; rfl)); (· (try simp only [World.size_alloc, World.size_setCell, size_drew, size_drewN]); first | (apply SrcOf.own; ((try simp only [World.size_alloc, World.size_setCell, size_drew, size_drewN]); repeat (first | (exact Pick.here) | (with_reducible apply Pick.there))); done) | (apply SrcOf.lit; (· ((try simp only [World.size_alloc, World.size_setCell, size_drew, size_drewN]); repeat (first | (exact Pick.here) | (with_reducible apply Pick.there)))); (· omega)) | (apply SrcOf.arg; assumption)); (· (first | (simp only [List.length_append, List.length_cons, List.length_nil, List.length_map]; done) | (simp only [List.length_append, List.length_cons, List.length_nil, List.length_map]; omega) | omega)); intro vN wN hS; (try clear hQ); have hQ := St.facts hS; simp only [Facts, Res.fact, List.cons_append, List.nil_append, true_and, and_true] at hQ) | (go_at_call 72; (with_reducible refine (rPutU ts.length _ (by omega)).mono ?_); rintro e w4 ⟨v4, rfl, s4⟩; refine st_go s4 ?_; (repeat (apply Exists.intro)); refine ⟨?_, ?_⟩; (· (repeat (first | (with_reducible assumption) | (with_reducible apply St.alloc) | (with_reducible apply St.drew) | (with_reducible apply St.drewN) | (with_reducible apply St.alloc')))); (try simp only [World.size_alloc, World.size_setCell, size_drew, size_drewN]); intro hS; simp only [List.cons_append, List.nil_append] at hS; (try clear hQ); have hQ := St.facts hS; simp only [Facts, Res.fact, List.cons_append, List.nil_append, true_and, and_true] at hQ)
          go_loopw [4, 5] (fun bv n wr => ∃ (i : Nat), n = .int .i64 i ∧ i ≤ ts.length ∧ St [] w wr [.own 5 1 (bv) ([78] ++ putU ts.length ++ (ts.take i).flatMap pSub).length (([78] ++ putU ts.length ++ (ts.take i).flatMap pSub).map B)]) (fun _ n _ => ts.length - (intOf n).toNat)
          case atStart => exact ⟨0, rfl, by omega, by rw [show [78] ++ putU ts.length ++ (ts.take 0).flatMap pSub = [78] ++ putU ts.length by simp]; exact hS.sel (by ((try simp only [World.size_alloc, World.size_setCell, size_drew, size_drewN]); repeat (first | (exact Sel.all) | (exact Sel.nil) | (apply Sel.cons; (· ((try simp only [World.size_alloc, World.size_setCell, size_drew, size_drewN]); repeat (first | (exact Pick.here) | (with_reducible apply Pick.there))))))))⟩
          case round =>
            clear hS
            obtain ⟨i, rfl, hi, hS⟩ := hrel
            by_cases hlt : i < ts.length
            · obtain ⟨t, ht⟩ : ∃ t, ts[i]? = some t := ⟨ts[i], by simp [hlt]⟩
              obtain ⟨b, off, cap2, hv, pv, rv, fv, hve, hb, hnS, hsr, hc⟩ := Sl.sub_elem (hS.sl hh) (SubsR.fr hS.fr (by simp) hs) i t ht; injection hve with hv1 hv2 hv3; subst hv1 hv3; have e0 := hc 0 (by decide); have e1 := hc 1 (by decide); have e2 := hc 2 (by decide); have e3 := hc 3 (by decide); have e4 := hc 4 (by decide); have e5 := hc 5 (by decide); simp only [Nat.zero_mul, Nat.zero_add, Nat.add_zero, ← Nat.add_assoc, subC, List.getElem?_cons_zero, List.getElem?_cons_succ] at e0 e1 e2 e3 e4 e5; have hsr0 := hsr; obtain ⟨ha, hc, rfl⟩ := hsr.1.shape; obtain ⟨pa, pc, rfl⟩ := hsr.2.1.shape; obtain ⟨ra, rc, rfl⟩ := hsr.2.2.1.shape; obtain ⟨fa, fc, rfl⟩ := hsr.2.2.2.shape
              have i1 : (i : Int) < (ts.length : Int) := by omega
              have htm := List.mem_of_getElem? ht
              have hpt := List.all_eq_true.1 HallP.out t htm
              have hltt := HL.out t htm
              have hxl := pSub_len t (HokA.out t htm) hltt
              have hpre := flat_len pSub 1048704 (ts.take i) (fun t ht => pSub_len t (HokA.out t (List.mem_of_mem_take ht)) (HL.out t (List.mem_of_mem_take ht)))
              have htl : (ts.take i).length ≤ ts.length := by simp; omega
              have hyx : [78] ++ putU ts.length ++ (ts.take (i + 1)).flatMap pSub = ([78] ++ putU ts.length ++ (ts.take i).flatMap pSub) ++ pSub t := by
                rw [take_one ts i t ht]
                simp
              have Hyx := Lib.hid hyx
              obtain ⟨fb, sup, ⟨ck, ps, rs, fs⟩⟩ := t
              dsimp only at e0 e2 hsr0
              have Hpt := Lib.hid hpt
              clear hyx hpt ht htm z1
              go_wp2_with first | (at_builtin; refine st_app rfl rfl rfl rfl ?_; (repeat (apply Exists.intro)); refine ⟨?_, ?_, ?_, ?_, ?_⟩; (· (repeat (first | (with_reducible assumption) | (with_reducible apply St.alloc) | (with_reducible apply St.drew) | (with_reducible apply St.drewN) | (with_reducible apply St.alloc')))); (· (try simp only [World.size_alloc, World.size_setCell, size_drew, size_drewN]); first | (apply Dst.own; ((try simp only [World.size_alloc, World.size_setCell, size_drew, size_drewN]); repeat (first | (exact Pick.here) | (with_reducible apply Pick.there))); done) | (apply Dst.lit; (· ((try simp only [World.size_alloc, World.size_setCell, size_drew, size_drewN]); repeat (first | (exact Pick.here) | (with_reducible apply Pick.there)))); (· omega)) | (apply Dst.nil; rfl)); (· (try simp only [World.size_alloc, World.size_setCell, size_drew, size_drewN]); first | (apply SrcOf.own; ((try simp only [World.size_alloc, World.size_setCell, size_drew, size_drewN]); repeat (first | (exact Pick.here) | (with_reducible apply Pick.there))); done) | (apply SrcOf.lit; (· ((try simp only [World.size_alloc, World.size_setCell, size_drew, size_drewN]); repeat (first | (exact Pick.here) | (with_reducible apply Pick.there)))); (· omega)) | (apply SrcOf.arg; assumption)); (· (first | (simp only [List.length_append, List.length_cons, List.length_nil, List.length_map]; done) | (simp only [List.length_append, List.length_cons, List.length_nil, List.length_map]; omega) | omega)); intro vN wN hS; (try clear hQ); have hQ := St.facts hS; simp only [Facts, Res.fact, List.cons_append, List.nil_append, true_and, and_true] at hQ) | (go_at_call 79; (with_reducible refine (refPutSub_any _ _ _ _ _ _ _ _ _ _ _ hsr0 hltt Hpt.out).mono ?_); rintro e w4 ⟨v4, rfl, s4⟩; refine st_go s4 ?_; (repeat (apply Exists.intro)); refine ⟨?_, ?_⟩; (· (repeat (first | (with_reducible assumption) | (with_reducible apply St.alloc) | (with_reducible apply St.drew) | (with_reducible apply St.drewN) | (with_reducible apply St.alloc')))); (try simp only [World.size_alloc, World.size_setCell, size_drew, size_drewN]); intro hS; simp only [List.cons_append, List.nil_append] at hS; (try clear hQ); have hQ := St.facts hS; simp only [Facts, Res.fact, List.cons_append, List.nil_append, true_and, and_true] at hQ)
              go_roundw
              case rel => exact ⟨i + 1, by go_num, by omega, by rw [Hyx.out]; exact hS.sel (by ((try simp only [World.size_alloc, World.size_setCell, size_drew, size_drewN]); repeat (first | (exact Sel.all) | (exact Sel.nil) | (apply Sel.cons; (· ((try simp only [World.size_alloc, World.size_setCell, size_drew, size_drewN]); repeat (first | (exact Pick.here) | (with_reducible apply Pick.there))))))))⟩
              case measure => simp [intOf]; omega
            · have hk : i = ts.length := by omega
              subst hk
              clear z1
              have i1 : ¬ (ts.length : Int) < (ts.length : Int) := by omega
              go_wp2
              go_ret
              rw [List.take_length] at hS
              rw [Hpr.out]
              exact ⟨_, rfl, hS.sel (by ((try simp only [World.size_alloc, World.size_setCell, size_drew, size_drewN]); repeat (first | (exact Sel.all) | (exact Sel.nil) | (apply Sel.cons; (· ((try simp only [World.size_alloc, World.size_setCell, size_drew, size_drewN]); repeat (first | (exact Pick.here) | (with_reducible apply Pick.there))))))))⟩

theorem Gl.st {S : List Nat} {w0 w : World} {G : List Res} (hg : Gl S w0) (h : St S w0 w G) : Gl S w := h.gl hg

set_option maxRecDepth 100000 in
set_option maxHeartbeats 3200000 in
theorem PutVals_any {w : World} (hg : Gl [] w) (v : Value) (ts : List ValT) (h : Sl [] w 4 v ts.length (ts.flatMap valC)) (hok : ∀ t, t ∈ ts → t.heap.ok) (hl : ts.length ≤ 1048576) :
    Calls Tryd.prog 35 #[v] w fun e w' => ∃ v', e = .returned v' ∧ St [] w w' [.own 5 1 (v') (valsB ts).length ((valsB ts).map B)] := by
  have hh := h
  obtain ⟨_, _, a, cap, rfl, _⟩ := h
  have hS0 := St.start [] w
  have Hok := Lib.hid hok
  clear hok
  have hmf : ∀ (fn : Fn) (first cap : Array Value) (w : World), (Instr.makeFunc fn first cap).run Tryd.prog w = .ok (.func fn first cap) w := fun _ _ _ _ => rfl
  go_enter Tryd.func35, Tryd.ntmps35
  go_wp2
  go_loopw [7] (fun n wr => ∃ (i : Nat), n = .int .i64 i ∧ i ≤ ts.length ∧ St [] w wr [] ∧ Hid ((ts.take i).all plainVal = true)) (fun n _ => ts.length - (intOf n).toNat)
  case atStart => exact ⟨0, rfl, by omega, hS0, Lib.hid rfl⟩
  case round =>
    obtain ⟨i, rfl, hi, hS, hall⟩ := hrel
    by_cases hlt : i < ts.length
    · obtain ⟨x, hx⟩ : ∃ t, ts[i]? = some t := ⟨ts[i], by simp [hlt]⟩
      obtain ⟨b1, o1, p1, hv1, hb1, _, hd1⟩ := Sl.elem (hS.sl hh) (fun _ => rfl) i x hx
      injection hv1 with e1 _ e1c
      subst e1 e1c
      have f10 := hd1 0 (by decide)
      have f11 := hd1 1 (by decide)
      have f12 := hd1 2 (by decide)
      have f13 := hd1 3 (by decide)
      clear hd1
      simp only [Nat.add_zero, ← Nat.add_assoc, valC, List.getElem?_cons_zero, List.getElem?_cons_succ] at f10 f11 f12 f13
      have i1 : (i : Int) < (ts.length : Int) := by omega
      have Hx := Lib.hid hx
      clear hx
      go_wp2_with (go_at_call 75; refine (plainVal_any _ x).mono ?_; rintro e w1 ⟨rfl, hF1⟩; generalize hb1 : plainVal x = b1; have Hb1 := Lib.hid hb1; clear hb1)
      · have hne : ts.all plainVal = false := by
          apply Bool.eq_false_iff.2
          intro hc
          have := List.all_eq_true.1 hc x (List.mem_of_getElem? Hx.out)
          rw [Hb1.out] at this
          simp_all
        go_ret
        refine ⟨_, rfl, ?_⟩
        rw [valsB_no hne]
        exact St.ofOut (Out.nil _) (New.nil _) ((hS.fr.alloc _).trans hF1)
      · go_roundw
        case rel =>
          refine ⟨i + 1, by go_num, by omega, (hS.alloc' _).step0 hF1, Lib.hid ?_⟩
          rw [take_one ts i x Hx.out, List.all_append, hall.out]
          have := Hb1.out
          simp_all
        case measure => simp [intOf]; omega
    · have hk : i = ts.length := by omega
      subst hk
      have hallP : ts.all plainVal = true := by simpa using hall.out
      have HP := Lib.hid hallP
      clear hallP hall
      have i1 : ¬ (ts.length : Int) < (ts.length : Int) := by omega
      have hg1 := hS.gl hg
      have hs1 := hS.sl hh
      have hx : ([] : List UInt8).length + 16 * ts.length + 64 ≤ 70368744177664 := by simp; omega
      go_wp2_with (go_at_call 77; refine (putList_val (.slice none 0 0) hg1 [] _ ts hs1 Hok.out (Out.nil _) hx).mono ?_; rintro e w4 ⟨v4, rfl, ho4, hA4⟩)
      go_ret
      refine ⟨v4, rfl, ?_⟩
      rw [valsB_yes HP.out]
      refine St.ofOut ho4 (fun b hb => ?_) (hS.fr.trans hA4.1)
      rcases hA4.2 b hb with hb | hb
      · cases hb
      · exact Nat.le_trans hS.fr.size hb
end Go.Proofs.YtokneepfknepaaaDoor
