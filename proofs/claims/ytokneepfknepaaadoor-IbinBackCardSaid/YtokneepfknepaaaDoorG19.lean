/- The law IbinBack, walked. Made by tools/back7.py. -/
import Derived.Test.YtokneepfknepaaaDoorG11
import Derived.Test.YtokneepfknepaaaDoorG18
set_option linter.unusedSimpArgs false
set_option linter.unusedVariables false
namespace Go.Proofs.YtokneepfknepaaaDoor
open Go.RowKit
theorem rExpr_small (bs : List UInt8) (h : (rExpr bs rOpen).2.err = 0) : ∀ i, i ∈ (rExpr bs rOpen).1 → SmallK i bs.length := by
  obtain ⟨l, k, e, h1, h2, h3, h4⟩ := rExprF_back (bs.length + 1 - rOpen.at_) bs [] rOpen rfl (by simp [rOpen]) (by simp [rOpen]) h
  have e1 : (rExpr bs rOpen).1 = l := by unfold rExpr; rw [e]; rfl
  rw [e1]
  intro i hi
  obtain ⟨s1, s2, s3, s4⟩ := (h2 i hi).2
  have : rOpen.at_ = 0 := rfl
  exact ⟨s1, by omega, by omega, by omega⟩
theorem St.empty {S : List Nat} {w0 w : World} {G : List Res} (h : St S w0 w G) : St S w0 (w.alloc (.cells #[] 5)) (.own 5 1 ((.slice (some ⟨w.heap.size, 0, none⟩) 0 0)) (([] : List UInt8)).length ((([] : List UInt8)).map B) :: G) := by
  refine (h.alloc' _).put (r := .own 5 1 ((.slice (some ⟨w.heap.size, 0, none⟩) 0 0)) (([] : List UInt8)).length ((([] : List UInt8)).map B)) (Own.made (S := []) 5 1 0 [] (by simp) rfl (by simp) (by decide)) (fun b hb => ?_) (fun b hb s hs hm => ?_)
  · have : b = w.heap.size := by simpa [Res.blk, Value.blk] using hb
    have := h.fr.size
    omega
  · have : b = w.heap.size := by simpa [Res.blk, Value.blk] using hb
    have := h.lt hs hm
    omega
set_option maxRecDepth 100000 in
set_option maxHeartbeats 1600000 in
theorem ibinBack_any (hM : MayOk) {w : World} (hg : Gl7 [] w) (lv : Value) (is : List InstrT) (ds : List Value) (h : Sl [] w 19 lv is.length ds) (hs : InssR [] w is ds) (hop : ∀ i, i ∈ is → -9223372036854775808 ≤ i.op ∧ i.op < 9223372036854775808) (hu : ∀ i, i ∈ is → i.u < 18446744073709551616) (bv : Value) (bh : List UInt8) (h2 : Sl [] w 1 bv bh.length (bh.map B)) :
    Calls Tryd.prog 10 #[lv, bv] w fun e w' => e = .returned (.bool true) ∧ Fr [] w w' := by
  obtain ⟨la, lc, rfl⟩ := h.shape
  obtain ⟨ba, bc, rfl⟩ := h2.shape
  cases hgr : greatL is with
  | true =>
    have Hgr := Lib.hid hgr
    clear hgr
    go_enter Tryd.func10, Tryd.ntmps10
    go_wp2_with first | (go_at_call 38; refine (known7 hM hg).mono ?_; rintro e w1 ⟨rfl, hF1⟩) | (go_at_call 39; refine (great7 _ _ is ds (h.fr hF1 (by simp)) (InssR.fr hF1 (by simp) hs)).mono ?_; rintro e w2 ⟨rfl, hF2⟩; rw [Hgr.out]; have f2 := hF1.trans hF2)
    go_ret
    exact ⟨rfl, f2⟩
  | false =>
    have Hgr := Lib.hid hgr
    obtain ⟨hsm, hS4⟩ := great_sm hgr hu
    have h120 := (great_no hgr).1
    have hwf : ∀ i, i ∈ is → WfI i := fun i hi => by
      have h1 := (great_no hgr).2 i hi
      exact ⟨(hop i hi).1, (hop i hi).2, by omega, by omega, by omega⟩
    have hl : is.length ≤ 65536 := by omega
    have hpl := pExpr_len is hsm
    clear hgr
    by_cases h800 : 800 < bh.length
    · have i1 : (800 : Int) < (bh.length : Int) := by omega
      go_enter Tryd.func10, Tryd.ntmps10
      go_wp2_with first | (go_at_call 38; refine (known7 hM hg).mono ?_; rintro e w1 ⟨rfl, hF1⟩) | (go_at_call 39; refine (great7 _ _ is ds (h.fr hF1 (by simp)) (InssR.fr hF1 (by simp) hs)).mono ?_; rintro e w2 ⟨rfl, hF2⟩; rw [Hgr.out]; have f2 := hF1.trans hF2)
      go_ret
      exact ⟨rfl, f2⟩
    · have i1 : ¬ (800 : Int) < (bh.length : Int) := by omega
      by_cases hP : 0 < (pExpr is).length
      · have i2 : (0 : Int) < ((pExpr is).length : Nat) := by omega
        have hrb := rExpr_behind hP hS4 bh
        have Hr1 := Lib.hid hrb
        clear hrb
        go_enter Tryd.func10, Tryd.ntmps10
        go_wp2_with first | (go_at_call 38; refine (known7 hM hg).mono ?_; rintro e w1 ⟨rfl, hF1⟩) | (go_at_call 39; refine (great7 _ _ is ds (h.fr hF1 (by simp)) (InssR.fr hF1 (by simp) hs)).mono ?_; rintro e w2 ⟨rfl, hF2⟩; rw [Hgr.out]; have f2 := hF1.trans hF2) | ((go_at_call 40; refine (Put_any hM (hg.fr f2 (by simp)) _ is ds (h.fr f2 (by simp)) (InssR.fr f2 (by simp) hs) hl hwf hsm).mono ?_; rintro e w3 ⟨v3, rfl, s3⟩; have ho3 : Own [] _ _ _ _ _ _ := s3.head; obtain ⟨va, vc, rfl, hvc1, hvc2⟩ := Own.shape ho3; have f3 := f2.trans s3.fr); have hS := s3.empty) | ((at_builtin; refine st_app rfl rfl rfl rfl ?_; (repeat (apply Exists.intro)); refine ⟨?_, ?_, ?_, ?_, ?_⟩; (· (repeat (first | (with_reducible assumption) | (with_reducible apply St.alloc) | (with_reducible apply St.drew) | (with_reducible apply St.drewN) | (with_reducible apply St.alloc')))); (· (try simp only [World.size_alloc, World.size_setCell, size_drew, size_drewN]); first | (apply Dst.own; ((try simp only [World.size_alloc, World.size_setCell, size_drew, size_drewN]); repeat (first | (exact Pick.here) | (with_reducible apply Pick.there))); done) | (apply Dst.lit; (· ((try simp only [World.size_alloc, World.size_setCell, size_drew, size_drewN]); repeat (first | (exact Pick.here) | (with_reducible apply Pick.there)))); (· omega)) | (apply Dst.nil; rfl)); (· (try simp only [World.size_alloc, World.size_setCell, size_drew, size_drewN]); first | (apply SrcOf.own; ((try simp only [World.size_alloc, World.size_setCell, size_drew, size_drewN]); repeat (first | (exact Pick.here) | (with_reducible apply Pick.there))); done) | (apply SrcOf.lit; (· ((try simp only [World.size_alloc, World.size_setCell, size_drew, size_drewN]); repeat (first | (exact Pick.here) | (with_reducible apply Pick.there)))); (· omega)) | (apply SrcOf.arg; assumption)); (· (first | (simp only [List.length_append, List.length_cons, List.length_nil, List.length_map]; done) | (simp only [List.length_append, List.length_cons, List.length_nil, List.length_map]; omega) | omega)); intro vN wN hS; (try clear hQ); have hQ := St.facts hS; simp only [Facts, Res.fact, List.cons_append, List.nil_append, true_and, and_true] at hQ); have h2N := h2.fr (f2.trans hS.fr) (by simp); have hOw : Own [] _ _ _ _ _ _ := hS.head) | fail
        have sl4 : Sl [] wN 1 vN (pExpr is ++ bh).length ((pExpr is ++ bh).map B) := Own.sl hOw (S' := []) (by simp)
        have f4 := f2.trans hS.fr
        have h4 := h.fr f4 (by simp)
        have hs4 := InssR.fr f4 (by simp) hs
        go_at_call 27
        refine (open_any (bs := pExpr is ++ bh) sl4 (hg.fr f4 (by simp)).gl (by rw [List.length_append]; omega)).mono ?_
        rintro e w20 ⟨rb20, v20, rfl, hR20, hN20, hF20⟩
        have f20 := f4.trans hF20
        have n20 := Nat.le_trans f4.size hN20
        have c21 := ib_expr hR20 (hg.opened f20 n20) rfl (by rw [List.length_append]; omega)
        rw [Hr1.out] at c21
        go_wp2_with first
          | (go_at_call 42; refine c21.mono ?_; rintro e w21 ⟨v21, cs21, rfl, hS21, hI21, hR21, hF21⟩; have f21 := f20.then hF21 (new7 n20); have t21 := hF20.then hF21 (new7 hN20))
          | (go_at_call 24; refine (rd_err hR21).mono ?_; rintro e w' ⟨rfl, nq0, rfl⟩; have z21 := (Fr.refl [] w21).drewN nq0)
          | (go_at_call 43; refine (Same7_any _ _ _ is is ds cs21 ((h4.fr t21 (by simp)).fr z21 (by simp)) (InssR.fr z21 (by simp) (InssR.fr t21 (by simp) hs4)) ((hS21.sub (by simp)).fr z21 (by simp)) (InssR.fr z21 (by simp) (InssR.sub (by simp) hI21)) (by omega) (by omega)).mono ?_; rintro e w23 ⟨rfl, hF23⟩; rw [decide_eq_true (rfl : is = is)]; have f23 := (f21.trans z21).trans hF23; have hR23 := (hR21.drewN nq0).fr hF23 (by simp) (by simp))
          | (go_at_call 22; refine (rd_at hR23).mono ?_; rintro e w' ⟨rfl, rfl⟩)
          | fail
        have FW := f23
        have hg1 := hg.fr FW (by simp)
        have hb1 := h2.fr FW (by simp)
        go_at_call 27
        refine (open_any hb1 hg1.gl (by omega)).mono ?_
        rintro e w5 ⟨rb5, v5, rfl, hR5, hN5, hF5⟩
        have f5 := FW.trans hF5
        have n5 := Nat.le_trans FW.size hN5
        have c6 := ib_expr hR5 (hg.opened f5 n5) rfl (by omega)
        have hbk := rExpr_back bh (by omega)
        have hsk := rExpr_small bh
        generalize rExpr bh rOpen = qq at c6 hbk hsk
        obtain ⟨ms, t⟩ := qq
        simp only at c6 hbk hsk
        have hC6 := Lib.hid c6
        clear c6
        by_cases he : t.err = 0
        · obtain ⟨ha, hn, hle, hpos, hat, _⟩ := hbk.2 he
          have hsm6 := hsk he
          have q6 : (t.err != 0) = false := by simp [he]
          have hml : ms.length ≤ 800 := by
            obtain ⟨_, _, e3⟩ := pExpr_pos hpos
            have := flat_pos ms
            rw [e3, List.length_append] at hle
            omega
          have hSm : ∀ i, i ∈ ms → SmI i := fun i hi => by
            obtain ⟨s1, s2, s3, s4⟩ := hsm6 i hi
            exact ⟨by omega, by omega, by omega, s1⟩
          have hSI : ∀ i, i ∈ ms → SmallI i := fun i hi => (hsm6 i hi).small (by omega)
          have hWf : ∀ i, i ∈ ms → WfI i := fun i hi => by
            have hb := shape_ok (mayI_shape (List.all_eq_true.1 ha i hi))
            obtain ⟨s1, s2, s3, s4⟩ := hsm6 i hi
            exact ⟨by omega, by omega, by omega, by omega, by omega⟩
          have hrb := rExpr_behind (l := ms) hpos hSI []
          rw [List.append_nil] at hrb
          have Ha := Lib.hid ha
          have Hn := Lib.hid hn
          have Hrb := Lib.hid hrb
          have hpl6 : (pExpr ms).length ≤ 800 := by omega
          have i8 : (0 : Int) < ((pExpr ms).length : Nat) := by omega
          have i9 : (((pExpr ms).length : Nat) : Int) ≤ (t.at_ : Nat) := by omega
          clear hbk hsk ha hn hrb he
          go_wp2_with first | (go_at_call 42; refine hC6.out.mono ?_; rintro e w6 ⟨v6, cs6, rfl, hS6, hI6, hR6, hF6⟩; obtain ⟨a6, p6, rfl⟩ := hS6.shape; have f6 := f5.then hF6 (new7 n5)) | (go_at_call 24; refine (rd_err hR6).mono ?_; rintro e w' ⟨rfl, nq, rfl⟩)
          have hS6a := (hS6.sub (S' := []) (by simp)).fr ((Fr.refl [] w6).drewN nq) (by simp)
          have hI6a := InssR.fr ((Fr.refl [] w6).drewN nq) (by simp) (InssR.sub (S' := []) (by simp) hI6)
          have hR6a := hR6.drewN nq
          have f6a := f6.drewN nq
          generalize w6.drewN nq = W6 at hS6a hI6a hR6a f6a
          go_loopw [14] (fun n wr => ∃ (k : Nat), n = .int .i64 k ∧ k ≤ ms.length ∧ Fr [] W6 wr) (fun n _ => ms.length - (intOf n).toNat)
          case atStart => exact ⟨0, rfl, by omega, Fr.refl _ _⟩
          case round =>
            obtain ⟨k, rfl, hk, hFr⟩ := hrel
            by_cases hlt : k < ms.length
            · obtain ⟨i, hi⟩ : ∃ t, ms[k]? = some t := ⟨ms[k], by simp [hlt]⟩
              have hmem := List.mem_of_getElem? hi
              have Hmi := Lib.hid (List.all_eq_true.1 Ha.out i hmem)
              have hwi := hWf i hmem
              obtain ⟨b7, o7, p7, tv, lv, cv, hv, hb7, _, hR7, hc7⟩ := Sl.ins_elem hS6a hI6a k i hi
              injection hv with e1 _ e3
              subst e1 e3
              have hbw : b7 < wr.heap.size := Nat.lt_of_lt_of_le hb7 hFr.size
              have hR8 := hR7.fr hFr (fun _ _ h => h)
              have hRow : wr.rangeAt b7 (o7 + k * 19) (insC i tv lv cv) := fun r v hv => by
                rw [Nat.add_assoc, (hFr.cell hb7 (by simp) _).trans (hc7 r (List.getElem?_eq_some_iff.1 hv).1)]
                exact hv
              have hSt : St [] wr wr [] := St.start [] wr
              have hgr := hg.fr (f6a.trans hFr) (by simp)
              clear hc7
              go_wp2_with first | (refine st_load (ty := 81) rfl rfl rfl und_ins rfl ?_; (repeat (apply Exists.intro)); refine ⟨?_, ?_, ?_, ?_⟩; (· exact hSt); (· apply RowAt.elem; exact hRow); (· exact size_ins)) | (go_at_call 44; refine (hM _ hgr i tv lv cv hR8 hwi).mono ?_; rintro e w8 ⟨rfl, hF8⟩; rw [Hmi.out])
              go_roundw
              case rel => exact ⟨k + 1, by go_num, by omega, hFr.trans hF8⟩
              case measure => simp [intOf]; omega
            · obtain rfl : k = ms.length := by omega
              have fr := f6a.trans hFr
              have hgr := hg.fr fr (by simp)
              have hSr := hS6a.fr hFr (by simp)
              have hIr := InssR.fr hFr (by simp) hI6a
              have hRr := hR6a.fr hFr (by simp) (by simp)
              go_wp2_with first
                | (go_at_call 40; refine (Put_any hM hgr _ ms cs6 hSr hIr (by omega) hWf hSm).mono ?_; rintro e w9 ⟨v9, rfl, s9⟩; have ho9 : Own [] _ _ _ _ _ _ := s9.head; obtain ⟨va9, vc9, rfl, _, _⟩ := Own.shape ho9; have f9 := fr.trans s9.fr; have hS9 := hSr.fr s9.fr (by simp); have hI9 := InssR.fr s9.fr (by simp) hIr; have hR9 := hRr.fr s9.fr (by simp) (by simp); have sl9 := Own.sl ho9 (S' := []) (by simp))
                | (go_at_call 41; refine (nested_any _ _ ms cs6 hS9 hI9 (by omega)).mono ?_; rintro e w10 ⟨rfl, hF10⟩; rw [Hn.out]; have f10 := f9.trans hF10; have hR10 := hR9.fr hF10 (by simp) (by simp); have sl10 := sl9.fr hF10 (by simp); have hS10 := hS9.fr hF10 (by simp); have hI10 := InssR.fr hF10 (by simp) hI9)
                | (go_at_call 22; refine (rd_at hR10).mono ?_; rintro e w' ⟨rfl, rfl⟩)
                | (go_at_call 27; refine (open_any sl10 (hg.fr f10 (by simp)).gl (by omega)).mono ?_; rintro e w11 ⟨rb11, v11, rfl, hR11, hN11, hF11⟩; have f11 := f10.trans hF11; have n11 := Nat.le_trans f10.size hN11; have c12 := ib_expr hR11 (hg.opened f11 n11) rfl (by omega); rw [Hrb.out] at c12)
                | (go_at_call 42; refine c12.mono ?_; rintro e w12 ⟨v12, cs12, rfl, hS12, hI12, hR12, hF12⟩; have f12 := f11.then hF12 (new7 n11); have t12 := hF11.then hF12 (new7 hN11))
                | (go_at_call 43; refine (Same7_any _ _ _ ms ms cs12 cs6 (hS12.sub (by simp)) (InssR.sub (by simp) hI12) (hS10.fr t12 (by simp)) (InssR.fr t12 (by simp) hI10) (by omega) (by omega)).mono ?_; rintro e w13 ⟨rfl, hF13⟩; rw [decide_eq_true (rfl : ms = ms)]; have f13 := f12.trans hF13)
              go_ret
              exact ⟨rfl, f13⟩
        · have hm := hbk.1 he
          subst hm
          have q6 : (t.err != 0) = true := by simp [he]
          clear hbk hsk he
          go_wp2_with first | (go_at_call 42; refine hC6.out.mono ?_; rintro e w6 ⟨v6, cs6, rfl, hS6, hI6, hR6, hF6⟩; obtain ⟨a6, p6, rfl⟩ := hS6.shape; have f6 := f5.then hF6 (new7 n5)) | (go_at_call 24; refine (rd_err hR6).mono ?_; rintro e w' ⟨rfl, nq, rfl⟩)
          go_ret
          exact ⟨rfl, f6.drewN _⟩
      · have i2 : ¬ (0 : Int) < ((pExpr is).length : Nat) := by omega
        go_enter Tryd.func10, Tryd.ntmps10
        go_wp2_with first | (go_at_call 38; refine (known7 hM hg).mono ?_; rintro e w1 ⟨rfl, hF1⟩) | (go_at_call 39; refine (great7 _ _ is ds (h.fr hF1 (by simp)) (InssR.fr hF1 (by simp) hs)).mono ?_; rintro e w2 ⟨rfl, hF2⟩; rw [Hgr.out]; have f2 := hF1.trans hF2) | (go_at_call 40; refine (Put_any hM (hg.fr f2 (by simp)) _ is ds (h.fr f2 (by simp)) (InssR.fr f2 (by simp) hs) hl hwf hsm).mono ?_; rintro e w3 ⟨v3, rfl, s3⟩; have ho3 : Own [] _ _ _ _ _ _ := s3.head; obtain ⟨va, vc, rfl, hvc1, hvc2⟩ := Own.shape ho3; have f3 := f2.trans s3.fr) | fail
        have FW := f3
        have hg1 := hg.fr FW (by simp)
        have hb1 := h2.fr FW (by simp)
        go_at_call 27
        refine (open_any hb1 hg1.gl (by omega)).mono ?_
        rintro e w5 ⟨rb5, v5, rfl, hR5, hN5, hF5⟩
        have f5 := FW.trans hF5
        have n5 := Nat.le_trans FW.size hN5
        have c6 := ib_expr hR5 (hg.opened f5 n5) rfl (by omega)
        have hbk := rExpr_back bh (by omega)
        have hsk := rExpr_small bh
        generalize rExpr bh rOpen = qq at c6 hbk hsk
        obtain ⟨ms, t⟩ := qq
        simp only at c6 hbk hsk
        have hC6 := Lib.hid c6
        clear c6
        by_cases he : t.err = 0
        · obtain ⟨ha, hn, hle, hpos, hat, _⟩ := hbk.2 he
          have hsm6 := hsk he
          have q6 : (t.err != 0) = false := by simp [he]
          have hml : ms.length ≤ 800 := by
            obtain ⟨_, _, e3⟩ := pExpr_pos hpos
            have := flat_pos ms
            rw [e3, List.length_append] at hle
            omega
          have hSm : ∀ i, i ∈ ms → SmI i := fun i hi => by
            obtain ⟨s1, s2, s3, s4⟩ := hsm6 i hi
            exact ⟨by omega, by omega, by omega, s1⟩
          have hSI : ∀ i, i ∈ ms → SmallI i := fun i hi => (hsm6 i hi).small (by omega)
          have hWf : ∀ i, i ∈ ms → WfI i := fun i hi => by
            have hb := shape_ok (mayI_shape (List.all_eq_true.1 ha i hi))
            obtain ⟨s1, s2, s3, s4⟩ := hsm6 i hi
            exact ⟨by omega, by omega, by omega, by omega, by omega⟩
          have hrb := rExpr_behind (l := ms) hpos hSI []
          rw [List.append_nil] at hrb
          have Ha := Lib.hid ha
          have Hn := Lib.hid hn
          have Hrb := Lib.hid hrb
          have hpl6 : (pExpr ms).length ≤ 800 := by omega
          have i8 : (0 : Int) < ((pExpr ms).length : Nat) := by omega
          have i9 : (((pExpr ms).length : Nat) : Int) ≤ (t.at_ : Nat) := by omega
          clear hbk hsk ha hn hrb he
          go_wp2_with first | (go_at_call 42; refine hC6.out.mono ?_; rintro e w6 ⟨v6, cs6, rfl, hS6, hI6, hR6, hF6⟩; obtain ⟨a6, p6, rfl⟩ := hS6.shape; have f6 := f5.then hF6 (new7 n5)) | (go_at_call 24; refine (rd_err hR6).mono ?_; rintro e w' ⟨rfl, nq, rfl⟩)
          have hS6a := (hS6.sub (S' := []) (by simp)).fr ((Fr.refl [] w6).drewN nq) (by simp)
          have hI6a := InssR.fr ((Fr.refl [] w6).drewN nq) (by simp) (InssR.sub (S' := []) (by simp) hI6)
          have hR6a := hR6.drewN nq
          have f6a := f6.drewN nq
          generalize w6.drewN nq = W6 at hS6a hI6a hR6a f6a
          go_loopw [14] (fun n wr => ∃ (k : Nat), n = .int .i64 k ∧ k ≤ ms.length ∧ Fr [] W6 wr) (fun n _ => ms.length - (intOf n).toNat)
          case atStart => exact ⟨0, rfl, by omega, Fr.refl _ _⟩
          case round =>
            obtain ⟨k, rfl, hk, hFr⟩ := hrel
            by_cases hlt : k < ms.length
            · obtain ⟨i, hi⟩ : ∃ t, ms[k]? = some t := ⟨ms[k], by simp [hlt]⟩
              have hmem := List.mem_of_getElem? hi
              have Hmi := Lib.hid (List.all_eq_true.1 Ha.out i hmem)
              have hwi := hWf i hmem
              obtain ⟨b7, o7, p7, tv, lv, cv, hv, hb7, _, hR7, hc7⟩ := Sl.ins_elem hS6a hI6a k i hi
              injection hv with e1 _ e3
              subst e1 e3
              have hbw : b7 < wr.heap.size := Nat.lt_of_lt_of_le hb7 hFr.size
              have hR8 := hR7.fr hFr (fun _ _ h => h)
              have hRow : wr.rangeAt b7 (o7 + k * 19) (insC i tv lv cv) := fun r v hv => by
                rw [Nat.add_assoc, (hFr.cell hb7 (by simp) _).trans (hc7 r (List.getElem?_eq_some_iff.1 hv).1)]
                exact hv
              have hSt : St [] wr wr [] := St.start [] wr
              have hgr := hg.fr (f6a.trans hFr) (by simp)
              clear hc7
              go_wp2_with first | (refine st_load (ty := 81) rfl rfl rfl und_ins rfl ?_; (repeat (apply Exists.intro)); refine ⟨?_, ?_, ?_, ?_⟩; (· exact hSt); (· apply RowAt.elem; exact hRow); (· exact size_ins)) | (go_at_call 44; refine (hM _ hgr i tv lv cv hR8 hwi).mono ?_; rintro e w8 ⟨rfl, hF8⟩; rw [Hmi.out])
              go_roundw
              case rel => exact ⟨k + 1, by go_num, by omega, hFr.trans hF8⟩
              case measure => simp [intOf]; omega
            · obtain rfl : k = ms.length := by omega
              have fr := f6a.trans hFr
              have hgr := hg.fr fr (by simp)
              have hSr := hS6a.fr hFr (by simp)
              have hIr := InssR.fr hFr (by simp) hI6a
              have hRr := hR6a.fr hFr (by simp) (by simp)
              go_wp2_with first
                | (go_at_call 40; refine (Put_any hM hgr _ ms cs6 hSr hIr (by omega) hWf hSm).mono ?_; rintro e w9 ⟨v9, rfl, s9⟩; have ho9 : Own [] _ _ _ _ _ _ := s9.head; obtain ⟨va9, vc9, rfl, _, _⟩ := Own.shape ho9; have f9 := fr.trans s9.fr; have hS9 := hSr.fr s9.fr (by simp); have hI9 := InssR.fr s9.fr (by simp) hIr; have hR9 := hRr.fr s9.fr (by simp) (by simp); have sl9 := Own.sl ho9 (S' := []) (by simp))
                | (go_at_call 41; refine (nested_any _ _ ms cs6 hS9 hI9 (by omega)).mono ?_; rintro e w10 ⟨rfl, hF10⟩; rw [Hn.out]; have f10 := f9.trans hF10; have hR10 := hR9.fr hF10 (by simp) (by simp); have sl10 := sl9.fr hF10 (by simp); have hS10 := hS9.fr hF10 (by simp); have hI10 := InssR.fr hF10 (by simp) hI9)
                | (go_at_call 22; refine (rd_at hR10).mono ?_; rintro e w' ⟨rfl, rfl⟩)
                | (go_at_call 27; refine (open_any sl10 (hg.fr f10 (by simp)).gl (by omega)).mono ?_; rintro e w11 ⟨rb11, v11, rfl, hR11, hN11, hF11⟩; have f11 := f10.trans hF11; have n11 := Nat.le_trans f10.size hN11; have c12 := ib_expr hR11 (hg.opened f11 n11) rfl (by omega); rw [Hrb.out] at c12)
                | (go_at_call 42; refine c12.mono ?_; rintro e w12 ⟨v12, cs12, rfl, hS12, hI12, hR12, hF12⟩; have f12 := f11.then hF12 (new7 n11); have t12 := hF11.then hF12 (new7 hN11))
                | (go_at_call 43; refine (Same7_any _ _ _ ms ms cs12 cs6 (hS12.sub (by simp)) (InssR.sub (by simp) hI12) (hS10.fr t12 (by simp)) (InssR.fr t12 (by simp) hI10) (by omega) (by omega)).mono ?_; rintro e w13 ⟨rfl, hF13⟩; rw [decide_eq_true (rfl : ms = ms)]; have f13 := f12.trans hF13)
              go_ret
              exact ⟨rfl, f13⟩
        · have hm := hbk.1 he
          subst hm
          have q6 : (t.err != 0) = true := by simp [he]
          clear hbk hsk he
          go_wp2_with first | (go_at_call 42; refine hC6.out.mono ?_; rintro e w6 ⟨v6, cs6, rfl, hS6, hI6, hR6, hF6⟩; obtain ⟨a6, p6, rfl⟩ := hS6.shape; have f6 := f5.then hF6 (new7 n5)) | (go_at_call 24; refine (rd_err hR6).mono ?_; rintro e w' ⟨rfl, nq, rfl⟩)
          go_ret
          exact ⟨rfl, f6.drewN _⟩
end Go.Proofs.YtokneepfknepaaaDoor
