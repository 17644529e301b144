/- The walk of the law TbinBack. -/
import Derived.Test.YtokneepfknepaaaDoorCutL
import Derived.Test.YtokneepfknepaaaDoorBackP
import Derived.Test.YtokneepfknepaaaDoorSame2W
namespace Go.Proofs.YtokneepfknepaaaDoor
open Go.RowKit

theorem new1 {a rb : Nat} (h : a ≤ rb) : ∀ k, k ∈ [rb] → k ∈ ([] : List Nat) ∨ a ≤ k := by intro k hk; simp at hk; subst hk; exact .inr h
theorem bne_true_of_ne {a b : Int} (h : a ≠ b) : (a != b) = true := by simpa using h
theorem pRec_len600 (ts : List SubT) (hn : ts.length ≤ 600) (hl : ∀ t, t ∈ ts → t.len ≤ 65536) : (pRec ts).length ≤ 1073741824 := by
  unfold pRec
  split
  · rename_i hp
    have hok := fun t ht => (plainSub_ok (List.all_eq_true.1 hp t ht)).1
    have h1 := flat_len pSub 1048704 ts (fun t ht => pSub_len t (hok t ht) (hl t ht))
    have h2 := putU_len ts.length (by omega)
    split
    · simp
    · rename_i t
      have := pSub_len t (hok t (by simp)) (hl t (by simp))
      omega
    · simp only [pList, List.length_cons, List.length_append]
      omega
  · simp
theorem same6_refl (w : World) (a b : Value) (xs : List SubT) (gs hs : List Value) (h1 : Sl [] w 6 a xs.length gs) (g1 : SubsR [] w xs gs) (h2 : Sl [] w 6 b xs.length hs) (g2 : SubsR [] w xs hs) :
    Calls Tryd.prog 37 #[a, b] w fun e w' => e = .returned (.bool true) ∧ Fr [] w w' :=
  (same6_any w a b xs xs gs hs h1 g1 h2 g2).mono fun e w' h => by rw [decide_eq_true rfl] at h; exact h
theorem newAt (w : World) : New w (.slice (some ⟨w.heap.size, 0, none⟩) 0 0) := by intro b hb; simp [Value.blk] at hb; omega

set_option maxRecDepth 100000 in
set_option maxHeartbeats 6400000 in
theorem tbinBack_any {w : World} (hg : Gl [] w) (gv : Value) (ts : List SubT) (gs : List Value) (h : Sl [] w 6 gv ts.length gs) (hs : SubsR [] w ts gs) (v : ValT) (hv : v.heap.ok) (bv : Value) (bh : List UInt8) (hb : Sl [] w 1 bv bh.length (bh.map B)) :
    Calls Tryd.prog 6 #[gv, valV v, bv] w fun e w' => e = .returned (.bool true) ∧ Fr [] w w' := by
  obtain ⟨a, cap, rfl⟩ := h.shape
  obtain ⟨ba, bcap, rfl⟩ := hb.shape
  have hmax := h.2.2
  have hnn : ts.length ≤ 9223372036854775807 := by
    obtain ⟨_, _, e, h1, h2, _⟩ := hmax
    unfold maxLen at h2
    omega
  have hnb : bh.length ≤ 9223372036854775807 := by
    obtain ⟨_, _, _, _, e, h1, h2, _⟩ := hb
    unfold maxLen at h2
    omega
  clear hmax
  obtain ⟨k, nl, hp⟩ := v
  unfold valV
  dsimp only at hv ⊢
  have hgX := hg.alloc (.cells #[.int .i64 k, .bool nl, .int .i64 hp.kind, .int .i64 hp.n] 44)
  have fX := (Fr.refl [] w).alloc (.cells #[.int .i64 k, .bool nl, .int .i64 hp.kind, .int .i64 hp.n] 44)
  have hhX := h.fr fX (by simp)
  have hsX := SubsR.fr fX (by simp) hs
  have hbX := hb.fr fX (by simp)
  have hL : Loc (w.alloc (.cells #[.int .i64 k, .bool nl, .int .i64 hp.kind, .int .i64 hp.n] 44)) w.heap.size [.int .i64 k, .bool nl, .int .i64 hp.kind, .int .i64 hp.n] 44 := Loc.new _ _ _
  clear hg h hs hb
  by_cases h30 : ts.length ≤ 30
  · have g30 : ¬ (30 : Int) < (ts.length : Int) := by omega
    by_cases h600 : bh.length ≤ 600
    · have g600 : ¬ (600 : Int) < (bh.length : Int) := by omega
      go_enter Tryd.func6, Tryd.ntmps6
      go_wp2_with (go_at_call 25; refine (known6 hgX).mono ?_; rintro e w1 ⟨rfl, hF1⟩)
      go_loopw [7] (fun n wr => ∃ (i : Nat), n = .int .i64 i ∧ i ≤ ts.length ∧ wr = w1 ∧ Hid (∀ t, t ∈ ts.take i → t.small)) (fun n _ => ts.length - (intOf n).toNat)
      case atStart => exact ⟨0, rfl, by omega, rfl, fun t ht => by simp at ht⟩
      case round =>
        obtain ⟨i, rfl, hi, rfl, hall⟩ := hrel
        by_cases hlt : i < ts.length
        · obtain ⟨t, ht⟩ : ∃ t, ts[i]? = some t := ⟨ts[i], by simp [hlt]⟩
          obtain ⟨b, off, cap2, hv, pv, rv, fv, hve, hb, hnS, hsr, hc⟩ := Sl.sub_elem hhX hsX i t ht
          injection hve with hv1 hv2 hv3
          subst hv1 hv3
          have e1 := (hF1.cell hb hnS _).trans (hc 1 (by decide))
          have e3 := (hF1.cell hb hnS _).trans (hc 3 (by decide))
          have e4 := (hF1.cell hb hnS _).trans (hc 4 (by decide))
          have e5 := (hF1.cell hb hnS _).trans (hc 5 (by decide))
          simp only [← Nat.add_assoc, subC, List.getElem?_cons_zero, List.getElem?_cons_succ] at e1 e3 e4 e5
          obtain ⟨ha, hc, rfl⟩ := hsr.1.shape
          obtain ⟨pa, pc, rfl⟩ := hsr.2.1.shape
          obtain ⟨ra, rc, rfl⟩ := hsr.2.2.1.shape
          obtain ⟨fa, fc, rfl⟩ := hsr.2.2.2.shape
          have hlti : (i : Int) < (ts.length : Int) := by omega
          go_wp2
          all_goals first
            | (go_ret; exact ⟨rfl, Fr.trans (by repeat (first | (with_reducible exact Fr.refl _ _) | (with_reducible assumption) | (with_reducible apply Fr.alloc) | (with_reducible apply Fr.drew) | (with_reducible apply Fr.drewN) | (with_reducible refine Fr.setCell ?_ (by first | (left; simp; done) | (right; simp; done) | (right; simp; omega)) _))) hF1⟩)
            | (go_roundw
               case rel =>
                 refine ⟨i + 1, by go_num, by omega, trivial, Lib.hid fun u hu => ?_⟩
                 rw [take_one ts i t ht] at hu
                 rcases List.mem_append.1 hu with hu | hu
                 · exact hall.out u hu
                 · rw [List.mem_singleton.1 hu]
                   unfold SubT.small
                   omega
               case measure => simp [intOf]; omega)
        · have hk : i = ts.length := by omega
          subst hk
          have hsm : ∀ t, t ∈ ts → t.small := by simpa using hall.out
          have hl : ∀ t, t ∈ ts → t.len ≤ 65536 := fun t ht => by
            have := hsm t ht
            unfold SubT.small at this
            unfold SubT.len
            omega
          have hS4 : ∀ t, t ∈ ts → SmallSub t := fun t ht => by
            have := hsm t ht
            unfold SubT.small at this
            exact ⟨by omega, by omega, by omega, by omega⟩
          have HS4 := Lib.hid hS4
          have HL := Lib.hid hl
          clear hsm hall hS4 hl
          have hg1 := hgX.fr hF1 (by simp)
          have hh1 := hhX.fr hF1 (by simp)
          have hs1 := SubsR.fr hF1 (by simp) hsX
          have hlt2 : ¬ (ts.length : Int) < (ts.length : Int) := by omega
          have hpl := pRec_len ts (by omega) HL.out
          by_cases pa : 0 < (pRec ts).length
          · skip
            have pai : (0 : Int) < (((pRec ts).length : Nat) : Int) := by omega
            have hrb := rRec_behind ts (by omega) HS4.out pa bh
            have Hrb := Lib.hid hrb
            clear hrb
            have hlA : (pRec ts ++ bh).length ≤ 1099511627776 := by (rw [List.length_append]; omega)
            have ha1 : 0 + (pRec ts).length ≤ 140737488355328 := by omega
            have ha2 : ([] ++ pRec ts).length + bh.length ≤ 140737488355328 := by (simp; omega)
            go_wp2_with first | (go_at_call 26; refine (PutRec_any hg1 _ ts gs hh1 hs1 HL.out (by omega)).mono ?_; rintro e w2 ⟨v2, rfl, ho2, hN2, hF2⟩; obtain ⟨va, vc, rfl, hvc1, hvc2⟩ := Own.shape ho2; have f2 := hF1.trans hF2; have hL2 := hL.fr f2 (by simp); have hLC2 := hL2.cell; have hLF2 := hL2.frz; have hLT2 := hL2.lt; have hO : Out (w2.alloc (.cells #[] 5)) (.slice (some ⟨w2.heap.size, 0, none⟩) 0 0) [] := Own.made (S := []) 5 1 0 [] (by simp) rfl (by simp) (by decide); have hsr2 := ((Own.sl ho2 (S' := []) (by simp)).fr ((Fr.refl [] w2).alloc (.cells #[] 5)) (by simp)).src und_bytes; have hn3 : New w2 (.slice (some ⟨w2.heap.size, 0, none⟩) 0 0) := newAt _) | (at_builtin; refine app_u8 rfl (.tmp 79) (.tmp 80) _ rfl _ _ _ rfl hO _ _ _ rfl hsr2 ha1 ?_; intro v3 w3 hown3 hf3 hb3; have ho3 := Out.app hown3; have f3 := (f2.alloc _).app hf3 (hn3.mono f2.size); have hb3s := (hbX.fr f3 (by simp)).src und_bytes; have hn4 := (hn3.mono f2.size).app hb3 (Nat.le_trans f2.size (by simp))) | (at_builtin; refine app_u8 rfl (.tmp 81) (.tmp 82) _ rfl _ _ _ rfl ho3 _ _ _ rfl hb3s ha2 ?_; intro v4 w4 hown4 hf4 hb4; have ho4 := Out.app hown4; have f4 := f3.app hf4 hn4; have hg4 := hgX.fr f4 (by simp); have hsl4 : Sl [] w4 1 v4 (pRec ts ++ bh).length ((pRec ts ++ bh).map B) := (Own.sl ho4 (S' := []) (by simp))) | (go_at_call 27; refine (open_any hsl4 hg4 hlA).mono ?_; rintro e w5 ⟨rb5, u5, rfl, hR5, hN5, hF5⟩; have f5 := f4.trans hF5; have c6 := rd_rec hR5; rw [Hrb.out] at c6; simp only at c6) | (go_at_call 21; refine c6.mono ?_; rintro e w6 ⟨v6, cs6, rfl, hS6, hB6, hR6, hF6⟩; obtain ⟨a6, p6, rfl⟩ := hS6.shape; have f6 := f5.then hF6 (new1 (Nat.le_trans f4.size hN5))) | (go_at_call 24; refine (rd_err hR6).mono ?_; rintro e w' ⟨rfl, nq, rfl⟩; have f6d := f6.drewN nq; have hSd := (hS6.sub (S' := []) (by simp)).fr ((Fr.refl [] w6).drewN nq) (by simp); have hBd := SubsR.fr ((Fr.refl [] w6).drewN nq) (by simp) (SubsR.sub (S' := []) (by simp) hB6); have hhd := hhX.fr f6d (by simp); have hsd := SubsR.fr f6d (by simp) hsX) | (go_at_call 37; refine (same6_refl _ _ _ ts _ _ hSd hBd hhd hsd).mono ?_; rintro e w7 ⟨rfl, hF7⟩; have hR7 := ((hR6.drewN nq).fr hF7 (by simp) (by simp)); have f7 := f6d.trans hF7; have hL7 := hL.fr f7 (by simp); have hLC7 := hL7.cell; have hLF7 := hL7.frz; have hLT7 := hL7.lt) | (go_at_call 22; refine (rd_at hR7).mono ?_; rintro e w' ⟨rfl, rfl⟩) | fail
            have FW := f7
            clear hg1 hh1 hs1 pai hlA ha1 ha2 hpl pa hF1 HL HS4 Hrb
            by_cases pb : plainVal ⟨k, nl, hp⟩ = true
            · skip
              have cv := PutVal_any (hgX.fr FW (by simp)) ⟨k, nl, hp⟩ hv
              rw [if_pos pb] at cv
              have hpos := pVal_pos _ pb
              have pbi : (0 : Int) < (((pVal ⟨k, nl, hp⟩).length : Nat) : Int) := by omega
              have hvl := pVal_len ⟨k, nl, hp⟩ hv
              have hrv := rVal_behind ⟨k, nl, hp⟩ pb bh
              have Hrv := Lib.hid hrv
              clear hrv pb
              have hlB : (pVal ⟨k, nl, hp⟩ ++ bh).length ≤ 1099511627776 := by (rw [List.length_append]; omega)
              have ha1 : 0 + (pVal ⟨k, nl, hp⟩).length ≤ 140737488355328 := by omega
              have ha2 : ([] ++ pVal ⟨k, nl, hp⟩).length + bh.length ≤ 140737488355328 := by (simp; omega)
              go_wp2_with first | (go_at_call 34; refine cv.mono ?_; rintro e w8 ⟨v8, rfl, ho8, hN8, hF8⟩; obtain ⟨a8, p8, rfl, hp81, hp82⟩ := Own.shape ho8; have f8 := FW.trans hF8; have hL8 := hL.fr f8 (by simp); have hLC8 := hL8.cell; have hLF8 := hL8.frz; have hLT8 := hL8.lt; have hO : Out (w8.alloc (.cells #[] 5)) (.slice (some ⟨w8.heap.size, 0, none⟩) 0 0) [] := Own.made (S := []) 5 1 0 [] (by simp) rfl (by simp) (by decide); have hsr8 := ((Own.sl ho8 (S' := []) (by simp)).fr ((Fr.refl [] w8).alloc (.cells #[] 5)) (by simp)).src und_bytes; have hn9 : New w8 (.slice (some ⟨w8.heap.size, 0, none⟩) 0 0) := newAt _) | (at_builtin; refine app_u8 rfl (.tmp 112) (.tmp 113) _ rfl _ _ _ rfl hO _ _ _ rfl hsr8 ha1 ?_; intro v9 w9 hown9 hf9 hb9; have ho9 := Out.app hown9; have f9 := (f8.alloc _).app hf9 (hn9.mono f8.size); have hb9s := (hbX.fr f9 (by simp)).src und_bytes; have hn10 := (hn9.mono f8.size).app hb9 (Nat.le_trans f8.size (by simp))) | (at_builtin; refine app_u8 rfl (.tmp 114) (.tmp 115) _ rfl _ _ _ rfl ho9 _ _ _ rfl hb9s ha2 ?_; intro v10 w10 hown10 hf10 hb10; have ho10 := Out.app hown10; have f10 := f9.app hf10 hn10; have hg10 := hgX.fr f10 (by simp); have hsl10 : Sl [] w10 1 v10 (pVal ⟨k, nl, hp⟩ ++ bh).length ((pVal ⟨k, nl, hp⟩ ++ bh).map B) := (Own.sl ho10 (S' := []) (by simp))) | (go_at_call 27; (with_reducible refine (open_any hsl10 hg10 hlB).mono ?_); rintro e w11 ⟨rb11, u11, rfl, hR11, hN11, hF11⟩; have f11 := f10.trans hF11; have c12 := rd_val hR11; rw [Hrv.out] at c12; simp only at c12) | (go_at_call 19; refine c12.mono ?_; rintro e w12 ⟨rfl, hR12, hF12⟩; have f12 := f11.then hF12 (new1 (Nat.le_trans f10.size hN11)); have hL12 := hL.fr f12 (by simp); have hLC12 := hL12.cell; have hLF12 := hL12.frz; have hLT12 := hL12.lt; have hR12a := hR12.alloc) | (go_at_call 24; refine (rd_err (hR12a _)).mono ?_; rintro e w' ⟨rfl, nq2, rfl⟩; have hR12d := fun o => (hR12a o).drewN nq2) | (go_at_call 22; refine (rd_at (hR12d _)).mono ?_; rintro e w' ⟨rfl, rfl⟩) | fail
              have FC := (f12.alloc (.cells #[.int .i64 k, .bool nl, .int .i64 hp.kind, .int .i64 hp.n] 44)).drewN nq2
              have hgC := hgX.fr FC (by simp)
              have hbC := hbX.fr FC (by simp)
              have hlC : bh.length ≤ 1099511627776 := by omega
              have hlaw := rRec_back_law bh h600
              have herz := rRec_errz bh rOpen
              generalize hQ : rRec bh rOpen = q at hlaw herz
              obtain ⟨x, qs⟩ := q
              simp only at hlaw herz
              have HQ := Lib.hid hQ
              clear hQ
              by_cases q0 : qs.err = 0
              · obtain ⟨m1, m2, m3, m4⟩ := hlaw q0
                have Hq0 := Lib.hid q0
                have hlx : ∀ t, t ∈ x → t.len ≤ 65536 := fun t ht => by
                  obtain ⟨e1, e2, e3, e4⟩ := m1 t ht
                  unfold SubT.len
                  omega
                have HLx := Lib.hid hlx
                have hnx : x.length ≤ 65536 := by omega
                clear hlaw herz q0 hlx m1
                by_cases hx : x = []
                · subst hx
                  clear m3 m4 m2
                  go_wp2_with first | (go_at_call 27; (with_reducible refine (open_any hbC hgC hlC).mono ?_); rintro e w13 ⟨rb13, u13, rfl, hR13, hN13, hF13⟩; have f13 := FC.trans hF13; have c14 := rd_rec hR13; rw [HQ.out] at c14; simp only at c14) | (go_at_call 21; (with_reducible refine c14.mono ?_); rintro e w14 ⟨v14, cs14, rfl, hS14, hB14, hR14, hF14⟩; obtain ⟨a14, p14, rfl⟩ := hS14.shape; have f14 := f13.then hF14 (new1 (Nat.le_trans FC.size hN13))) | (go_at_call 24; refine (rd_err hR14).mono ?_; rintro e w' ⟨rfl, nq3, rfl⟩; rw [Hq0.out]; have f14d := f14.drewN nq3; have gd := hgX.fr f14d (by simp); have sd := (hS14.sub (S' := []) (by simp)).fr ((Fr.refl [] w14).drewN nq3) (by simp); have bd := SubsR.fr ((Fr.refl [] w14).drewN nq3) (by simp) (SubsR.sub (S' := []) (by simp) hB14)) | (go_at_call 26; refine (PutRec_any gd _ [] cs14 sd bd HLx.out hnx).mono ?_; rintro e w15 ⟨v15, rfl, ho15, hN15, hF15⟩; obtain ⟨a15, p15, rfl, hp151, hp152⟩ := Own.shape ho15; have f15 := f14d.trans hF15)
                  go_ret
                  exact ⟨rfl, Fr.trans (by repeat (first | (with_reducible exact Fr.refl _ _) | (with_reducible assumption) | (with_reducible apply Fr.alloc) | (with_reducible apply Fr.drew) | (with_reducible apply Fr.drewN) | (with_reducible refine Fr.setCell ?_ (by first | (left; simp; done) | (right; simp; done) | (right; simp; omega)) _))) f15⟩
                · obtain ⟨r1, r2, r3⟩ := m4 hx
                  have Hre := Lib.hid r3
                  have hxl : 0 < x.length := List.length_pos_iff.2 hx
                  have gx : (((x.length : Nat) : Int) == 0) = false := by simp; omega
                  have r1i : (0 : Int) < (((pRec x).length : Nat) : Int) := by omega
                  have r2i : (((pRec x).length : Nat) : Int) ≤ ((qs.at_ : Nat) : Int) := by omega
                  have hlx : (pRec x).length ≤ 1099511627776 := by
                    have := pRec_len600 x m2 HLx.out
                    omega
                  clear m3 m4 r3 hx
                  go_wp2_with first | (go_at_call 27; (with_reducible refine (open_any hbC hgC hlC).mono ?_); rintro e w13 ⟨rb13, u13, rfl, hR13, hN13, hF13⟩; have f13 := FC.trans hF13; have c14 := rd_rec hR13; rw [HQ.out] at c14; simp only at c14) | (go_at_call 21; (with_reducible refine c14.mono ?_); rintro e w14 ⟨v14, cs14, rfl, hS14, hB14, hR14, hF14⟩; obtain ⟨a14, p14, rfl⟩ := hS14.shape; have f14 := f13.then hF14 (new1 (Nat.le_trans FC.size hN13))) | (go_at_call 24; refine (rd_err hR14).mono ?_; rintro e w' ⟨rfl, nq3, rfl⟩; rw [Hq0.out]; have f14d := f14.drewN nq3; have gd := hgX.fr f14d (by simp); have sd := (hS14.sub (S' := []) (by simp)).fr ((Fr.refl [] w14).drewN nq3) (by simp); have bd := SubsR.fr ((Fr.refl [] w14).drewN nq3) (by simp) (SubsR.sub (S' := []) (by simp) hB14)) | (go_at_call 26; refine (PutRec_any gd _ x cs14 sd bd HLx.out hnx).mono ?_; rintro e w15 ⟨v15, rfl, ho15, hN15, hF15⟩; obtain ⟨a15, p15, rfl, hp151, hp152⟩ := Own.shape ho15; have f15 := f14d.trans hF15; have hR15 := (hR14.drewN nq3).fr hF15 (by simp) (by simp); have hg15 := hgX.fr f15 (by simp); have hsl15 := (Own.sl ho15 (S' := []) (by simp)); have sd15 := sd.fr hF15 (by simp); have bd15 := SubsR.fr hF15 (by simp) bd) | (go_at_call 22; refine (rd_at hR15).mono ?_; rintro e w' ⟨rfl, rfl⟩) | (go_at_call 27; (with_reducible refine (open_any hsl15 hg15 hlx).mono ?_); rintro e w16 ⟨rb16, u16, rfl, hR16, hN16, hF16⟩; have f16 := f15.trans hF16; have c17 := rd_rec hR16; rw [Hre.out] at c17; simp only at c17) | (go_at_call 21; (with_reducible refine c17.mono ?_); rintro e w17 ⟨v17, cs17, rfl, hS17, hB17, hR17, hF17⟩; obtain ⟨a17, p17, rfl⟩ := hS17.shape; have f17 := f16.then hF17 (new1 (Nat.le_trans f15.size hN16)); have t17 := hF16.then hF17 (new1 hN16); have sd17 := sd15.fr t17 (by simp); have bd17 := SubsR.fr t17 (by simp) bd15; have sx17 := hS17.sub (S' := []) (by simp); have bx17 := SubsR.sub (S' := []) (by simp) hB17) | (go_at_call 37; refine (same6_refl _ _ _ x _ _ sx17 bx17 sd17 bd17).mono ?_; rintro e w18 ⟨rfl, hF18⟩; have f18 := f17.trans hF18)
                  go_ret
                  exact ⟨rfl, Fr.trans (by repeat (first | (with_reducible exact Fr.refl _ _) | (with_reducible assumption) | (with_reducible apply Fr.alloc) | (with_reducible apply Fr.drew) | (with_reducible apply Fr.drewN) | (with_reducible refine Fr.setCell ?_ (by first | (left; simp; done) | (right; simp; done) | (right; simp; omega)) _))) f18⟩
              · have hx := herz q0
                subst hx
                have Hq0 := Lib.hid q0
                clear hlaw herz q0
                go_wp2_with first | (go_at_call 27; (with_reducible refine (open_any hbC hgC hlC).mono ?_); rintro e w13 ⟨rb13, u13, rfl, hR13, hN13, hF13⟩; have f13 := FC.trans hF13; have c14 := rd_rec hR13; rw [HQ.out] at c14; simp only at c14) | (go_at_call 21; (with_reducible refine c14.mono ?_); rintro e w14 ⟨v14, cs14, rfl, hS14, hB14, hR14, hF14⟩; obtain ⟨a14, p14, rfl⟩ := hS14.shape; have f14 := f13.then hF14 (new1 (Nat.le_trans FC.size hN13))) | (go_at_call 24; refine (rd_err hR14).mono ?_; rintro e w' ⟨rfl, nq3, rfl⟩; have g0 : (qs.err != 0) = true := bne_true_of_ne Hq0.out; have f14d := f14.drewN nq3)
                go_ret
                exact ⟨rfl, Fr.trans (by repeat (first | (with_reducible exact Fr.refl _ _) | (with_reducible assumption) | (with_reducible apply Fr.alloc) | (with_reducible apply Fr.drew) | (with_reducible apply Fr.drewN) | (with_reducible refine Fr.setCell ?_ (by first | (left; simp; done) | (right; simp; done) | (right; simp; omega)) _))) f14d⟩
            · skip
              have cv := PutVal_any (hgX.fr FW (by simp)) ⟨k, nl, hp⟩ hv
              rw [if_neg pb] at cv
              go_wp2_with first | (go_at_call 34; refine cv.mono ?_; rintro e w8 ⟨v8, rfl, ho8, hN8, hF8⟩; obtain ⟨a8, p8, rfl, hp81, hp82⟩ := Own.shape ho8; have f8 := FW.trans hF8; have hL8 := hL.fr f8 (by simp); have hLC8 := hL8.cell; have hLF8 := hL8.frz; have hLT8 := hL8.lt) | fail
              have FC := f8
              have hgC := hgX.fr FC (by simp)
              have hbC := hbX.fr FC (by simp)
              have hlC : bh.length ≤ 1099511627776 := by omega
              have hlaw := rRec_back_law bh h600
              have herz := rRec_errz bh rOpen
              generalize hQ : rRec bh rOpen = q at hlaw herz
              obtain ⟨x, qs⟩ := q
              simp only at hlaw herz
              have HQ := Lib.hid hQ
              clear hQ
              by_cases q0 : qs.err = 0
              · obtain ⟨m1, m2, m3, m4⟩ := hlaw q0
                have Hq0 := Lib.hid q0
                have hlx : ∀ t, t ∈ x → t.len ≤ 65536 := fun t ht => by
                  obtain ⟨e1, e2, e3, e4⟩ := m1 t ht
                  unfold SubT.len
                  omega
                have HLx := Lib.hid hlx
                have hnx : x.length ≤ 65536 := by omega
                clear hlaw herz q0 hlx m1
                by_cases hx : x = []
                · subst hx
                  clear m3 m4 m2
                  go_wp2_with first | (go_at_call 27; (with_reducible refine (open_any hbC hgC hlC).mono ?_); rintro e w13 ⟨rb13, u13, rfl, hR13, hN13, hF13⟩; have f13 := FC.trans hF13; have c14 := rd_rec hR13; rw [HQ.out] at c14; simp only at c14) | (go_at_call 21; (with_reducible refine c14.mono ?_); rintro e w14 ⟨v14, cs14, rfl, hS14, hB14, hR14, hF14⟩; obtain ⟨a14, p14, rfl⟩ := hS14.shape; have f14 := f13.then hF14 (new1 (Nat.le_trans FC.size hN13))) | (go_at_call 24; refine (rd_err hR14).mono ?_; rintro e w' ⟨rfl, nq3, rfl⟩; rw [Hq0.out]; have f14d := f14.drewN nq3; have gd := hgX.fr f14d (by simp); have sd := (hS14.sub (S' := []) (by simp)).fr ((Fr.refl [] w14).drewN nq3) (by simp); have bd := SubsR.fr ((Fr.refl [] w14).drewN nq3) (by simp) (SubsR.sub (S' := []) (by simp) hB14)) | (go_at_call 26; refine (PutRec_any gd _ [] cs14 sd bd HLx.out hnx).mono ?_; rintro e w15 ⟨v15, rfl, ho15, hN15, hF15⟩; obtain ⟨a15, p15, rfl, hp151, hp152⟩ := Own.shape ho15; have f15 := f14d.trans hF15)
                  go_ret
                  exact ⟨rfl, Fr.trans (by repeat (first | (with_reducible exact Fr.refl _ _) | (with_reducible assumption) | (with_reducible apply Fr.alloc) | (with_reducible apply Fr.drew) | (with_reducible apply Fr.drewN) | (with_reducible refine Fr.setCell ?_ (by first | (left; simp; done) | (right; simp; done) | (right; simp; omega)) _))) f15⟩
                · obtain ⟨r1, r2, r3⟩ := m4 hx
                  have Hre := Lib.hid r3
                  have hxl : 0 < x.length := List.length_pos_iff.2 hx
                  have gx : (((x.length : Nat) : Int) == 0) = false := by simp; omega
                  have r1i : (0 : Int) < (((pRec x).length : Nat) : Int) := by omega
                  have r2i : (((pRec x).length : Nat) : Int) ≤ ((qs.at_ : Nat) : Int) := by omega
                  have hlx : (pRec x).length ≤ 1099511627776 := by
                    have := pRec_len600 x m2 HLx.out
                    omega
                  clear m3 m4 r3 hx
                  go_wp2_with first | (go_at_call 27; (with_reducible refine (open_any hbC hgC hlC).mono ?_); rintro e w13 ⟨rb13, u13, rfl, hR13, hN13, hF13⟩; have f13 := FC.trans hF13; have c14 := rd_rec hR13; rw [HQ.out] at c14; simp only at c14) | (go_at_call 21; (with_reducible refine c14.mono ?_); rintro e w14 ⟨v14, cs14, rfl, hS14, hB14, hR14, hF14⟩; obtain ⟨a14, p14, rfl⟩ := hS14.shape; have f14 := f13.then hF14 (new1 (Nat.le_trans FC.size hN13))) | (go_at_call 24; refine (rd_err hR14).mono ?_; rintro e w' ⟨rfl, nq3, rfl⟩; rw [Hq0.out]; have f14d := f14.drewN nq3; have gd := hgX.fr f14d (by simp); have sd := (hS14.sub (S' := []) (by simp)).fr ((Fr.refl [] w14).drewN nq3) (by simp); have bd := SubsR.fr ((Fr.refl [] w14).drewN nq3) (by simp) (SubsR.sub (S' := []) (by simp) hB14)) | (go_at_call 26; refine (PutRec_any gd _ x cs14 sd bd HLx.out hnx).mono ?_; rintro e w15 ⟨v15, rfl, ho15, hN15, hF15⟩; obtain ⟨a15, p15, rfl, hp151, hp152⟩ := Own.shape ho15; have f15 := f14d.trans hF15; have hR15 := (hR14.drewN nq3).fr hF15 (by simp) (by simp); have hg15 := hgX.fr f15 (by simp); have hsl15 := (Own.sl ho15 (S' := []) (by simp)); have sd15 := sd.fr hF15 (by simp); have bd15 := SubsR.fr hF15 (by simp) bd) | (go_at_call 22; refine (rd_at hR15).mono ?_; rintro e w' ⟨rfl, rfl⟩) | (go_at_call 27; (with_reducible refine (open_any hsl15 hg15 hlx).mono ?_); rintro e w16 ⟨rb16, u16, rfl, hR16, hN16, hF16⟩; have f16 := f15.trans hF16; have c17 := rd_rec hR16; rw [Hre.out] at c17; simp only at c17) | (go_at_call 21; (with_reducible refine c17.mono ?_); rintro e w17 ⟨v17, cs17, rfl, hS17, hB17, hR17, hF17⟩; obtain ⟨a17, p17, rfl⟩ := hS17.shape; have f17 := f16.then hF17 (new1 (Nat.le_trans f15.size hN16)); have t17 := hF16.then hF17 (new1 hN16); have sd17 := sd15.fr t17 (by simp); have bd17 := SubsR.fr t17 (by simp) bd15; have sx17 := hS17.sub (S' := []) (by simp); have bx17 := SubsR.sub (S' := []) (by simp) hB17) | (go_at_call 37; refine (same6_refl _ _ _ x _ _ sx17 bx17 sd17 bd17).mono ?_; rintro e w18 ⟨rfl, hF18⟩; have f18 := f17.trans hF18)
                  go_ret
                  exact ⟨rfl, Fr.trans (by repeat (first | (with_reducible exact Fr.refl _ _) | (with_reducible assumption) | (with_reducible apply Fr.alloc) | (with_reducible apply Fr.drew) | (with_reducible apply Fr.drewN) | (with_reducible refine Fr.setCell ?_ (by first | (left; simp; done) | (right; simp; done) | (right; simp; omega)) _))) f18⟩
              · have hx := herz q0
                subst hx
                have Hq0 := Lib.hid q0
                clear hlaw herz q0
                go_wp2_with first | (go_at_call 27; (with_reducible refine (open_any hbC hgC hlC).mono ?_); rintro e w13 ⟨rb13, u13, rfl, hR13, hN13, hF13⟩; have f13 := FC.trans hF13; have c14 := rd_rec hR13; rw [HQ.out] at c14; simp only at c14) | (go_at_call 21; (with_reducible refine c14.mono ?_); rintro e w14 ⟨v14, cs14, rfl, hS14, hB14, hR14, hF14⟩; obtain ⟨a14, p14, rfl⟩ := hS14.shape; have f14 := f13.then hF14 (new1 (Nat.le_trans FC.size hN13))) | (go_at_call 24; refine (rd_err hR14).mono ?_; rintro e w' ⟨rfl, nq3, rfl⟩; have g0 : (qs.err != 0) = true := bne_true_of_ne Hq0.out; have f14d := f14.drewN nq3)
                go_ret
                exact ⟨rfl, Fr.trans (by repeat (first | (with_reducible exact Fr.refl _ _) | (with_reducible assumption) | (with_reducible apply Fr.alloc) | (with_reducible apply Fr.drew) | (with_reducible apply Fr.drewN) | (with_reducible refine Fr.setCell ?_ (by first | (left; simp; done) | (right; simp; done) | (right; simp; omega)) _))) f14d⟩
          · skip
            have pai : ¬ (0 : Int) < (((pRec ts).length : Nat) : Int) := by omega
            go_wp2_with first | (go_at_call 26; refine (PutRec_any hg1 _ ts gs hh1 hs1 HL.out (by omega)).mono ?_; rintro e w2 ⟨v2, rfl, ho2, hN2, hF2⟩; obtain ⟨va, vc, rfl, hvc1, hvc2⟩ := Own.shape ho2; have f2 := hF1.trans hF2; have hL2 := hL.fr f2 (by simp); have hLC2 := hL2.cell; have hLF2 := hL2.frz; have hLT2 := hL2.lt) | fail
            have FW := f2
            clear hg1 hh1 hs1 pai hpl pa hF1 HL HS4
            by_cases pb : plainVal ⟨k, nl, hp⟩ = true
            · skip
              have cv := PutVal_any (hgX.fr FW (by simp)) ⟨k, nl, hp⟩ hv
              rw [if_pos pb] at cv
              have hpos := pVal_pos _ pb
              have pbi : (0 : Int) < (((pVal ⟨k, nl, hp⟩).length : Nat) : Int) := by omega
              have hvl := pVal_len ⟨k, nl, hp⟩ hv
              have hrv := rVal_behind ⟨k, nl, hp⟩ pb bh
              have Hrv := Lib.hid hrv
              clear hrv pb
              have hlB : (pVal ⟨k, nl, hp⟩ ++ bh).length ≤ 1099511627776 := by (rw [List.length_append]; omega)
              have ha1 : 0 + (pVal ⟨k, nl, hp⟩).length ≤ 140737488355328 := by omega
              have ha2 : ([] ++ pVal ⟨k, nl, hp⟩).length + bh.length ≤ 140737488355328 := by (simp; omega)
              go_wp2_with first | (go_at_call 34; refine cv.mono ?_; rintro e w8 ⟨v8, rfl, ho8, hN8, hF8⟩; obtain ⟨a8, p8, rfl, hp81, hp82⟩ := Own.shape ho8; have f8 := FW.trans hF8; have hL8 := hL.fr f8 (by simp); have hLC8 := hL8.cell; have hLF8 := hL8.frz; have hLT8 := hL8.lt; have hO : Out (w8.alloc (.cells #[] 5)) (.slice (some ⟨w8.heap.size, 0, none⟩) 0 0) [] := Own.made (S := []) 5 1 0 [] (by simp) rfl (by simp) (by decide); have hsr8 := ((Own.sl ho8 (S' := []) (by simp)).fr ((Fr.refl [] w8).alloc (.cells #[] 5)) (by simp)).src und_bytes; have hn9 : New w8 (.slice (some ⟨w8.heap.size, 0, none⟩) 0 0) := newAt _) | (at_builtin; refine app_u8 rfl (.tmp 112) (.tmp 113) _ rfl _ _ _ rfl hO _ _ _ rfl hsr8 ha1 ?_; intro v9 w9 hown9 hf9 hb9; have ho9 := Out.app hown9; have f9 := (f8.alloc _).app hf9 (hn9.mono f8.size); have hb9s := (hbX.fr f9 (by simp)).src und_bytes; have hn10 := (hn9.mono f8.size).app hb9 (Nat.le_trans f8.size (by simp))) | (at_builtin; refine app_u8 rfl (.tmp 114) (.tmp 115) _ rfl _ _ _ rfl ho9 _ _ _ rfl hb9s ha2 ?_; intro v10 w10 hown10 hf10 hb10; have ho10 := Out.app hown10; have f10 := f9.app hf10 hn10; have hg10 := hgX.fr f10 (by simp); have hsl10 : Sl [] w10 1 v10 (pVal ⟨k, nl, hp⟩ ++ bh).length ((pVal ⟨k, nl, hp⟩ ++ bh).map B) := (Own.sl ho10 (S' := []) (by simp))) | (go_at_call 27; (with_reducible refine (open_any hsl10 hg10 hlB).mono ?_); rintro e w11 ⟨rb11, u11, rfl, hR11, hN11, hF11⟩; have f11 := f10.trans hF11; have c12 := rd_val hR11; rw [Hrv.out] at c12; simp only at c12) | (go_at_call 19; refine c12.mono ?_; rintro e w12 ⟨rfl, hR12, hF12⟩; have f12 := f11.then hF12 (new1 (Nat.le_trans f10.size hN11)); have hL12 := hL.fr f12 (by simp); have hLC12 := hL12.cell; have hLF12 := hL12.frz; have hLT12 := hL12.lt; have hR12a := hR12.alloc) | (go_at_call 24; refine (rd_err (hR12a _)).mono ?_; rintro e w' ⟨rfl, nq2, rfl⟩; have hR12d := fun o => (hR12a o).drewN nq2) | (go_at_call 22; refine (rd_at (hR12d _)).mono ?_; rintro e w' ⟨rfl, rfl⟩) | fail
              have FC := (f12.alloc (.cells #[.int .i64 k, .bool nl, .int .i64 hp.kind, .int .i64 hp.n] 44)).drewN nq2
              have hgC := hgX.fr FC (by simp)
              have hbC := hbX.fr FC (by simp)
              have hlC : bh.length ≤ 1099511627776 := by omega
              have hlaw := rRec_back_law bh h600
              have herz := rRec_errz bh rOpen
              generalize hQ : rRec bh rOpen = q at hlaw herz
              obtain ⟨x, qs⟩ := q
              simp only at hlaw herz
              have HQ := Lib.hid hQ
              clear hQ
              by_cases q0 : qs.err = 0
              · obtain ⟨m1, m2, m3, m4⟩ := hlaw q0
                have Hq0 := Lib.hid q0
                have hlx : ∀ t, t ∈ x → t.len ≤ 65536 := fun t ht => by
                  obtain ⟨e1, e2, e3, e4⟩ := m1 t ht
                  unfold SubT.len
                  omega
                have HLx := Lib.hid hlx
                have hnx : x.length ≤ 65536 := by omega
                clear hlaw herz q0 hlx m1
                by_cases hx : x = []
                · subst hx
                  clear m3 m4 m2
                  go_wp2_with first | (go_at_call 27; (with_reducible refine (open_any hbC hgC hlC).mono ?_); rintro e w13 ⟨rb13, u13, rfl, hR13, hN13, hF13⟩; have f13 := FC.trans hF13; have c14 := rd_rec hR13; rw [HQ.out] at c14; simp only at c14) | (go_at_call 21; (with_reducible refine c14.mono ?_); rintro e w14 ⟨v14, cs14, rfl, hS14, hB14, hR14, hF14⟩; obtain ⟨a14, p14, rfl⟩ := hS14.shape; have f14 := f13.then hF14 (new1 (Nat.le_trans FC.size hN13))) | (go_at_call 24; refine (rd_err hR14).mono ?_; rintro e w' ⟨rfl, nq3, rfl⟩; rw [Hq0.out]; have f14d := f14.drewN nq3; have gd := hgX.fr f14d (by simp); have sd := (hS14.sub (S' := []) (by simp)).fr ((Fr.refl [] w14).drewN nq3) (by simp); have bd := SubsR.fr ((Fr.refl [] w14).drewN nq3) (by simp) (SubsR.sub (S' := []) (by simp) hB14)) | (go_at_call 26; refine (PutRec_any gd _ [] cs14 sd bd HLx.out hnx).mono ?_; rintro e w15 ⟨v15, rfl, ho15, hN15, hF15⟩; obtain ⟨a15, p15, rfl, hp151, hp152⟩ := Own.shape ho15; have f15 := f14d.trans hF15)
                  go_ret
                  exact ⟨rfl, Fr.trans (by repeat (first | (with_reducible exact Fr.refl _ _) | (with_reducible assumption) | (with_reducible apply Fr.alloc) | (with_reducible apply Fr.drew) | (with_reducible apply Fr.drewN) | (with_reducible refine Fr.setCell ?_ (by first | (left; simp; done) | (right; simp; done) | (right; simp; omega)) _))) f15⟩
                · obtain ⟨r1, r2, r3⟩ := m4 hx
                  have Hre := Lib.hid r3
                  have hxl : 0 < x.length := List.length_pos_iff.2 hx
                  have gx : (((x.length : Nat) : Int) == 0) = false := by simp; omega
                  have r1i : (0 : Int) < (((pRec x).length : Nat) : Int) := by omega
                  have r2i : (((pRec x).length : Nat) : Int) ≤ ((qs.at_ : Nat) : Int) := by omega
                  have hlx : (pRec x).length ≤ 1099511627776 := by
                    have := pRec_len600 x m2 HLx.out
                    omega
                  clear m3 m4 r3 hx
                  go_wp2_with first | (go_at_call 27; (with_reducible refine (open_any hbC hgC hlC).mono ?_); rintro e w13 ⟨rb13, u13, rfl, hR13, hN13, hF13⟩; have f13 := FC.trans hF13; have c14 := rd_rec hR13; rw [HQ.out] at c14; simp only at c14) | (go_at_call 21; (with_reducible refine c14.mono ?_); rintro e w14 ⟨v14, cs14, rfl, hS14, hB14, hR14, hF14⟩; obtain ⟨a14, p14, rfl⟩ := hS14.shape; have f14 := f13.then hF14 (new1 (Nat.le_trans FC.size hN13))) | (go_at_call 24; refine (rd_err hR14).mono ?_; rintro e w' ⟨rfl, nq3, rfl⟩; rw [Hq0.out]; have f14d := f14.drewN nq3; have gd := hgX.fr f14d (by simp); have sd := (hS14.sub (S' := []) (by simp)).fr ((Fr.refl [] w14).drewN nq3) (by simp); have bd := SubsR.fr ((Fr.refl [] w14).drewN nq3) (by simp) (SubsR.sub (S' := []) (by simp) hB14)) | (go_at_call 26; refine (PutRec_any gd _ x cs14 sd bd HLx.out hnx).mono ?_; rintro e w15 ⟨v15, rfl, ho15, hN15, hF15⟩; obtain ⟨a15, p15, rfl, hp151, hp152⟩ := Own.shape ho15; have f15 := f14d.trans hF15; have hR15 := (hR14.drewN nq3).fr hF15 (by simp) (by simp); have hg15 := hgX.fr f15 (by simp); have hsl15 := (Own.sl ho15 (S' := []) (by simp)); have sd15 := sd.fr hF15 (by simp); have bd15 := SubsR.fr hF15 (by simp) bd) | (go_at_call 22; refine (rd_at hR15).mono ?_; rintro e w' ⟨rfl, rfl⟩) | (go_at_call 27; (with_reducible refine (open_any hsl15 hg15 hlx).mono ?_); rintro e w16 ⟨rb16, u16, rfl, hR16, hN16, hF16⟩; have f16 := f15.trans hF16; have c17 := rd_rec hR16; rw [Hre.out] at c17; simp only at c17) | (go_at_call 21; (with_reducible refine c17.mono ?_); rintro e w17 ⟨v17, cs17, rfl, hS17, hB17, hR17, hF17⟩; obtain ⟨a17, p17, rfl⟩ := hS17.shape; have f17 := f16.then hF17 (new1 (Nat.le_trans f15.size hN16)); have t17 := hF16.then hF17 (new1 hN16); have sd17 := sd15.fr t17 (by simp); have bd17 := SubsR.fr t17 (by simp) bd15; have sx17 := hS17.sub (S' := []) (by simp); have bx17 := SubsR.sub (S' := []) (by simp) hB17) | (go_at_call 37; refine (same6_refl _ _ _ x _ _ sx17 bx17 sd17 bd17).mono ?_; rintro e w18 ⟨rfl, hF18⟩; have f18 := f17.trans hF18)
                  go_ret
                  exact ⟨rfl, Fr.trans (by repeat (first | (with_reducible exact Fr.refl _ _) | (with_reducible assumption) | (with_reducible apply Fr.alloc) | (with_reducible apply Fr.drew) | (with_reducible apply Fr.drewN) | (with_reducible refine Fr.setCell ?_ (by first | (left; simp; done) | (right; simp; done) | (right; simp; omega)) _))) f18⟩
              · have hx := herz q0
                subst hx
                have Hq0 := Lib.hid q0
                clear hlaw herz q0
                go_wp2_with first | (go_at_call 27; (with_reducible refine (open_any hbC hgC hlC).mono ?_); rintro e w13 ⟨rb13, u13, rfl, hR13, hN13, hF13⟩; have f13 := FC.trans hF13; have c14 := rd_rec hR13; rw [HQ.out] at c14; simp only at c14) | (go_at_call 21; (with_reducible refine c14.mono ?_); rintro e w14 ⟨v14, cs14, rfl, hS14, hB14, hR14, hF14⟩; obtain ⟨a14, p14, rfl⟩ := hS14.shape; have f14 := f13.then hF14 (new1 (Nat.le_trans FC.size hN13))) | (go_at_call 24; refine (rd_err hR14).mono ?_; rintro e w' ⟨rfl, nq3, rfl⟩; have g0 : (qs.err != 0) = true := bne_true_of_ne Hq0.out; have f14d := f14.drewN nq3)
                go_ret
                exact ⟨rfl, Fr.trans (by repeat (first | (with_reducible exact Fr.refl _ _) | (with_reducible assumption) | (with_reducible apply Fr.alloc) | (with_reducible apply Fr.drew) | (with_reducible apply Fr.drewN) | (with_reducible refine Fr.setCell ?_ (by first | (left; simp; done) | (right; simp; done) | (right; simp; omega)) _))) f14d⟩
            · skip
              have cv := PutVal_any (hgX.fr FW (by simp)) ⟨k, nl, hp⟩ hv
              rw [if_neg pb] at cv
              go_wp2_with first | (go_at_call 34; refine cv.mono ?_; rintro e w8 ⟨v8, rfl, ho8, hN8, hF8⟩; obtain ⟨a8, p8, rfl, hp81, hp82⟩ := Own.shape ho8; have f8 := FW.trans hF8; have hL8 := hL.fr f8 (by simp); have hLC8 := hL8.cell; have hLF8 := hL8.frz; have hLT8 := hL8.lt) | fail
              have FC := f8
              have hgC := hgX.fr FC (by simp)
              have hbC := hbX.fr FC (by simp)
              have hlC : bh.length ≤ 1099511627776 := by omega
              have hlaw := rRec_back_law bh h600
              have herz := rRec_errz bh rOpen
              generalize hQ : rRec bh rOpen = q at hlaw herz
              obtain ⟨x, qs⟩ := q
              simp only at hlaw herz
              have HQ := Lib.hid hQ
              clear hQ
              by_cases q0 : qs.err = 0
              · obtain ⟨m1, m2, m3, m4⟩ := hlaw q0
                have Hq0 := Lib.hid q0
                have hlx : ∀ t, t ∈ x → t.len ≤ 65536 := fun t ht => by
                  obtain ⟨e1, e2, e3, e4⟩ := m1 t ht
                  unfold SubT.len
                  omega
                have HLx := Lib.hid hlx
                have hnx : x.length ≤ 65536 := by omega
                clear hlaw herz q0 hlx m1
                by_cases hx : x = []
                · subst hx
                  clear m3 m4 m2
                  go_wp2_with first | (go_at_call 27; (with_reducible refine (open_any hbC hgC hlC).mono ?_); rintro e w13 ⟨rb13, u13, rfl, hR13, hN13, hF13⟩; have f13 := FC.trans hF13; have c14 := rd_rec hR13; rw [HQ.out] at c14; simp only at c14) | (go_at_call 21; (with_reducible refine c14.mono ?_); rintro e w14 ⟨v14, cs14, rfl, hS14, hB14, hR14, hF14⟩; obtain ⟨a14, p14, rfl⟩ := hS14.shape; have f14 := f13.then hF14 (new1 (Nat.le_trans FC.size hN13))) | (go_at_call 24; refine (rd_err hR14).mono ?_; rintro e w' ⟨rfl, nq3, rfl⟩; rw [Hq0.out]; have f14d := f14.drewN nq3; have gd := hgX.fr f14d (by simp); have sd := (hS14.sub (S' := []) (by simp)).fr ((Fr.refl [] w14).drewN nq3) (by simp); have bd := SubsR.fr ((Fr.refl [] w14).drewN nq3) (by simp) (SubsR.sub (S' := []) (by simp) hB14)) | (go_at_call 26; refine (PutRec_any gd _ [] cs14 sd bd HLx.out hnx).mono ?_; rintro e w15 ⟨v15, rfl, ho15, hN15, hF15⟩; obtain ⟨a15, p15, rfl, hp151, hp152⟩ := Own.shape ho15; have f15 := f14d.trans hF15)
                  go_ret
                  exact ⟨rfl, Fr.trans (by repeat (first | (with_reducible exact Fr.refl _ _) | (with_reducible assumption) | (with_reducible apply Fr.alloc) | (with_reducible apply Fr.drew) | (with_reducible apply Fr.drewN) | (with_reducible refine Fr.setCell ?_ (by first | (left; simp; done) | (right; simp; done) | (right; simp; omega)) _))) f15⟩
                · obtain ⟨r1, r2, r3⟩ := m4 hx
                  have Hre := Lib.hid r3
                  have hxl : 0 < x.length := List.length_pos_iff.2 hx
                  have gx : (((x.length : Nat) : Int) == 0) = false := by simp; omega
                  have r1i : (0 : Int) < (((pRec x).length : Nat) : Int) := by omega
                  have r2i : (((pRec x).length : Nat) : Int) ≤ ((qs.at_ : Nat) : Int) := by omega
                  have hlx : (pRec x).length ≤ 1099511627776 := by
                    have := pRec_len600 x m2 HLx.out
                    omega
                  clear m3 m4 r3 hx
                  go_wp2_with first | (go_at_call 27; (with_reducible refine (open_any hbC hgC hlC).mono ?_); rintro e w13 ⟨rb13, u13, rfl, hR13, hN13, hF13⟩; have f13 := FC.trans hF13; have c14 := rd_rec hR13; rw [HQ.out] at c14; simp only at c14) | (go_at_call 21; (with_reducible refine c14.mono ?_); rintro e w14 ⟨v14, cs14, rfl, hS14, hB14, hR14, hF14⟩; obtain ⟨a14, p14, rfl⟩ := hS14.shape; have f14 := f13.then hF14 (new1 (Nat.le_trans FC.size hN13))) | (go_at_call 24; refine (rd_err hR14).mono ?_; rintro e w' ⟨rfl, nq3, rfl⟩; rw [Hq0.out]; have f14d := f14.drewN nq3; have gd := hgX.fr f14d (by simp); have sd := (hS14.sub (S' := []) (by simp)).fr ((Fr.refl [] w14).drewN nq3) (by simp); have bd := SubsR.fr ((Fr.refl [] w14).drewN nq3) (by simp) (SubsR.sub (S' := []) (by simp) hB14)) | (go_at_call 26; refine (PutRec_any gd _ x cs14 sd bd HLx.out hnx).mono ?_; rintro e w15 ⟨v15, rfl, ho15, hN15, hF15⟩; obtain ⟨a15, p15, rfl, hp151, hp152⟩ := Own.shape ho15; have f15 := f14d.trans hF15; have hR15 := (hR14.drewN nq3).fr hF15 (by simp) (by simp); have hg15 := hgX.fr f15 (by simp); have hsl15 := (Own.sl ho15 (S' := []) (by simp)); have sd15 := sd.fr hF15 (by simp); have bd15 := SubsR.fr hF15 (by simp) bd) | (go_at_call 22; refine (rd_at hR15).mono ?_; rintro e w' ⟨rfl, rfl⟩) | (go_at_call 27; (with_reducible refine (open_any hsl15 hg15 hlx).mono ?_); rintro e w16 ⟨rb16, u16, rfl, hR16, hN16, hF16⟩; have f16 := f15.trans hF16; have c17 := rd_rec hR16; rw [Hre.out] at c17; simp only at c17) | (go_at_call 21; (with_reducible refine c17.mono ?_); rintro e w17 ⟨v17, cs17, rfl, hS17, hB17, hR17, hF17⟩; obtain ⟨a17, p17, rfl⟩ := hS17.shape; have f17 := f16.then hF17 (new1 (Nat.le_trans f15.size hN16)); have t17 := hF16.then hF17 (new1 hN16); have sd17 := sd15.fr t17 (by simp); have bd17 := SubsR.fr t17 (by simp) bd15; have sx17 := hS17.sub (S' := []) (by simp); have bx17 := SubsR.sub (S' := []) (by simp) hB17) | (go_at_call 37; refine (same6_refl _ _ _ x _ _ sx17 bx17 sd17 bd17).mono ?_; rintro e w18 ⟨rfl, hF18⟩; have f18 := f17.trans hF18)
                  go_ret
                  exact ⟨rfl, Fr.trans (by repeat (first | (with_reducible exact Fr.refl _ _) | (with_reducible assumption) | (with_reducible apply Fr.alloc) | (with_reducible apply Fr.drew) | (with_reducible apply Fr.drewN) | (with_reducible refine Fr.setCell ?_ (by first | (left; simp; done) | (right; simp; done) | (right; simp; omega)) _))) f18⟩
              · have hx := herz q0
                subst hx
                have Hq0 := Lib.hid q0
                clear hlaw herz q0
                go_wp2_with first | (go_at_call 27; (with_reducible refine (open_any hbC hgC hlC).mono ?_); rintro e w13 ⟨rb13, u13, rfl, hR13, hN13, hF13⟩; have f13 := FC.trans hF13; have c14 := rd_rec hR13; rw [HQ.out] at c14; simp only at c14) | (go_at_call 21; (with_reducible refine c14.mono ?_); rintro e w14 ⟨v14, cs14, rfl, hS14, hB14, hR14, hF14⟩; obtain ⟨a14, p14, rfl⟩ := hS14.shape; have f14 := f13.then hF14 (new1 (Nat.le_trans FC.size hN13))) | (go_at_call 24; refine (rd_err hR14).mono ?_; rintro e w' ⟨rfl, nq3, rfl⟩; have g0 : (qs.err != 0) = true := bne_true_of_ne Hq0.out; have f14d := f14.drewN nq3)
                go_ret
                exact ⟨rfl, Fr.trans (by repeat (first | (with_reducible exact Fr.refl _ _) | (with_reducible assumption) | (with_reducible apply Fr.alloc) | (with_reducible apply Fr.drew) | (with_reducible apply Fr.drewN) | (with_reducible refine Fr.setCell ?_ (by first | (left; simp; done) | (right; simp; done) | (right; simp; omega)) _))) f14d⟩
    · have g600 : (600 : Int) < (bh.length : Int) := by omega
      go_enter Tryd.func6, Tryd.ntmps6
      go_wp2_with (go_at_call 25; refine (known6 hgX).mono ?_; rintro e w1 ⟨rfl, hF1⟩)
      go_ret
      exact ⟨rfl, Fr.trans (by repeat (first | (with_reducible exact Fr.refl _ _) | (with_reducible assumption) | (with_reducible apply Fr.alloc) | (with_reducible apply Fr.drew) | (with_reducible apply Fr.drewN) | (with_reducible refine Fr.setCell ?_ (by first | (left; simp; done) | (right; simp; done) | (right; simp; omega)) _))) hF1⟩
  · have g30 : (30 : Int) < (ts.length : Int) := by omega
    go_enter Tryd.func6, Tryd.ntmps6
    go_wp2_with (go_at_call 25; refine (known6 hgX).mono ?_; rintro e w1 ⟨rfl, hF1⟩)
    go_ret
    exact ⟨rfl, Fr.trans (by repeat (first | (with_reducible exact Fr.refl _ _) | (with_reducible assumption) | (with_reducible apply Fr.alloc) | (with_reducible apply Fr.drew) | (with_reducible apply Fr.drewN) | (with_reducible refine Fr.setCell ?_ (by first | (left; simp; done) | (right; simp; done) | (right; simp; omega)) _))) hF1⟩
end Go.Proofs.YtokneepfknepaaaDoor
