/- The walk of the document's bytes of an instruction (layer 7). Made by tools/one.py. -/
import Derived.Test.YtokneepfknepaaaGreatDoorG16
set_option linter.unusedSimpArgs false
set_option linter.unusedVariables false
namespace Go.Proofs.YtokneepfknepaaaGreatDoor
open Go.RowKit
set_option maxRecDepth 100000 in
set_option maxHeartbeats 25600000 in
theorem oneB5 (w : World) (o x y : Int) (u : Nat) (hk hn jk jn : Int) (n1 n2 : Bool) (ts : List ValT) (ls : List Int) (bk vk : Int) (vn : Bool) (wk wn bn : Int) (cs : List CatchT) (tv lv cv : Value) (hR : InsR [] w (⟨o, x, y, u, ⟨hk, hn⟩, ⟨jk, jn⟩, n1, n2, ts, ls, ⟨bk, ⟨vk, vn, ⟨wk, wn⟩⟩, bn⟩, cs⟩ : InstrT) tv lv cv)
    (hm : mayI (⟨o, x, y, u, ⟨hk, hn⟩, ⟨jk, jn⟩, n1, n2, ts, ls, ⟨bk, ⟨vk, vn, ⟨wk, wn⟩⟩, bn⟩, cs⟩ : InstrT) = true) (hs : SmI (⟨o, x, y, u, ⟨hk, hn⟩, ⟨jk, jn⟩, n1, n2, ts, ls, ⟨bk, ⟨vk, vn, ⟨wk, wn⟩⟩, bn⟩, cs⟩ : InstrT)) (h : shapeP o = 5) :
    Calls Tryz.prog 22 #[.agg (insC (⟨o, x, y, u, ⟨hk, hn⟩, ⟨jk, jn⟩, n1, n2, ts, ls, ⟨bk, ⟨vk, vn, ⟨wk, wn⟩⟩, bn⟩, cs⟩ : InstrT) tv lv cv).toArray] w fun e w' => ∃ v', e = .returned v' ∧ St [] w w' [.own 5 1 (v') (pInstr (⟨o, x, y, u, ⟨hk, hn⟩, ⟨jk, jn⟩, n1, n2, ts, ls, ⟨bk, ⟨vk, vn, ⟨wk, wn⟩⟩, bn⟩, cs⟩ : InstrT)).length ((pInstr (⟨o, x, y, u, ⟨hk, hn⟩, ⟨jk, jn⟩, n1, n2, ts, ls, ⟨bk, ⟨vk, vn, ⟨wk, wn⟩⟩, bn⟩, cs⟩ : InstrT)).map B)] := by
  have hb := shape_ok (mayI_shape hm)
  dsimp only at hb
  have ho0 := hb.1
  have ho1 : o < 251 ∨ o / 256 = 251 ∨ o / 256 = 252 := hb.2.1
  clear hb
  obtain ⟨tS, lS, cS⟩ := hR
  obtain ⟨ta, tc, rfl⟩ := tS.shape
  obtain ⟨la, lc, rfl⟩ := lS.shape
  obtain ⟨ca, cc, rfl⟩ := cS.shape
  dsimp only at tS lS cS
  obtain ⟨h1, h2, h3, h4⟩ := hs
  dsimp only at h1 h2 h3 h4
  have HM := Lib.hid hm
  clear hm
  have e0 : pInstr (⟨o, x, y, u, ⟨hk, hn⟩, ⟨jk, jn⟩, n1, n2, ts, ls, ⟨bk, ⟨vk, vn, ⟨wk, wn⟩⟩, bn⟩, cs⟩ : InstrT) = pOp o ++ pRest (⟨o, x, y, u, ⟨hk, hn⟩, ⟨jk, jn⟩, n1, n2, ts, ls, ⟨bk, ⟨vk, vn, ⟨wk, wn⟩⟩, bn⟩, cs⟩ : InstrT) := rfl
  have E0 := Lib.hid e0
  clear e0
  generalize pInstr (⟨o, x, y, u, ⟨hk, hn⟩, ⟨jk, jn⟩, n1, n2, ts, ls, ⟨bk, ⟨vk, vn, ⟨wk, wn⟩⟩, bn⟩, cs⟩ : InstrT) = Y at E0 ⊢
  have lP := pOp_len ho0
  have hS := (St.start [] w).alloc [.int .i64 o, .int .i64 x, .int .i64 y, .int .u64 (u : Int), .int .i64 hk, .int .i64 hn, .int .i64 jk, .int .i64 jn, .bool n1, .bool n2, .slice ta ts.length tc, .slice la ls.length lc, .int .i64 bk, .int .i64 vk, .bool vn, .int .i64 wk, .int .i64 wn, .int .i64 bn, .slice ca cs.length cc] 44
  unfold insC
  dsimp only
  go_enter Tryz.func22, Tryz.ntmps22
  go_upto_if 18 with fail
  have hS := hS.alloc [.int .u8 (o % 256)] 5
  go_cut [3] (fun s wx => St [] w wx [.own 5 1 (s) (pOp o).length ((pOp o).map B), .loc w.heap.size [.int .i64 o, .int .i64 x, .int .i64 y, .int .u64 (u : Int), .int .i64 hk, .int .i64 hn, .int .i64 jk, .int .i64 jn, .bool n1, .bool n2, .slice ta ts.length tc, .slice la ls.length lc, .int .i64 bk, .int .i64 vk, .bool vn, .int .i64 wk, .int .i64 wn, .int .i64 bn, .slice ca cs.length cc] 44])
  case first =>
    (try clear hQ); have hQ := St.facts hS; simp only [Facts, Res.fact, List.cons_append, List.nil_append, true_and, and_true] at hQ
    by_cases h8 : o < 256
    · have i1 : ¬ ((255 : Int) < o) := by omega
      go_wp2_with fail
      go_meet
      have hS := hS.dst (.lit .here (by omega))
      rw [show pOp o = [UInt8.ofNat (o % 256).toNat] by unfold pOp; rw [if_pos h8, show o % 256 = o by omega]]
      exact hS.sel (by exact zsub1)
    · have i1 : (255 : Int) < o := by omega
      have i2 : 0 ≤ o / 256 ∧ o / 256 < 256 := by omega
      have lX := pNum_len (o % 256) (by omega)
      have HT : Hid (o.tmod 256 = o % 256) := Lib.hid (Int.tmod_eq_emod_of_nonneg ho0)
      have hq : IntKind.u8.wrap (IntKind.i64.wrap (o.tdiv 256)) = o / 256 := by
        rw [Int.tdiv_eq_ediv_of_nonneg ho0, show IntKind.i64.wrap (o / 256) = o / 256 by rw [IntKind.wrap_i64]; omega]
        show (o / 256) % 256 = o / 256
        omega
      have i3 : 0 ≤ IntKind.u8.wrap (IntKind.i64.wrap (o.tdiv 256)) ∧ IntKind.u8.wrap (IntKind.i64.wrap (o.tdiv 256)) < 256 := by rw [hq]; omega
      have HP : Hid (pOp o = [UInt8.ofNat (IntKind.u8.wrap (IntKind.i64.wrap (o.tdiv 256))).toNat] ++ pNum (o % 256)) := Lib.hid (by unfold pOp; rw [if_neg h8, hq]; rfl)
      clear hq
      go_wp2_with fail
      go_region_held3 (fun w' => w'.cell? ⟨w.heap.size, 0, none⟩ = some (.int .i64 o)) (first | (go_keep; done) | (simp [hQ]; done)) (first | (refine step_st rfl rfl rfl rfl ?_; (repeat (apply Exists.intro)); refine ⟨?_, ?_, ?_, ?_, ?_⟩; (· exact zsts2); (· exact zdst1); (· exact zsrc1); (· exact zlen1); intro vN wN hS; (try clear hQ); have hQ := St.facts hS; simp only [Facts, Res.fact, List.cons_append, List.nil_append, true_and, and_true] at hQ) | (go_at_call 57; rw [HT.out]; (with_reducible refine (refU_any _ (o % 256) (by omega) (by omega)).mono ?_); rintro e w4 ⟨v4, rfl, s4⟩; refine st_go s4 ?_; (repeat (apply Exists.intro)); refine ⟨?_, ?_⟩; (· exact zsts2); (try simp only [World.size_alloc, World.size_setCell, size_drew, size_drewN]); intro hS; simp only [List.cons_append, List.nil_append] at hS; (try clear hQ); have hQ := St.facts hS; simp only [Facts, Res.fact, List.cons_append, List.nil_append, true_and, and_true] at hQ))
      all_goals
        go_wp2_with fail
        go_meet
        rw [HP.out]
        exact hS.sel (by exact zsub1)
  case rest =>
    clear hS
    have hS := hcut
    clear hcut
    (try clear hQ); have hQ := St.facts hS; simp only [Facts, Res.fact, List.cons_append, List.nil_append, true_and, and_true] at hQ
    have HK := Lib.hid h
    have HN : Hid (nineC 5 = [.bool true, .bool false, .bool false, .bool false, .bool false, .bool false, .bool true, .bool false, .bool false]) := Lib.hid rfl
    have EP : Hid (pRest (⟨o, x, y, u, ⟨hk, hn⟩, ⟨jk, jn⟩, n1, n2, ts, ls, ⟨bk, ⟨vk, vn, ⟨wk, wn⟩⟩, bn⟩, cs⟩ : InstrT) = pNum ((ls.length : Nat) : Int) ++ ls.flatMap pNum ++ pNum x) := Lib.hid (by rw [rest5 h]; simp [pList, pNum])
    have hp := may_inv HM.out (part5 (i := (⟨o, x, y, u, ⟨hk, hn⟩, ⟨jk, jn⟩, n1, n2, ts, ls, ⟨bk, ⟨vk, vn, ⟨wk, wn⟩⟩, bn⟩, cs⟩ : InstrT)) h)
    have hp1 := hp.1
    simp only [Bool.and_eq_true, idx_iff] at hp1
    obtain ⟨hX, hL⟩ := hp1
    have hL := Lib.hid hL
    clear hp
    clear h HM
    have lX := pNum_len x (by omega)
    have lN := pNum_len ((ls.length : Nat) : Int) (by omega)
    go_wp2_with first | (go_at_call 34; (with_reducible refine (refShape_any _ o).mono ?_); rintro e w1 ⟨rfl, hw1⟩; subst w1; (try rw [HK.out])) | (go_at_call 35; (with_reducible refine (refHas_any _ _ ?_ ?_).mono ?_); (· omega); (· omega); rintro e w2 ⟨rfl, hF2⟩; refine st_fr hF2 ?_; (repeat (apply Exists.intro)); refine ⟨?_, ?_⟩; (· exact zsts2); (try simp only [World.size_alloc, World.size_setCell, size_drew, size_drewN]); intro hS; (try clear hQ); have hQ := St.facts hS; simp only [Facts, Res.fact, List.cons_append, List.nil_append, true_and, and_true] at hQ; rw [HN.out]) | (refine st_store (ty := 69) rfl rfl rfl rfl ?_; (repeat (apply Exists.intro)); refine ⟨?_, ?_, ?_, ?_, ?_, ?_⟩; (· exact zsts2); (· (try simp only [World.size_alloc, World.size_setCell, size_drew, size_drewN]); (exact zpk1)); (· rfl); (· exact size_nine); (· simp [Value.oneCell']); intro wN hS; (try clear hQ); have hQ := St.facts hS; simp only [Facts, Res.fact, List.cons_append, List.nil_append, true_and, and_true] at hQ) | (at_builtin; refine st_app rfl rfl rfl rfl ?_; (repeat (apply Exists.intro)); refine ⟨?_, ?_, ?_, ?_, ?_⟩; (· exact zsts2); (· exact zdst1); (· exact zsrc1); (· exact zlen1); intro vN wN hS; (try clear hQ); have hQ := St.facts hS; simp only [Facts, Res.fact, List.cons_append, List.nil_append, true_and, and_true] at hQ) | (go_at_call 57; (with_reducible refine (refU_any _ _ ?_ ?_).mono ?_); (· omega); (· omega); rintro e w4 ⟨v4, rfl, s4⟩; refine st_go s4 ?_; (repeat (apply Exists.intro)); refine ⟨?_, ?_⟩; (· exact zsts2); (try simp only [World.size_alloc, World.size_setCell, size_drew, size_drewN]); intro hS; simp only [List.cons_append, List.nil_append] at hS; (try clear hQ); have hQ := St.facts hS; simp only [Facts, Res.fact, List.cons_append, List.nil_append, true_and, and_true] at hQ)
    go_loopw [3, 6] (fun v n wr => ∃ (k : Nat), n = .int .i64 k ∧ k ≤ ls.length ∧ St [] w wr [.own 5 1 (v) (pOp o ++ pNum ((ls.length : Nat) : Int) ++ (ls.take k).flatMap pNum).length ((pOp o ++ pNum ((ls.length : Nat) : Int) ++ (ls.take k).flatMap pNum).map B), .loc w2.heap.size [.bool true, .bool false, .bool false, .bool false, .bool false, .bool false, .bool true, .bool false, .bool false] 69, .loc w.heap.size [.int .i64 o, .int .i64 x, .int .i64 y, .int .u64 (u : Int), .int .i64 hk, .int .i64 hn, .int .i64 jk, .int .i64 jn, .bool n1, .bool n2, .slice ta ts.length tc, .slice la ls.length lc, .int .i64 bk, .int .i64 vk, .bool vn, .int .i64 wk, .int .i64 wn, .int .i64 bn, .slice ca cs.length cc] 44]) (fun _ n _ => ls.length - (intOf n).toNat)
    case atStart =>
      refine ⟨0, rfl, by omega, ?_⟩
      rw [show pOp o ++ pNum ((ls.length : Nat) : Int) ++ (ls.take 0).flatMap pNum = pOp o ++ pNum ((ls.length : Nat) : Int) from by simp]
      exact hS.sel (by exact zsub1)
    case round =>
      obtain ⟨k, rfl, hk2, hS⟩ := hrel
      (try clear hQ); have hQ := St.facts hS; simp only [Facts, Res.fact, List.cons_append, List.nil_append, true_and, and_true] at hQ
      have lK : ((ls.take k).flatMap pNum).length ≤ (ls.take k).length * 10 := flat_len7 _ fun n hn => (by
        have := (idx_iff _).1 (List.all_eq_true.1 hL.out n (List.mem_of_mem_take hn))
        exact pNum_len n (by omega))
      rw [List.length_take] at lK
      by_cases hlt : k < ls.length
      · obtain ⟨m, hm⟩ : ∃ t, ls[k]? = some t := ⟨ls[k], by simp [hlt]⟩
        obtain ⟨b, off, cap2, hv, hb, hnS, hc⟩ := Sl.elem lS (fun _ => rfl) k m hm
        injection hv with hv1 hv2 hv3
        subst hv1 hv3
        have f0 := (hS.fr.cell hb (by simp) _).trans (hc 0 (by decide))
        simp only [Nat.add_zero, ← Nat.add_assoc, intC, Nat.mul_one, List.getElem?_cons_zero] at f0
        have hm2 := (idx_iff m).1 (List.all_eq_true.1 hL.out m (List.mem_of_getElem? hm))
        have lM := pNum_len m (by omega)
        have e : pOp o ++ pNum ((ls.length : Nat) : Int) ++ (ls.take (k + 1)).flatMap pNum = pOp o ++ pNum ((ls.length : Nat) : Int) ++ (ls.take k).flatMap pNum ++ pNum m := by
          rw [List.take_add_one, hm]; simp
        have E := Lib.hid e
        clear e hm
        go_wp2_with first | (at_builtin; refine st_app rfl rfl rfl rfl ?_; (repeat (apply Exists.intro)); refine ⟨?_, ?_, ?_, ?_, ?_⟩; (· exact zsts2); (· exact zdst1); (· exact zsrc1); (· exact zlen1); intro vN wN hS; (try clear hQ); have hQ := St.facts hS; simp only [Facts, Res.fact, List.cons_append, List.nil_append, true_and, and_true] at hQ) | (go_at_call 57; (with_reducible refine (refU_any _ _ ?_ ?_).mono ?_); (· omega); (· omega); rintro e w4 ⟨v4, rfl, s4⟩; refine st_go s4 ?_; (repeat (apply Exists.intro)); refine ⟨?_, ?_⟩; (· exact zsts2); (try simp only [World.size_alloc, World.size_setCell, size_drew, size_drewN]); intro hS; simp only [List.cons_append, List.nil_append] at hS; (try clear hQ); have hQ := St.facts hS; simp only [Facts, Res.fact, List.cons_append, List.nil_append, true_and, and_true] at hQ)
        go_roundw
        case rel =>
          refine ⟨k + 1, by go_num, by omega, ?_⟩
          rw [E.out]
          exact hS.sel (by exact zsub1)
        case measure => simp [intOf]; omega
      · obtain rfl : k = ls.length := by omega
        rw [List.take_length] at hS lK
        go_wp2_with first | (at_builtin; refine st_app rfl rfl rfl rfl ?_; (repeat (apply Exists.intro)); refine ⟨?_, ?_, ?_, ?_, ?_⟩; (· exact zsts2); (· exact zdst1); (· exact zsrc1); (· exact zlen1); intro vN wN hS; (try clear hQ); have hQ := St.facts hS; simp only [Facts, Res.fact, List.cons_append, List.nil_append, true_and, and_true] at hQ) | (go_at_call 57; (with_reducible refine (refU_any _ _ ?_ ?_).mono ?_); (· omega); (· omega); rintro e w4 ⟨v4, rfl, s4⟩; refine st_go s4 ?_; (repeat (apply Exists.intro)); refine ⟨?_, ?_⟩; (· exact zsts2); (try simp only [World.size_alloc, World.size_setCell, size_drew, size_drewN]); intro hS; simp only [List.cons_append, List.nil_append] at hS; (try clear hQ); have hQ := St.facts hS; simp only [Facts, Res.fact, List.cons_append, List.nil_append, true_and, and_true] at hQ)
        go_ret; refine ⟨_, rfl, ?_⟩; rw [E0.out, EP.out]; (try rw [EQ.out]); (try rw [← List.append_assoc]); (try rw [← List.append_assoc]); (try rw [← List.append_assoc]); exact hS.sel (by exact zsub1)
set_option maxRecDepth 100000 in
set_option maxHeartbeats 25600000 in
theorem oneB8 (w : World) (o x y : Int) (u : Nat) (hk hn jk jn : Int) (n1 n2 : Bool) (ts : List ValT) (ls : List Int) (bk vk : Int) (vn : Bool) (wk wn bn : Int) (cs : List CatchT) (tv lv cv : Value) (hR : InsR [] w (⟨o, x, y, u, ⟨hk, hn⟩, ⟨jk, jn⟩, n1, n2, ts, ls, ⟨bk, ⟨vk, vn, ⟨wk, wn⟩⟩, bn⟩, cs⟩ : InstrT) tv lv cv)
    (hm : mayI (⟨o, x, y, u, ⟨hk, hn⟩, ⟨jk, jn⟩, n1, n2, ts, ls, ⟨bk, ⟨vk, vn, ⟨wk, wn⟩⟩, bn⟩, cs⟩ : InstrT) = true) (hs : SmI (⟨o, x, y, u, ⟨hk, hn⟩, ⟨jk, jn⟩, n1, n2, ts, ls, ⟨bk, ⟨vk, vn, ⟨wk, wn⟩⟩, bn⟩, cs⟩ : InstrT)) (h : shapeP o = 8) :
    Calls Tryz.prog 22 #[.agg (insC (⟨o, x, y, u, ⟨hk, hn⟩, ⟨jk, jn⟩, n1, n2, ts, ls, ⟨bk, ⟨vk, vn, ⟨wk, wn⟩⟩, bn⟩, cs⟩ : InstrT) tv lv cv).toArray] w fun e w' => ∃ v', e = .returned v' ∧ St [] w w' [.own 5 1 (v') (pInstr (⟨o, x, y, u, ⟨hk, hn⟩, ⟨jk, jn⟩, n1, n2, ts, ls, ⟨bk, ⟨vk, vn, ⟨wk, wn⟩⟩, bn⟩, cs⟩ : InstrT)).length ((pInstr (⟨o, x, y, u, ⟨hk, hn⟩, ⟨jk, jn⟩, n1, n2, ts, ls, ⟨bk, ⟨vk, vn, ⟨wk, wn⟩⟩, bn⟩, cs⟩ : InstrT)).map B)] := by
  have hb := shape_ok (mayI_shape hm)
  dsimp only at hb
  have ho0 := hb.1
  have ho1 : o < 251 ∨ o / 256 = 251 ∨ o / 256 = 252 := hb.2.1
  clear hb
  obtain ⟨tS, lS, cS⟩ := hR
  obtain ⟨ta, tc, rfl⟩ := tS.shape
  obtain ⟨la, lc, rfl⟩ := lS.shape
  obtain ⟨ca, cc, rfl⟩ := cS.shape
  dsimp only at tS lS cS
  obtain ⟨h1, h2, h3, h4⟩ := hs
  dsimp only at h1 h2 h3 h4
  have HM := Lib.hid hm
  clear hm
  have e0 : pInstr (⟨o, x, y, u, ⟨hk, hn⟩, ⟨jk, jn⟩, n1, n2, ts, ls, ⟨bk, ⟨vk, vn, ⟨wk, wn⟩⟩, bn⟩, cs⟩ : InstrT) = pOp o ++ pRest (⟨o, x, y, u, ⟨hk, hn⟩, ⟨jk, jn⟩, n1, n2, ts, ls, ⟨bk, ⟨vk, vn, ⟨wk, wn⟩⟩, bn⟩, cs⟩ : InstrT) := rfl
  have E0 := Lib.hid e0
  clear e0
  generalize pInstr (⟨o, x, y, u, ⟨hk, hn⟩, ⟨jk, jn⟩, n1, n2, ts, ls, ⟨bk, ⟨vk, vn, ⟨wk, wn⟩⟩, bn⟩, cs⟩ : InstrT) = Y at E0 ⊢
  have lP := pOp_len ho0
  have hS := (St.start [] w).alloc [.int .i64 o, .int .i64 x, .int .i64 y, .int .u64 (u : Int), .int .i64 hk, .int .i64 hn, .int .i64 jk, .int .i64 jn, .bool n1, .bool n2, .slice ta ts.length tc, .slice la ls.length lc, .int .i64 bk, .int .i64 vk, .bool vn, .int .i64 wk, .int .i64 wn, .int .i64 bn, .slice ca cs.length cc] 44
  unfold insC
  dsimp only
  go_enter Tryz.func22, Tryz.ntmps22
  go_upto_if 18 with fail
  have hS := hS.alloc [.int .u8 (o % 256)] 5
  go_cut [3] (fun s wx => St [] w wx [.own 5 1 (s) (pOp o).length ((pOp o).map B), .loc w.heap.size [.int .i64 o, .int .i64 x, .int .i64 y, .int .u64 (u : Int), .int .i64 hk, .int .i64 hn, .int .i64 jk, .int .i64 jn, .bool n1, .bool n2, .slice ta ts.length tc, .slice la ls.length lc, .int .i64 bk, .int .i64 vk, .bool vn, .int .i64 wk, .int .i64 wn, .int .i64 bn, .slice ca cs.length cc] 44])
  case first =>
    (try clear hQ); have hQ := St.facts hS; simp only [Facts, Res.fact, List.cons_append, List.nil_append, true_and, and_true] at hQ
    by_cases h8 : o < 256
    · have i1 : ¬ ((255 : Int) < o) := by omega
      go_wp2_with fail
      go_meet
      have hS := hS.dst (.lit .here (by omega))
      rw [show pOp o = [UInt8.ofNat (o % 256).toNat] by unfold pOp; rw [if_pos h8, show o % 256 = o by omega]]
      exact hS.sel (by exact zsub1)
    · have i1 : (255 : Int) < o := by omega
      have i2 : 0 ≤ o / 256 ∧ o / 256 < 256 := by omega
      have lX := pNum_len (o % 256) (by omega)
      have HT : Hid (o.tmod 256 = o % 256) := Lib.hid (Int.tmod_eq_emod_of_nonneg ho0)
      have hq : IntKind.u8.wrap (IntKind.i64.wrap (o.tdiv 256)) = o / 256 := by
        rw [Int.tdiv_eq_ediv_of_nonneg ho0, show IntKind.i64.wrap (o / 256) = o / 256 by rw [IntKind.wrap_i64]; omega]
        show (o / 256) % 256 = o / 256
        omega
      have i3 : 0 ≤ IntKind.u8.wrap (IntKind.i64.wrap (o.tdiv 256)) ∧ IntKind.u8.wrap (IntKind.i64.wrap (o.tdiv 256)) < 256 := by rw [hq]; omega
      have HP : Hid (pOp o = [UInt8.ofNat (IntKind.u8.wrap (IntKind.i64.wrap (o.tdiv 256))).toNat] ++ pNum (o % 256)) := Lib.hid (by unfold pOp; rw [if_neg h8, hq]; rfl)
      clear hq
      go_wp2_with fail
      go_region_held3 (fun w' => w'.cell? ⟨w.heap.size, 0, none⟩ = some (.int .i64 o)) (first | (go_keep; done) | (simp [hQ]; done)) (first | (refine step_st rfl rfl rfl rfl ?_; (repeat (apply Exists.intro)); refine ⟨?_, ?_, ?_, ?_, ?_⟩; (· exact zsts2); (· exact zdst1); (· exact zsrc1); (· exact zlen1); intro vN wN hS; (try clear hQ); have hQ := St.facts hS; simp only [Facts, Res.fact, List.cons_append, List.nil_append, true_and, and_true] at hQ) | (go_at_call 57; rw [HT.out]; (with_reducible refine (refU_any _ (o % 256) (by omega) (by omega)).mono ?_); rintro e w4 ⟨v4, rfl, s4⟩; refine st_go s4 ?_; (repeat (apply Exists.intro)); refine ⟨?_, ?_⟩; (· exact zsts2); (try simp only [World.size_alloc, World.size_setCell, size_drew, size_drewN]); intro hS; simp only [List.cons_append, List.nil_append] at hS; (try clear hQ); have hQ := St.facts hS; simp only [Facts, Res.fact, List.cons_append, List.nil_append, true_and, and_true] at hQ))
      all_goals
        go_wp2_with fail
        go_meet
        rw [HP.out]
        exact hS.sel (by exact zsub1)
  case rest =>
    clear hS
    have hS := hcut
    clear hcut
    (try clear hQ); have hQ := St.facts hS; simp only [Facts, Res.fact, List.cons_append, List.nil_append, true_and, and_true] at hQ
    have HK := Lib.hid h
    have HN : Hid (nineC 8 = [.bool true, .bool true, .bool true, .bool false, .bool false, .bool false, .bool false, .bool false, .bool false]) := Lib.hid rfl
    have EP : Hid (pRest (⟨o, x, y, u, ⟨hk, hn⟩, ⟨jk, jn⟩, n1, n2, ts, ls, ⟨bk, ⟨vk, vn, ⟨wk, wn⟩⟩, bn⟩, cs⟩ : InstrT) = memB x y ++ putU u) := Lib.hid (rest8 h)
    have hp := may_inv HM.out (part8 (i := (⟨o, x, y, u, ⟨hk, hn⟩, ⟨jk, jn⟩, n1, n2, ts, ls, ⟨bk, ⟨vk, vn, ⟨wk, wn⟩⟩, bn⟩, cs⟩ : InstrT)) h)
    have hp1 := hp.1
    simp only [Bool.and_eq_true, idx_iff, decide_eq_true_eq] at hp1
    clear hp
    clear h HM
    have lU := putU_len u (by omega)
    have hL : Hid (pNum x = pNum x) := Lib.hid rfl
    by_cases hy : y = 0
    · subst hy
      have EQ : Hid (pOp o ++ (memB x 0 ++ putU u) = pOp o ++ pNum x ++ putU u) := Lib.hid (by simp [memB])
      have lX := pNum_len x (by omega)
      go_wp2_with first | (go_at_call 34; (with_reducible refine (refShape_any _ o).mono ?_); rintro e w1 ⟨rfl, hw1⟩; subst w1; (try rw [HK.out])) | (go_at_call 35; (with_reducible refine (refHas_any _ _ ?_ ?_).mono ?_); (· omega); (· omega); rintro e w2 ⟨rfl, hF2⟩; refine st_fr hF2 ?_; (repeat (apply Exists.intro)); refine ⟨?_, ?_⟩; (· exact zsts2); (try simp only [World.size_alloc, World.size_setCell, size_drew, size_drewN]); intro hS; (try clear hQ); have hQ := St.facts hS; simp only [Facts, Res.fact, List.cons_append, List.nil_append, true_and, and_true] at hQ; rw [HN.out]) | (refine st_store (ty := 69) rfl rfl rfl rfl ?_; (repeat (apply Exists.intro)); refine ⟨?_, ?_, ?_, ?_, ?_, ?_⟩; (· exact zsts2); (· (try simp only [World.size_alloc, World.size_setCell, size_drew, size_drewN]); (exact zpk1)); (· rfl); (· exact size_nine); (· simp [Value.oneCell']); intro wN hS; (try clear hQ); have hQ := St.facts hS; simp only [Facts, Res.fact, List.cons_append, List.nil_append, true_and, and_true] at hQ) | (at_builtin; refine st_app rfl rfl rfl rfl ?_; (repeat (apply Exists.intro)); refine ⟨?_, ?_, ?_, ?_, ?_⟩; (· exact zsts2); (· exact zdst1); (· exact zsrc1); (· exact zlen1); intro vN wN hS; (try clear hQ); have hQ := St.facts hS; simp only [Facts, Res.fact, List.cons_append, List.nil_append, true_and, and_true] at hQ) | (go_at_call 57; (with_reducible refine (refU_any _ _ ?_ ?_).mono ?_); (· omega); (· omega); rintro e w4 ⟨v4, rfl, s4⟩; refine st_go s4 ?_; (repeat (apply Exists.intro)); refine ⟨?_, ?_⟩; (· exact zsts2); (try simp only [World.size_alloc, World.size_setCell, size_drew, size_drewN]); intro hS; simp only [List.cons_append, List.nil_append] at hS; (try clear hQ); have hQ := St.facts hS; simp only [Facts, Res.fact, List.cons_append, List.nil_append, true_and, and_true] at hQ) | (go_at_call 58; (first | (with_reducible refine (rPutU u _ (by omega)).mono ?_) | (with_reducible refine (rPutUw u _ (by omega)).mono ?_)); rintro e w4 ⟨v4, rfl, s4⟩; refine st_go s4 ?_; (repeat (apply Exists.intro)); refine ⟨?_, ?_⟩; (· exact zsts2); (try simp only [World.size_alloc, World.size_setCell, size_drew, size_drewN]); intro hS; simp only [List.cons_append, List.nil_append] at hS; (try clear hQ); have hQ := St.facts hS; simp only [Facts, Res.fact, List.cons_append, List.nil_append, true_and, and_true] at hQ)
      go_ret; refine ⟨_, rfl, ?_⟩; rw [E0.out, EP.out]; (try rw [EQ.out]); (try rw [← List.append_assoc]); (try rw [← List.append_assoc]); (try rw [← List.append_assoc]); exact hS.sel (by exact zsub1)
    · have qy : (y == 0) = false := by simpa using hy
      have EQ : Hid (pOp o ++ (memB x y ++ putU u) = pOp o ++ pNum (x + 64) ++ pNum y ++ putU u) := Lib.hid (by simp [memB, hy])
      have lX := pNum_len (x + 64) (by omega)
      have lY := pNum_len y (by omega)
      clear hy
      go_wp2_with first | (go_at_call 34; (with_reducible refine (refShape_any _ o).mono ?_); rintro e w1 ⟨rfl, hw1⟩; subst w1; (try rw [HK.out])) | (go_at_call 35; (with_reducible refine (refHas_any _ _ ?_ ?_).mono ?_); (· omega); (· omega); rintro e w2 ⟨rfl, hF2⟩; refine st_fr hF2 ?_; (repeat (apply Exists.intro)); refine ⟨?_, ?_⟩; (· exact zsts2); (try simp only [World.size_alloc, World.size_setCell, size_drew, size_drewN]); intro hS; (try clear hQ); have hQ := St.facts hS; simp only [Facts, Res.fact, List.cons_append, List.nil_append, true_and, and_true] at hQ; rw [HN.out]) | (refine st_store (ty := 69) rfl rfl rfl rfl ?_; (repeat (apply Exists.intro)); refine ⟨?_, ?_, ?_, ?_, ?_, ?_⟩; (· exact zsts2); (· (try simp only [World.size_alloc, World.size_setCell, size_drew, size_drewN]); (exact zpk1)); (· rfl); (· exact size_nine); (· simp [Value.oneCell']); intro wN hS; (try clear hQ); have hQ := St.facts hS; simp only [Facts, Res.fact, List.cons_append, List.nil_append, true_and, and_true] at hQ) | (at_builtin; refine st_app rfl rfl rfl rfl ?_; (repeat (apply Exists.intro)); refine ⟨?_, ?_, ?_, ?_, ?_⟩; (· exact zsts2); (· exact zdst1); (· exact zsrc1); (· exact zlen1); intro vN wN hS; (try clear hQ); have hQ := St.facts hS; simp only [Facts, Res.fact, List.cons_append, List.nil_append, true_and, and_true] at hQ)
      go_region_held3 (fun w' => w'.cell? ⟨w.heap.size, 1, none⟩ = some (.int .i64 x) ∧ w'.cell? ⟨w.heap.size, 2, none⟩ = some (.int .i64 y)) (first | (go_keep; done) | (simp [hQ]; done)) (first | (refine step_st rfl rfl rfl rfl ?_; (repeat (apply Exists.intro)); refine ⟨?_, ?_, ?_, ?_, ?_⟩; (· exact zsts2); (· exact zdst1); (· exact zsrc1); (· exact zlen1); intro vN wN hS; (try clear hQ); have hQ := St.facts hS; simp only [Facts, Res.fact, List.cons_append, List.nil_append, true_and, and_true] at hQ) | (go_at_call 57; (with_reducible refine (refU_wrap _ (x + 64) (by omega) (by omega)).mono ?_); rintro e w4 ⟨v4, rfl, s4⟩; refine st_go s4 ?_; (repeat (apply Exists.intro)); refine ⟨?_, ?_⟩; (· exact zsts2); (try simp only [World.size_alloc, World.size_setCell, size_drew, size_drewN]); intro hS; simp only [List.cons_append, List.nil_append] at hS; (try clear hQ); have hQ := St.facts hS; simp only [Facts, Res.fact, List.cons_append, List.nil_append, true_and, and_true] at hQ) | (go_at_call 57; (with_reducible refine (refU_any _ y (by omega) (by omega)).mono ?_); rintro e w4 ⟨v4, rfl, s4⟩; refine st_go s4 ?_; (repeat (apply Exists.intro)); refine ⟨?_, ?_⟩; (· exact zsts2); (try simp only [World.size_alloc, World.size_setCell, size_drew, size_drewN]); intro hS; simp only [List.cons_append, List.nil_append] at hS; (try clear hQ); have hQ := St.facts hS; simp only [Facts, Res.fact, List.cons_append, List.nil_append, true_and, and_true] at hQ))
      all_goals
        go_wp2_with first | (at_builtin; refine st_app rfl rfl rfl rfl ?_; (repeat (apply Exists.intro)); refine ⟨?_, ?_, ?_, ?_, ?_⟩; (· exact zsts2); (· exact zdst1); (· exact zsrc1); (· exact zlen1); intro vN wN hS; (try clear hQ); have hQ := St.facts hS; simp only [Facts, Res.fact, List.cons_append, List.nil_append, true_and, and_true] at hQ) | (go_at_call 58; (first | (with_reducible refine (rPutU u _ (by omega)).mono ?_) | (with_reducible refine (rPutUw u _ (by omega)).mono ?_)); rintro e w4 ⟨v4, rfl, s4⟩; refine st_go s4 ?_; (repeat (apply Exists.intro)); refine ⟨?_, ?_⟩; (· exact zsts2); (try simp only [World.size_alloc, World.size_setCell, size_drew, size_drewN]); intro hS; simp only [List.cons_append, List.nil_append] at hS; (try clear hQ); have hQ := St.facts hS; simp only [Facts, Res.fact, List.cons_append, List.nil_append, true_and, and_true] at hQ)
        go_ret; refine ⟨_, rfl, ?_⟩; rw [E0.out, EP.out]; (try rw [EQ.out]); (try rw [← List.append_assoc]); (try rw [← List.append_assoc]); (try rw [← List.append_assoc]); exact hS.sel (by exact zsub1)
set_option maxRecDepth 100000 in
set_option maxHeartbeats 25600000 in
theorem oneB9 (w : World) (o x y : Int) (u : Nat) (hk hn jk jn : Int) (n1 n2 : Bool) (ts : List ValT) (ls : List Int) (bk vk : Int) (vn : Bool) (wk wn bn : Int) (cs : List CatchT) (tv lv cv : Value) (hR : InsR [] w (⟨o, x, y, u, ⟨hk, hn⟩, ⟨jk, jn⟩, n1, n2, ts, ls, ⟨bk, ⟨vk, vn, ⟨wk, wn⟩⟩, bn⟩, cs⟩ : InstrT) tv lv cv)
    (hm : mayI (⟨o, x, y, u, ⟨hk, hn⟩, ⟨jk, jn⟩, n1, n2, ts, ls, ⟨bk, ⟨vk, vn, ⟨wk, wn⟩⟩, bn⟩, cs⟩ : InstrT) = true) (hs : SmI (⟨o, x, y, u, ⟨hk, hn⟩, ⟨jk, jn⟩, n1, n2, ts, ls, ⟨bk, ⟨vk, vn, ⟨wk, wn⟩⟩, bn⟩, cs⟩ : InstrT)) (h : shapeP o = 9) :
    Calls Tryz.prog 22 #[.agg (insC (⟨o, x, y, u, ⟨hk, hn⟩, ⟨jk, jn⟩, n1, n2, ts, ls, ⟨bk, ⟨vk, vn, ⟨wk, wn⟩⟩, bn⟩, cs⟩ : InstrT) tv lv cv).toArray] w fun e w' => ∃ v', e = .returned v' ∧ St [] w w' [.own 5 1 (v') (pInstr (⟨o, x, y, u, ⟨hk, hn⟩, ⟨jk, jn⟩, n1, n2, ts, ls, ⟨bk, ⟨vk, vn, ⟨wk, wn⟩⟩, bn⟩, cs⟩ : InstrT)).length ((pInstr (⟨o, x, y, u, ⟨hk, hn⟩, ⟨jk, jn⟩, n1, n2, ts, ls, ⟨bk, ⟨vk, vn, ⟨wk, wn⟩⟩, bn⟩, cs⟩ : InstrT)).map B)] := by
  have hb := shape_ok (mayI_shape hm)
  dsimp only at hb
  have ho0 := hb.1
  have ho1 : o < 251 ∨ o / 256 = 251 ∨ o / 256 = 252 := hb.2.1
  clear hb
  obtain ⟨tS, lS, cS⟩ := hR
  obtain ⟨ta, tc, rfl⟩ := tS.shape
  obtain ⟨la, lc, rfl⟩ := lS.shape
  obtain ⟨ca, cc, rfl⟩ := cS.shape
  dsimp only at tS lS cS
  obtain ⟨h1, h2, h3, h4⟩ := hs
  dsimp only at h1 h2 h3 h4
  have HM := Lib.hid hm
  clear hm
  have e0 : pInstr (⟨o, x, y, u, ⟨hk, hn⟩, ⟨jk, jn⟩, n1, n2, ts, ls, ⟨bk, ⟨vk, vn, ⟨wk, wn⟩⟩, bn⟩, cs⟩ : InstrT) = pOp o ++ pRest (⟨o, x, y, u, ⟨hk, hn⟩, ⟨jk, jn⟩, n1, n2, ts, ls, ⟨bk, ⟨vk, vn, ⟨wk, wn⟩⟩, bn⟩, cs⟩ : InstrT) := rfl
  have E0 := Lib.hid e0
  clear e0
  generalize pInstr (⟨o, x, y, u, ⟨hk, hn⟩, ⟨jk, jn⟩, n1, n2, ts, ls, ⟨bk, ⟨vk, vn, ⟨wk, wn⟩⟩, bn⟩, cs⟩ : InstrT) = Y at E0 ⊢
  have lP := pOp_len ho0
  have hS := (St.start [] w).alloc [.int .i64 o, .int .i64 x, .int .i64 y, .int .u64 (u : Int), .int .i64 hk, .int .i64 hn, .int .i64 jk, .int .i64 jn, .bool n1, .bool n2, .slice ta ts.length tc, .slice la ls.length lc, .int .i64 bk, .int .i64 vk, .bool vn, .int .i64 wk, .int .i64 wn, .int .i64 bn, .slice ca cs.length cc] 44
  unfold insC
  dsimp only
  go_enter Tryz.func22, Tryz.ntmps22
  go_upto_if 18 with fail
  have hS := hS.alloc [.int .u8 (o % 256)] 5
  go_cut [3] (fun s wx => St [] w wx [.own 5 1 (s) (pOp o).length ((pOp o).map B), .loc w.heap.size [.int .i64 o, .int .i64 x, .int .i64 y, .int .u64 (u : Int), .int .i64 hk, .int .i64 hn, .int .i64 jk, .int .i64 jn, .bool n1, .bool n2, .slice ta ts.length tc, .slice la ls.length lc, .int .i64 bk, .int .i64 vk, .bool vn, .int .i64 wk, .int .i64 wn, .int .i64 bn, .slice ca cs.length cc] 44])
  case first =>
    (try clear hQ); have hQ := St.facts hS; simp only [Facts, Res.fact, List.cons_append, List.nil_append, true_and, and_true] at hQ
    by_cases h8 : o < 256
    · have i1 : ¬ ((255 : Int) < o) := by omega
      go_wp2_with fail
      go_meet
      have hS := hS.dst (.lit .here (by omega))
      rw [show pOp o = [UInt8.ofNat (o % 256).toNat] by unfold pOp; rw [if_pos h8, show o % 256 = o by omega]]
      exact hS.sel (by exact zsub1)
    · have i1 : (255 : Int) < o := by omega
      have i2 : 0 ≤ o / 256 ∧ o / 256 < 256 := by omega
      have lX := pNum_len (o % 256) (by omega)
      have HT : Hid (o.tmod 256 = o % 256) := Lib.hid (Int.tmod_eq_emod_of_nonneg ho0)
      have hq : IntKind.u8.wrap (IntKind.i64.wrap (o.tdiv 256)) = o / 256 := by
        rw [Int.tdiv_eq_ediv_of_nonneg ho0, show IntKind.i64.wrap (o / 256) = o / 256 by rw [IntKind.wrap_i64]; omega]
        show (o / 256) % 256 = o / 256
        omega
      have i3 : 0 ≤ IntKind.u8.wrap (IntKind.i64.wrap (o.tdiv 256)) ∧ IntKind.u8.wrap (IntKind.i64.wrap (o.tdiv 256)) < 256 := by rw [hq]; omega
      have HP : Hid (pOp o = [UInt8.ofNat (IntKind.u8.wrap (IntKind.i64.wrap (o.tdiv 256))).toNat] ++ pNum (o % 256)) := Lib.hid (by unfold pOp; rw [if_neg h8, hq]; rfl)
      clear hq
      go_wp2_with fail
      go_region_held3 (fun w' => w'.cell? ⟨w.heap.size, 0, none⟩ = some (.int .i64 o)) (first | (go_keep; done) | (simp [hQ]; done)) (first | (refine step_st rfl rfl rfl rfl ?_; (repeat (apply Exists.intro)); refine ⟨?_, ?_, ?_, ?_, ?_⟩; (· exact zsts2); (· exact zdst1); (· exact zsrc1); (· exact zlen1); intro vN wN hS; (try clear hQ); have hQ := St.facts hS; simp only [Facts, Res.fact, List.cons_append, List.nil_append, true_and, and_true] at hQ) | (go_at_call 57; rw [HT.out]; (with_reducible refine (refU_any _ (o % 256) (by omega) (by omega)).mono ?_); rintro e w4 ⟨v4, rfl, s4⟩; refine st_go s4 ?_; (repeat (apply Exists.intro)); refine ⟨?_, ?_⟩; (· exact zsts2); (try simp only [World.size_alloc, World.size_setCell, size_drew, size_drewN]); intro hS; simp only [List.cons_append, List.nil_append] at hS; (try clear hQ); have hQ := St.facts hS; simp only [Facts, Res.fact, List.cons_append, List.nil_append, true_and, and_true] at hQ))
      all_goals
        go_wp2_with fail
        go_meet
        rw [HP.out]
        exact hS.sel (by exact zsub1)
  case rest =>
    clear hS
    have hS := hcut
    clear hcut
    (try clear hQ); have hQ := St.facts hS; simp only [Facts, Res.fact, List.cons_append, List.nil_append, true_and, and_true] at hQ
    have HK := Lib.hid h
    have HN : Hid (nineC 9 = [.bool false, .bool false, .bool true, .bool false, .bool false, .bool false, .bool false, .bool false, .bool false]) := Lib.hid rfl
    have EP : Hid (pRest (⟨o, x, y, u, ⟨hk, hn⟩, ⟨jk, jn⟩, n1, n2, ts, ls, ⟨bk, ⟨vk, vn, ⟨wk, wn⟩⟩, bn⟩, cs⟩ : InstrT) = putS (toI32 u)) := Lib.hid (rest9 h)
    have hp := may_inv HM.out (part9 (i := (⟨o, x, y, u, ⟨hk, hn⟩, ⟨jk, jn⟩, n1, n2, ts, ls, ⟨bk, ⟨vk, vn, ⟨wk, wn⟩⟩, bn⟩, cs⟩ : InstrT)) h)
    have hp1 := hp.1
    simp only [decide_eq_true_eq] at hp1
    clear hp
    clear h HM
    obtain ⟨n, hw, hn⟩ : ∃ n : Int, wrap64 (u : Int) = n ∧ n = (u : Int) := ⟨_, rfl, by rw [toI64_wrap7 (by omega)]; exact toI64_small u (by omega)⟩
    have b0 : 0 ≤ n := by omega
    have b1 : n < 4294967296 := by omega
    by_cases hu : n < 2147483648
    · rw [show toI32 u = n by unfold toI32; rw [if_pos (by omega)]; exact hn.symm] at EP
      have lX := putS_len n (by omega) (by omega)
      have i1 : ¬ ((2147483648 : Int) ≤ n) := by omega
      clear hn hp1
      go_wp2_with first | (go_at_call 34; (with_reducible refine (refShape_any _ o).mono ?_); rintro e w1 ⟨rfl, hw1⟩; subst w1; (try rw [HK.out])) | (go_at_call 35; (with_reducible refine (refHas_any _ _ ?_ ?_).mono ?_); (· omega); (· omega); rintro e w2 ⟨rfl, hF2⟩; refine st_fr hF2 ?_; (repeat (apply Exists.intro)); refine ⟨?_, ?_⟩; (· exact zsts2); (try simp only [World.size_alloc, World.size_setCell, size_drew, size_drewN]); intro hS; (try clear hQ); have hQ := St.facts hS; simp only [Facts, Res.fact, List.cons_append, List.nil_append, true_and, and_true] at hQ; rw [HN.out]) | (refine st_store (ty := 69) rfl rfl rfl rfl ?_; (repeat (apply Exists.intro)); refine ⟨?_, ?_, ?_, ?_, ?_, ?_⟩; (· exact zsts2); (· (try simp only [World.size_alloc, World.size_setCell, size_drew, size_drewN]); (exact zpk1)); (· rfl); (· exact size_nine); (· simp [Value.oneCell']); intro wN hS; (try clear hQ); have hQ := St.facts hS; simp only [Facts, Res.fact, List.cons_append, List.nil_append, true_and, and_true] at hQ) | (at_builtin; refine st_app rfl rfl rfl rfl ?_; (repeat (apply Exists.intro)); refine ⟨?_, ?_, ?_, ?_, ?_⟩; (· exact zsts2); (· exact zdst1); (· exact zsrc1); (· exact zlen1); intro vN wN hS; (try clear hQ); have hQ := St.facts hS; simp only [Facts, Res.fact, List.cons_append, List.nil_append, true_and, and_true] at hQ) | (go_at_call 59; (with_reducible refine (rPutS _ _ ?_ ?_).mono ?_); (· omega); (· omega); rintro e w4 ⟨v4, rfl, s4⟩; refine st_go s4 ?_; (repeat (apply Exists.intro)); refine ⟨?_, ?_⟩; (· exact zsts2); (try simp only [World.size_alloc, World.size_setCell, size_drew, size_drewN]); intro hS; simp only [List.cons_append, List.nil_append] at hS; (try clear hQ); have hQ := St.facts hS; simp only [Facts, Res.fact, List.cons_append, List.nil_append, true_and, and_true] at hQ)
      go_ret; refine ⟨_, rfl, ?_⟩; rw [E0.out, EP.out]; (try rw [EQ.out]); (try rw [← List.append_assoc]); (try rw [← List.append_assoc]); (try rw [← List.append_assoc]); exact hS.sel (by exact zsub1)
    · rw [show toI32 u = n - 4294967296 by unfold toI32; rw [if_neg (by omega), hn]] at EP
      have lX := putS_len (n - 4294967296) (by omega) (by omega)
      have i1 : (2147483648 : Int) ≤ n := by omega
      clear hn hp1
      go_wp2_with first | (go_at_call 34; (with_reducible refine (refShape_any _ o).mono ?_); rintro e w1 ⟨rfl, hw1⟩; subst w1; (try rw [HK.out])) | (go_at_call 35; (with_reducible refine (refHas_any _ _ ?_ ?_).mono ?_); (· omega); (· omega); rintro e w2 ⟨rfl, hF2⟩; refine st_fr hF2 ?_; (repeat (apply Exists.intro)); refine ⟨?_, ?_⟩; (· exact zsts2); (try simp only [World.size_alloc, World.size_setCell, size_drew, size_drewN]); intro hS; (try clear hQ); have hQ := St.facts hS; simp only [Facts, Res.fact, List.cons_append, List.nil_append, true_and, and_true] at hQ; rw [HN.out]) | (refine st_store (ty := 69) rfl rfl rfl rfl ?_; (repeat (apply Exists.intro)); refine ⟨?_, ?_, ?_, ?_, ?_, ?_⟩; (· exact zsts2); (· (try simp only [World.size_alloc, World.size_setCell, size_drew, size_drewN]); (exact zpk1)); (· rfl); (· exact size_nine); (· simp [Value.oneCell']); intro wN hS; (try clear hQ); have hQ := St.facts hS; simp only [Facts, Res.fact, List.cons_append, List.nil_append, true_and, and_true] at hQ) | (at_builtin; refine st_app rfl rfl rfl rfl ?_; (repeat (apply Exists.intro)); refine ⟨?_, ?_, ?_, ?_, ?_⟩; (· exact zsts2); (· exact zdst1); (· exact zsrc1); (· exact zlen1); intro vN wN hS; (try clear hQ); have hQ := St.facts hS; simp only [Facts, Res.fact, List.cons_append, List.nil_append, true_and, and_true] at hQ) | (go_at_call 59; (with_reducible refine (rPutS _ _ ?_ ?_).mono ?_); (· omega); (· omega); rintro e w4 ⟨v4, rfl, s4⟩; refine st_go s4 ?_; (repeat (apply Exists.intro)); refine ⟨?_, ?_⟩; (· exact zsts2); (try simp only [World.size_alloc, World.size_setCell, size_drew, size_drewN]); intro hS; simp only [List.cons_append, List.nil_append] at hS; (try clear hQ); have hQ := St.facts hS; simp only [Facts, Res.fact, List.cons_append, List.nil_append, true_and, and_true] at hQ)
      go_ret; refine ⟨_, rfl, ?_⟩; rw [E0.out, EP.out]; (try rw [EQ.out]); (try rw [← List.append_assoc]); (try rw [← List.append_assoc]); (try rw [← List.append_assoc]); exact hS.sel (by exact zsub1)
end Go.Proofs.YtokneepfknepaaaGreatDoor
