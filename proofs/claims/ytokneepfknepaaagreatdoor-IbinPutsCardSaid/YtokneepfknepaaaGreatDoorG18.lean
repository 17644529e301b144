/- The walk of the document's bytes of an instruction (layer 7). Made by tools/one.py. -/
import Derived.Test.YtokneepfknepaaaGreatDoorG16
set_option linter.unusedSimpArgs false
set_option linter.unusedVariables false
namespace Go.Proofs.YtokneepfknepaaaGreatDoor
open Go.RowKit
set_option maxRecDepth 100000 in
set_option maxHeartbeats 25600000 in
theorem oneB10 (w : World) (o x y : Int) (u : Nat) (hk hn jk jn : Int) (n1 n2 : Bool) (ts : List ValT) (ls : List Int) (bk vk : Int) (vn : Bool) (wk wn bn : Int) (cs : List CatchT) (tv lv cv : Value) (hR : InsR [] w (⟨o, x, y, u, ⟨hk, hn⟩, ⟨jk, jn⟩, n1, n2, ts, ls, ⟨bk, ⟨vk, vn, ⟨wk, wn⟩⟩, bn⟩, cs⟩ : InstrT) tv lv cv)
    (hm : mayI (⟨o, x, y, u, ⟨hk, hn⟩, ⟨jk, jn⟩, n1, n2, ts, ls, ⟨bk, ⟨vk, vn, ⟨wk, wn⟩⟩, bn⟩, cs⟩ : InstrT) = true) (hs : SmI (⟨o, x, y, u, ⟨hk, hn⟩, ⟨jk, jn⟩, n1, n2, ts, ls, ⟨bk, ⟨vk, vn, ⟨wk, wn⟩⟩, bn⟩, cs⟩ : InstrT)) (h : shapeP o = 10) :
    Calls Tryz.prog 22 #[.agg (insC (⟨o, x, y, u, ⟨hk, hn⟩, ⟨jk, jn⟩, n1, n2, ts, ls, ⟨bk, ⟨vk, vn, ⟨wk, wn⟩⟩, bn⟩, cs⟩ : InstrT) tv lv cv).toArray] w fun e w' => ∃ v', e = .returned v' ∧ St [] w w' [.own 5 1 (v') (pInstr (⟨o, x, y, u, ⟨hk, hn⟩, ⟨jk, jn⟩, n1, n2, ts, ls, ⟨bk, ⟨vk, vn, ⟨wk, wn⟩⟩, bn⟩, cs⟩ : InstrT)).length ((pInstr (⟨o, x, y, u, ⟨hk, hn⟩, ⟨jk, jn⟩, n1, n2, ts, ls, ⟨bk, ⟨vk, vn, ⟨wk, wn⟩⟩, bn⟩, cs⟩ : InstrT)).map B)] := by
  have hb := shape_ok (mayI_shape hm)
  dsimp only at hb
  have ho0 := hb.1
  have ho1 : o < 251 ∨ o / 256 = 251 ∨ o / 256 = 252 := hb.2.1
  clear hb
  obtain ⟨tS, lS, cS⟩ := hR
  obtain ⟨ta, tc, rfl⟩ := tS.shape
  obtain ⟨la, lc, rfl⟩ := lS.shape
  obtain ⟨ca, cc, rfl⟩ := cS.shape
  dsimp only at tS lS cS
  obtain ⟨h1, h2, h3, h4⟩ := hs
  dsimp only at h1 h2 h3 h4
  have HM := Lib.hid hm
  clear hm
  have e0 : pInstr (⟨o, x, y, u, ⟨hk, hn⟩, ⟨jk, jn⟩, n1, n2, ts, ls, ⟨bk, ⟨vk, vn, ⟨wk, wn⟩⟩, bn⟩, cs⟩ : InstrT) = pOp o ++ pRest (⟨o, x, y, u, ⟨hk, hn⟩, ⟨jk, jn⟩, n1, n2, ts, ls, ⟨bk, ⟨vk, vn, ⟨wk, wn⟩⟩, bn⟩, cs⟩ : InstrT) := rfl
  have E0 := Lib.hid e0
  clear e0
  generalize pInstr (⟨o, x, y, u, ⟨hk, hn⟩, ⟨jk, jn⟩, n1, n2, ts, ls, ⟨bk, ⟨vk, vn, ⟨wk, wn⟩⟩, bn⟩, cs⟩ : InstrT) = Y at E0 ⊢
  have lP := pOp_len ho0
  have hS := (St.start [] w).alloc [.int .i64 o, .int .i64 x, .int .i64 y, .int .u64 (u : Int), .int .i64 hk, .int .i64 hn, .int .i64 jk, .int .i64 jn, .bool n1, .bool n2, .slice ta ts.length tc, .slice la ls.length lc, .int .i64 bk, .int .i64 vk, .bool vn, .int .i64 wk, .int .i64 wn, .int .i64 bn, .slice ca cs.length cc] 44
  unfold insC
  dsimp only
  go_enter Tryz.func22, Tryz.ntmps22
  go_upto_if 18 with fail
  have hS := hS.alloc [.int .u8 (o % 256)] 5
  go_cut [3] (fun s wx => St [] w wx [.own 5 1 (s) (pOp o).length ((pOp o).map B), .loc w.heap.size [.int .i64 o, .int .i64 x, .int .i64 y, .int .u64 (u : Int), .int .i64 hk, .int .i64 hn, .int .i64 jk, .int .i64 jn, .bool n1, .bool n2, .slice ta ts.length tc, .slice la ls.length lc, .int .i64 bk, .int .i64 vk, .bool vn, .int .i64 wk, .int .i64 wn, .int .i64 bn, .slice ca cs.length cc] 44])
  case first =>
    (try clear hQ); have hQ := St.facts hS; simp only [Facts, Res.fact, List.cons_append, List.nil_append, true_and, and_true] at hQ
    by_cases h8 : o < 256
    · have i1 : ¬ ((255 : Int) < o) := by omega
      go_wp2_with fail
      go_meet
      have hS := hS.dst (.lit .here (by omega))
      rw [show pOp o = [UInt8.ofNat (o % 256).toNat] by unfold pOp; rw [if_pos h8, show o % 256 = o by omega]]
      exact hS.sel (by exact zsub1)
    · have i1 : (255 : Int) < o := by omega
      have i2 : 0 ≤ o / 256 ∧ o / 256 < 256 := by omega
      have lX := pNum_len (o % 256) (by omega)
      have HT : Hid (o.tmod 256 = o % 256) := Lib.hid (Int.tmod_eq_emod_of_nonneg ho0)
      have hq : IntKind.u8.wrap (IntKind.i64.wrap (o.tdiv 256)) = o / 256 := by
        rw [Int.tdiv_eq_ediv_of_nonneg ho0, show IntKind.i64.wrap (o / 256) = o / 256 by rw [IntKind.wrap_i64]; omega]
        show (o / 256) % 256 = o / 256
        omega
      have i3 : 0 ≤ IntKind.u8.wrap (IntKind.i64.wrap (o.tdiv 256)) ∧ IntKind.u8.wrap (IntKind.i64.wrap (o.tdiv 256)) < 256 := by rw [hq]; omega
      have HP : Hid (pOp o = [UInt8.ofNat (IntKind.u8.wrap (IntKind.i64.wrap (o.tdiv 256))).toNat] ++ pNum (o % 256)) := Lib.hid (by unfold pOp; rw [if_neg h8, hq]; rfl)
      clear hq
      go_wp2_with fail
      go_region_held3 (fun w' => w'.cell? ⟨w.heap.size, 0, none⟩ = some (.int .i64 o)) (first | (go_keep; done) | (simp [hQ]; done)) (first | (refine step_st rfl rfl rfl rfl ?_; (repeat (apply Exists.intro)); refine ⟨?_, ?_, ?_, ?_, ?_⟩; (· exact zsts2); (· exact zdst1); (· exact zsrc1); (· exact zlen1); intro vN wN hS; (try clear hQ); have hQ := St.facts hS; simp only [Facts, Res.fact, List.cons_append, List.nil_append, true_and, and_true] at hQ) | (go_at_call 57; rw [HT.out]; (with_reducible refine (refU_any _ (o % 256) (by omega) (by omega)).mono ?_); rintro e w4 ⟨v4, rfl, s4⟩; refine st_go s4 ?_; (repeat (apply Exists.intro)); refine ⟨?_, ?_⟩; (· exact zsts2); (try simp only [World.size_alloc, World.size_setCell, size_drew, size_drewN]); intro hS; simp only [List.cons_append, List.nil_append] at hS; (try clear hQ); have hQ := St.facts hS; simp only [Facts, Res.fact, List.cons_append, List.nil_append, true_and, and_true] at hQ))
      all_goals
        go_wp2_with fail
        go_meet
        rw [HP.out]
        exact hS.sel (by exact zsub1)
  case rest =>
    clear hS
    have hS := hcut
    clear hcut
    (try clear hQ); have hQ := St.facts hS; simp only [Facts, Res.fact, List.cons_append, List.nil_append, true_and, and_true] at hQ
    have HK := Lib.hid h
    have HN : Hid (nineC 10 = [.bool false, .bool false, .bool true, .bool false, .bool false, .bool false, .bool false, .bool false, .bool false]) := Lib.hid rfl
    have EP : Hid (pRest (⟨o, x, y, u, ⟨hk, hn⟩, ⟨jk, jn⟩, n1, n2, ts, ls, ⟨bk, ⟨vk, vn, ⟨wk, wn⟩⟩, bn⟩, cs⟩ : InstrT) = putS (toI64 u)) := Lib.hid (rest10 h)
    have hp := may_inv HM.out (part10 (i := (⟨o, x, y, u, ⟨hk, hn⟩, ⟨jk, jn⟩, n1, n2, ts, ls, ⟨bk, ⟨vk, vn, ⟨wk, wn⟩⟩, bn⟩, cs⟩ : InstrT)) h)
    have hp1 := hp.1
    clear hp1
    clear hp
    clear h HM
    obtain ⟨t1, t2, _⟩ := toI64_lt h4
    have lX := putS_len (toI64 u) (by omega) (by omega)
    have hw1 := toI64_wrap7 h4
    go_wp2_with first | (go_at_call 34; (with_reducible refine (refShape_any _ o).mono ?_); rintro e w1 ⟨rfl, hw1⟩; subst w1; (try rw [HK.out])) | (go_at_call 35; (with_reducible refine (refHas_any _ _ ?_ ?_).mono ?_); (· omega); (· omega); rintro e w2 ⟨rfl, hF2⟩; refine st_fr hF2 ?_; (repeat (apply Exists.intro)); refine ⟨?_, ?_⟩; (· exact zsts2); (try simp only [World.size_alloc, World.size_setCell, size_drew, size_drewN]); intro hS; (try clear hQ); have hQ := St.facts hS; simp only [Facts, Res.fact, List.cons_append, List.nil_append, true_and, and_true] at hQ; rw [HN.out]) | (refine st_store (ty := 69) rfl rfl rfl rfl ?_; (repeat (apply Exists.intro)); refine ⟨?_, ?_, ?_, ?_, ?_, ?_⟩; (· exact zsts2); (· (try simp only [World.size_alloc, World.size_setCell, size_drew, size_drewN]); (exact zpk1)); (· rfl); (· exact size_nine); (· simp [Value.oneCell']); intro wN hS; (try clear hQ); have hQ := St.facts hS; simp only [Facts, Res.fact, List.cons_append, List.nil_append, true_and, and_true] at hQ) | (at_builtin; refine st_app rfl rfl rfl rfl ?_; (repeat (apply Exists.intro)); refine ⟨?_, ?_, ?_, ?_, ?_⟩; (· exact zsts2); (· exact zdst1); (· exact zsrc1); (· exact zlen1); intro vN wN hS; (try clear hQ); have hQ := St.facts hS; simp only [Facts, Res.fact, List.cons_append, List.nil_append, true_and, and_true] at hQ) | (go_at_call 59; (with_reducible refine (rPutS _ _ ?_ ?_).mono ?_); (· omega); (· omega); rintro e w4 ⟨v4, rfl, s4⟩; refine st_go s4 ?_; (repeat (apply Exists.intro)); refine ⟨?_, ?_⟩; (· exact zsts2); (try simp only [World.size_alloc, World.size_setCell, size_drew, size_drewN]); intro hS; simp only [List.cons_append, List.nil_append] at hS; (try clear hQ); have hQ := St.facts hS; simp only [Facts, Res.fact, List.cons_append, List.nil_append, true_and, and_true] at hQ)
    go_ret; refine ⟨_, rfl, ?_⟩; rw [E0.out, EP.out]; (try rw [EQ.out]); (try rw [← List.append_assoc]); (try rw [← List.append_assoc]); (try rw [← List.append_assoc]); exact hS.sel (by exact zsub1)
set_option maxRecDepth 100000 in
set_option maxHeartbeats 25600000 in
theorem oneB11 (w : World) (o x y : Int) (u : Nat) (hk hn jk jn : Int) (n1 n2 : Bool) (ts : List ValT) (ls : List Int) (bk vk : Int) (vn : Bool) (wk wn bn : Int) (cs : List CatchT) (tv lv cv : Value) (hR : InsR [] w (⟨o, x, y, u, ⟨hk, hn⟩, ⟨jk, jn⟩, n1, n2, ts, ls, ⟨bk, ⟨vk, vn, ⟨wk, wn⟩⟩, bn⟩, cs⟩ : InstrT) tv lv cv)
    (hm : mayI (⟨o, x, y, u, ⟨hk, hn⟩, ⟨jk, jn⟩, n1, n2, ts, ls, ⟨bk, ⟨vk, vn, ⟨wk, wn⟩⟩, bn⟩, cs⟩ : InstrT) = true) (hs : SmI (⟨o, x, y, u, ⟨hk, hn⟩, ⟨jk, jn⟩, n1, n2, ts, ls, ⟨bk, ⟨vk, vn, ⟨wk, wn⟩⟩, bn⟩, cs⟩ : InstrT)) (h : shapeP o = 11) :
    Calls Tryz.prog 22 #[.agg (insC (⟨o, x, y, u, ⟨hk, hn⟩, ⟨jk, jn⟩, n1, n2, ts, ls, ⟨bk, ⟨vk, vn, ⟨wk, wn⟩⟩, bn⟩, cs⟩ : InstrT) tv lv cv).toArray] w fun e w' => ∃ v', e = .returned v' ∧ St [] w w' [.own 5 1 (v') (pInstr (⟨o, x, y, u, ⟨hk, hn⟩, ⟨jk, jn⟩, n1, n2, ts, ls, ⟨bk, ⟨vk, vn, ⟨wk, wn⟩⟩, bn⟩, cs⟩ : InstrT)).length ((pInstr (⟨o, x, y, u, ⟨hk, hn⟩, ⟨jk, jn⟩, n1, n2, ts, ls, ⟨bk, ⟨vk, vn, ⟨wk, wn⟩⟩, bn⟩, cs⟩ : InstrT)).map B)] := by
  have hb := shape_ok (mayI_shape hm)
  dsimp only at hb
  have ho0 := hb.1
  have ho1 : o < 251 ∨ o / 256 = 251 ∨ o / 256 = 252 := hb.2.1
  clear hb
  obtain ⟨tS, lS, cS⟩ := hR
  obtain ⟨ta, tc, rfl⟩ := tS.shape
  obtain ⟨la, lc, rfl⟩ := lS.shape
  obtain ⟨ca, cc, rfl⟩ := cS.shape
  dsimp only at tS lS cS
  obtain ⟨h1, h2, h3, h4⟩ := hs
  dsimp only at h1 h2 h3 h4
  have HM := Lib.hid hm
  clear hm
  have e0 : pInstr (⟨o, x, y, u, ⟨hk, hn⟩, ⟨jk, jn⟩, n1, n2, ts, ls, ⟨bk, ⟨vk, vn, ⟨wk, wn⟩⟩, bn⟩, cs⟩ : InstrT) = pOp o ++ pRest (⟨o, x, y, u, ⟨hk, hn⟩, ⟨jk, jn⟩, n1, n2, ts, ls, ⟨bk, ⟨vk, vn, ⟨wk, wn⟩⟩, bn⟩, cs⟩ : InstrT) := rfl
  have E0 := Lib.hid e0
  clear e0
  generalize pInstr (⟨o, x, y, u, ⟨hk, hn⟩, ⟨jk, jn⟩, n1, n2, ts, ls, ⟨bk, ⟨vk, vn, ⟨wk, wn⟩⟩, bn⟩, cs⟩ : InstrT) = Y at E0 ⊢
  have lP := pOp_len ho0
  have hS := (St.start [] w).alloc [.int .i64 o, .int .i64 x, .int .i64 y, .int .u64 (u : Int), .int .i64 hk, .int .i64 hn, .int .i64 jk, .int .i64 jn, .bool n1, .bool n2, .slice ta ts.length tc, .slice la ls.length lc, .int .i64 bk, .int .i64 vk, .bool vn, .int .i64 wk, .int .i64 wn, .int .i64 bn, .slice ca cs.length cc] 44
  unfold insC
  dsimp only
  go_enter Tryz.func22, Tryz.ntmps22
  go_upto_if 18 with fail
  have hS := hS.alloc [.int .u8 (o % 256)] 5
  go_cut [3] (fun s wx => St [] w wx [.own 5 1 (s) (pOp o).length ((pOp o).map B), .loc w.heap.size [.int .i64 o, .int .i64 x, .int .i64 y, .int .u64 (u : Int), .int .i64 hk, .int .i64 hn, .int .i64 jk, .int .i64 jn, .bool n1, .bool n2, .slice ta ts.length tc, .slice la ls.length lc, .int .i64 bk, .int .i64 vk, .bool vn, .int .i64 wk, .int .i64 wn, .int .i64 bn, .slice ca cs.length cc] 44])
  case first =>
    (try clear hQ); have hQ := St.facts hS; simp only [Facts, Res.fact, List.cons_append, List.nil_append, true_and, and_true] at hQ
    by_cases h8 : o < 256
    · have i1 : ¬ ((255 : Int) < o) := by omega
      go_wp2_with fail
      go_meet
      have hS := hS.dst (.lit .here (by omega))
      rw [show pOp o = [UInt8.ofNat (o % 256).toNat] by unfold pOp; rw [if_pos h8, show o % 256 = o by omega]]
      exact hS.sel (by exact zsub1)
    · have i1 : (255 : Int) < o := by omega
      have i2 : 0 ≤ o / 256 ∧ o / 256 < 256 := by omega
      have lX := pNum_len (o % 256) (by omega)
      have HT : Hid (o.tmod 256 = o % 256) := Lib.hid (Int.tmod_eq_emod_of_nonneg ho0)
      have hq : IntKind.u8.wrap (IntKind.i64.wrap (o.tdiv 256)) = o / 256 := by
        rw [Int.tdiv_eq_ediv_of_nonneg ho0, show IntKind.i64.wrap (o / 256) = o / 256 by rw [IntKind.wrap_i64]; omega]
        show (o / 256) % 256 = o / 256
        omega
      have i3 : 0 ≤ IntKind.u8.wrap (IntKind.i64.wrap (o.tdiv 256)) ∧ IntKind.u8.wrap (IntKind.i64.wrap (o.tdiv 256)) < 256 := by rw [hq]; omega
      have HP : Hid (pOp o = [UInt8.ofNat (IntKind.u8.wrap (IntKind.i64.wrap (o.tdiv 256))).toNat] ++ pNum (o % 256)) := Lib.hid (by unfold pOp; rw [if_neg h8, hq]; rfl)
      clear hq
      go_wp2_with fail
      go_region_held3 (fun w' => w'.cell? ⟨w.heap.size, 0, none⟩ = some (.int .i64 o)) (first | (go_keep; done) | (simp [hQ]; done)) (first | (refine step_st rfl rfl rfl rfl ?_; (repeat (apply Exists.intro)); refine ⟨?_, ?_, ?_, ?_, ?_⟩; (· exact zsts2); (· exact zdst1); (· exact zsrc1); (· exact zlen1); intro vN wN hS; (try clear hQ); have hQ := St.facts hS; simp only [Facts, Res.fact, List.cons_append, List.nil_append, true_and, and_true] at hQ) | (go_at_call 57; rw [HT.out]; (with_reducible refine (refU_any _ (o % 256) (by omega) (by omega)).mono ?_); rintro e w4 ⟨v4, rfl, s4⟩; refine st_go s4 ?_; (repeat (apply Exists.intro)); refine ⟨?_, ?_⟩; (· exact zsts2); (try simp only [World.size_alloc, World.size_setCell, size_drew, size_drewN]); intro hS; simp only [List.cons_append, List.nil_append] at hS; (try clear hQ); have hQ := St.facts hS; simp only [Facts, Res.fact, List.cons_append, List.nil_append, true_and, and_true] at hQ))
      all_goals
        go_wp2_with fail
        go_meet
        rw [HP.out]
        exact hS.sel (by exact zsub1)
  case rest =>
    clear hS
    have hS := hcut
    clear hcut
    (try clear hQ); have hQ := St.facts hS; simp only [Facts, Res.fact, List.cons_append, List.nil_append, true_and, and_true] at hQ
    have HK := Lib.hid h
    have HN : Hid (nineC 11 = [.bool false, .bool false, .bool false, .bool true, .bool false, .bool false, .bool false, .bool false, .bool false]) := Lib.hid rfl
    have EP : Hid (pRest (⟨o, x, y, u, ⟨hk, hn⟩, ⟨jk, jn⟩, n1, n2, ts, ls, ⟨bk, ⟨vk, vn, ⟨wk, wn⟩⟩, bn⟩, cs⟩ : InstrT) = heapB ⟨hk, hn⟩) := Lib.hid (rest11 h)
    have hp := may_inv HM.out (part11 (i := (⟨o, x, y, u, ⟨hk, hn⟩, ⟨jk, jn⟩, n1, n2, ts, ls, ⟨bk, ⟨vk, vn, ⟨wk, wn⟩⟩, bn⟩, cs⟩ : InstrT)) h)
    have hp1 := hp.1
    have k1 : plainVal ⟨3, false, ⟨hk, hn⟩⟩ = true := hp1
    clear hp
    clear h HM
    rw [heapB_yes k1] at EP
    have K1 : refH ⟨hk, hn⟩ = true := by rw [← refH_plain false]; exact k1
    have l1 := pHeap_len' K1
    clear k1 hp1
    have K1 := Lib.hid K1
    go_wp2_with first | (go_at_call 34; (with_reducible refine (refShape_any _ o).mono ?_); rintro e w1 ⟨rfl, hw1⟩; subst w1; (try rw [HK.out])) | (go_at_call 35; (with_reducible refine (refHas_any _ _ ?_ ?_).mono ?_); (· omega); (· omega); rintro e w2 ⟨rfl, hF2⟩; refine st_fr hF2 ?_; (repeat (apply Exists.intro)); refine ⟨?_, ?_⟩; (· exact zsts2); (try simp only [World.size_alloc, World.size_setCell, size_drew, size_drewN]); intro hS; (try clear hQ); have hQ := St.facts hS; simp only [Facts, Res.fact, List.cons_append, List.nil_append, true_and, and_true] at hQ; rw [HN.out]) | (refine st_store (ty := 69) rfl rfl rfl rfl ?_; (repeat (apply Exists.intro)); refine ⟨?_, ?_, ?_, ?_, ?_, ?_⟩; (· exact zsts2); (· (try simp only [World.size_alloc, World.size_setCell, size_drew, size_drewN]); (exact zpk1)); (· rfl); (· exact size_nine); (· simp [Value.oneCell']); intro wN hS; (try clear hQ); have hQ := St.facts hS; simp only [Facts, Res.fact, List.cons_append, List.nil_append, true_and, and_true] at hQ) | (at_builtin; refine st_app rfl rfl rfl rfl ?_; (repeat (apply Exists.intro)); refine ⟨?_, ?_, ?_, ?_, ?_⟩; (· exact zsts2); (· exact zdst1); (· exact zsrc1); (· exact zlen1); intro vN wN hS; (try clear hQ); have hQ := St.facts hS; simp only [Facts, Res.fact, List.cons_append, List.nil_append, true_and, and_true] at hQ) | (go_at_call 62; (with_reducible refine (rPutHeap _ ⟨hk, hn⟩ K1.out).mono ?_); rintro e w4 ⟨v4, rfl, s4⟩; refine st_go s4 ?_; (repeat (apply Exists.intro)); refine ⟨?_, ?_⟩; (· exact zsts2); (try simp only [World.size_alloc, World.size_setCell, size_drew, size_drewN]); intro hS; simp only [List.cons_append, List.nil_append] at hS; (try clear hQ); have hQ := St.facts hS; simp only [Facts, Res.fact, List.cons_append, List.nil_append, true_and, and_true] at hQ)
    go_ret; refine ⟨_, rfl, ?_⟩; rw [E0.out, EP.out]; (try rw [EQ.out]); (try rw [← List.append_assoc]); (try rw [← List.append_assoc]); (try rw [← List.append_assoc]); exact hS.sel (by exact zsub1)
set_option maxRecDepth 100000 in
set_option maxHeartbeats 25600000 in
theorem oneB12 (w : World) (o x y : Int) (u : Nat) (hk hn jk jn : Int) (n1 n2 : Bool) (ts : List ValT) (ls : List Int) (bk vk : Int) (vn : Bool) (wk wn bn : Int) (cs : List CatchT) (tv lv cv : Value) (hR : InsR [] w (⟨o, x, y, u, ⟨hk, hn⟩, ⟨jk, jn⟩, n1, n2, ts, ls, ⟨bk, ⟨vk, vn, ⟨wk, wn⟩⟩, bn⟩, cs⟩ : InstrT) tv lv cv)
    (hm : mayI (⟨o, x, y, u, ⟨hk, hn⟩, ⟨jk, jn⟩, n1, n2, ts, ls, ⟨bk, ⟨vk, vn, ⟨wk, wn⟩⟩, bn⟩, cs⟩ : InstrT) = true) (hs : SmI (⟨o, x, y, u, ⟨hk, hn⟩, ⟨jk, jn⟩, n1, n2, ts, ls, ⟨bk, ⟨vk, vn, ⟨wk, wn⟩⟩, bn⟩, cs⟩ : InstrT)) (h : shapeP o = 12) :
    Calls Tryz.prog 22 #[.agg (insC (⟨o, x, y, u, ⟨hk, hn⟩, ⟨jk, jn⟩, n1, n2, ts, ls, ⟨bk, ⟨vk, vn, ⟨wk, wn⟩⟩, bn⟩, cs⟩ : InstrT) tv lv cv).toArray] w fun e w' => ∃ v', e = .returned v' ∧ St [] w w' [.own 5 1 (v') (pInstr (⟨o, x, y, u, ⟨hk, hn⟩, ⟨jk, jn⟩, n1, n2, ts, ls, ⟨bk, ⟨vk, vn, ⟨wk, wn⟩⟩, bn⟩, cs⟩ : InstrT)).length ((pInstr (⟨o, x, y, u, ⟨hk, hn⟩, ⟨jk, jn⟩, n1, n2, ts, ls, ⟨bk, ⟨vk, vn, ⟨wk, wn⟩⟩, bn⟩, cs⟩ : InstrT)).map B)] := by
  have hb := shape_ok (mayI_shape hm)
  dsimp only at hb
  have ho0 := hb.1
  have ho1 : o < 251 ∨ o / 256 = 251 ∨ o / 256 = 252 := hb.2.1
  clear hb
  obtain ⟨tS, lS, cS⟩ := hR
  obtain ⟨ta, tc, rfl⟩ := tS.shape
  obtain ⟨la, lc, rfl⟩ := lS.shape
  obtain ⟨ca, cc, rfl⟩ := cS.shape
  dsimp only at tS lS cS
  obtain ⟨h1, h2, h3, h4⟩ := hs
  dsimp only at h1 h2 h3 h4
  have HM := Lib.hid hm
  clear hm
  have e0 : pInstr (⟨o, x, y, u, ⟨hk, hn⟩, ⟨jk, jn⟩, n1, n2, ts, ls, ⟨bk, ⟨vk, vn, ⟨wk, wn⟩⟩, bn⟩, cs⟩ : InstrT) = pOp o ++ pRest (⟨o, x, y, u, ⟨hk, hn⟩, ⟨jk, jn⟩, n1, n2, ts, ls, ⟨bk, ⟨vk, vn, ⟨wk, wn⟩⟩, bn⟩, cs⟩ : InstrT) := rfl
  have E0 := Lib.hid e0
  clear e0
  generalize pInstr (⟨o, x, y, u, ⟨hk, hn⟩, ⟨jk, jn⟩, n1, n2, ts, ls, ⟨bk, ⟨vk, vn, ⟨wk, wn⟩⟩, bn⟩, cs⟩ : InstrT) = Y at E0 ⊢
  have lP := pOp_len ho0
  have hS := (St.start [] w).alloc [.int .i64 o, .int .i64 x, .int .i64 y, .int .u64 (u : Int), .int .i64 hk, .int .i64 hn, .int .i64 jk, .int .i64 jn, .bool n1, .bool n2, .slice ta ts.length tc, .slice la ls.length lc, .int .i64 bk, .int .i64 vk, .bool vn, .int .i64 wk, .int .i64 wn, .int .i64 bn, .slice ca cs.length cc] 44
  unfold insC
  dsimp only
  go_enter Tryz.func22, Tryz.ntmps22
  go_upto_if 18 with fail
  have hS := hS.alloc [.int .u8 (o % 256)] 5
  go_cut [3] (fun s wx => St [] w wx [.own 5 1 (s) (pOp o).length ((pOp o).map B), .loc w.heap.size [.int .i64 o, .int .i64 x, .int .i64 y, .int .u64 (u : Int), .int .i64 hk, .int .i64 hn, .int .i64 jk, .int .i64 jn, .bool n1, .bool n2, .slice ta ts.length tc, .slice la ls.length lc, .int .i64 bk, .int .i64 vk, .bool vn, .int .i64 wk, .int .i64 wn, .int .i64 bn, .slice ca cs.length cc] 44])
  case first =>
    (try clear hQ); have hQ := St.facts hS; simp only [Facts, Res.fact, List.cons_append, List.nil_append, true_and, and_true] at hQ
    by_cases h8 : o < 256
    · have i1 : ¬ ((255 : Int) < o) := by omega
      go_wp2_with fail
      go_meet
      have hS := hS.dst (.lit .here (by omega))
      rw [show pOp o = [UInt8.ofNat (o % 256).toNat] by unfold pOp; rw [if_pos h8, show o % 256 = o by omega]]
      exact hS.sel (by exact zsub1)
    · have i1 : (255 : Int) < o := by omega
      have i2 : 0 ≤ o / 256 ∧ o / 256 < 256 := by omega
      have lX := pNum_len (o % 256) (by omega)
      have HT : Hid (o.tmod 256 = o % 256) := Lib.hid (Int.tmod_eq_emod_of_nonneg ho0)
      have hq : IntKind.u8.wrap (IntKind.i64.wrap (o.tdiv 256)) = o / 256 := by
        rw [Int.tdiv_eq_ediv_of_nonneg ho0, show IntKind.i64.wrap (o / 256) = o / 256 by rw [IntKind.wrap_i64]; omega]
        show (o / 256) % 256 = o / 256
        omega
      have i3 : 0 ≤ IntKind.u8.wrap (IntKind.i64.wrap (o.tdiv 256)) ∧ IntKind.u8.wrap (IntKind.i64.wrap (o.tdiv 256)) < 256 := by rw [hq]; omega
      have HP : Hid (pOp o = [UInt8.ofNat (IntKind.u8.wrap (IntKind.i64.wrap (o.tdiv 256))).toNat] ++ pNum (o % 256)) := Lib.hid (by unfold pOp; rw [if_neg h8, hq]; rfl)
      clear hq
      go_wp2_with fail
      go_region_held3 (fun w' => w'.cell? ⟨w.heap.size, 0, none⟩ = some (.int .i64 o)) (first | (go_keep; done) | (simp [hQ]; done)) (first | (refine step_st rfl rfl rfl rfl ?_; (repeat (apply Exists.intro)); refine ⟨?_, ?_, ?_, ?_, ?_⟩; (· exact zsts2); (· exact zdst1); (· exact zsrc1); (· exact zlen1); intro vN wN hS; (try clear hQ); have hQ := St.facts hS; simp only [Facts, Res.fact, List.cons_append, List.nil_append, true_and, and_true] at hQ) | (go_at_call 57; rw [HT.out]; (with_reducible refine (refU_any _ (o % 256) (by omega) (by omega)).mono ?_); rintro e w4 ⟨v4, rfl, s4⟩; refine st_go s4 ?_; (repeat (apply Exists.intro)); refine ⟨?_, ?_⟩; (· exact zsts2); (try simp only [World.size_alloc, World.size_setCell, size_drew, size_drewN]); intro hS; simp only [List.cons_append, List.nil_append] at hS; (try clear hQ); have hQ := St.facts hS; simp only [Facts, Res.fact, List.cons_append, List.nil_append, true_and, and_true] at hQ))
      all_goals
        go_wp2_with fail
        go_meet
        rw [HP.out]
        exact hS.sel (by exact zsub1)
  case rest =>
    clear hS
    have hS := hcut
    clear hcut
    (try clear hQ); have hQ := St.facts hS; simp only [Facts, Res.fact, List.cons_append, List.nil_append, true_and, and_true] at hQ
    have HK := Lib.hid h
    have HN : Hid (nineC 12 = [.bool false, .bool false, .bool false, .bool false, .bool false, .bool true, .bool false, .bool false, .bool false]) := Lib.hid rfl
    have EP : Hid (pRest (⟨o, x, y, u, ⟨hk, hn⟩, ⟨jk, jn⟩, n1, n2, ts, ls, ⟨bk, ⟨vk, vn, ⟨wk, wn⟩⟩, bn⟩, cs⟩ : InstrT) = valsB ts) := Lib.hid (rest12 h)
    have hp := may_inv HM.out (part12 (i := (⟨o, x, y, u, ⟨hk, hn⟩, ⟨jk, jn⟩, n1, n2, ts, ls, ⟨bk, ⟨vk, vn, ⟨wk, wn⟩⟩, bn⟩, cs⟩ : InstrT)) h)
    have hp1 := hp.1
    have Hok := Lib.hid hp1
    clear hp
    clear h HM
    have lX := valsB_len ts (fun t ht => plainVal_ok (List.all_eq_true.1 hp1 t ht)) h1
    rw [valsB_yes hp1] at EP lX
    have hln : ts.length ≤ 1099511627776 := by omega
    clear hp1
    go_wp2_with first | (go_at_call 34; (with_reducible refine (refShape_any _ o).mono ?_); rintro e w1 ⟨rfl, hw1⟩; subst w1; (try rw [HK.out])) | (go_at_call 35; (with_reducible refine (refHas_any _ _ ?_ ?_).mono ?_); (· omega); (· omega); rintro e w2 ⟨rfl, hF2⟩; refine st_fr hF2 ?_; (repeat (apply Exists.intro)); refine ⟨?_, ?_⟩; (· exact zsts2); (try simp only [World.size_alloc, World.size_setCell, size_drew, size_drewN]); intro hS; (try clear hQ); have hQ := St.facts hS; simp only [Facts, Res.fact, List.cons_append, List.nil_append, true_and, and_true] at hQ; rw [HN.out]) | (refine st_store (ty := 69) rfl rfl rfl rfl ?_; (repeat (apply Exists.intro)); refine ⟨?_, ?_, ?_, ?_, ?_, ?_⟩; (· exact zsts2); (· (try simp only [World.size_alloc, World.size_setCell, size_drew, size_drewN]); (exact zpk1)); (· rfl); (· exact size_nine); (· simp [Value.oneCell']); intro wN hS; (try clear hQ); have hQ := St.facts hS; simp only [Facts, Res.fact, List.cons_append, List.nil_append, true_and, and_true] at hQ) | (at_builtin; refine st_app rfl rfl rfl rfl ?_; (repeat (apply Exists.intro)); refine ⟨?_, ?_, ?_, ?_, ?_⟩; (· exact zsts2); (· exact zdst1); (· exact zsrc1); (· exact zlen1); intro vN wN hS; (try clear hQ); have hQ := St.facts hS; simp only [Facts, Res.fact, List.cons_append, List.nil_append, true_and, and_true] at hQ) | (go_at_call 60; (with_reducible refine (rPutVals _ _ ts ?_ hln Hok.out).mono ?_); (· (apply St.sl (hs := tS); (exact zsts2))); rintro e w4 ⟨v4, rfl, s4⟩; refine st_go s4 ?_; (repeat (apply Exists.intro)); refine ⟨?_, ?_⟩; (· exact zsts2); (try simp only [World.size_alloc, World.size_setCell, size_drew, size_drewN]); intro hS; simp only [List.cons_append, List.nil_append] at hS; (try clear hQ); have hQ := St.facts hS; simp only [Facts, Res.fact, List.cons_append, List.nil_append, true_and, and_true] at hQ)
    go_ret; refine ⟨_, rfl, ?_⟩; rw [E0.out, EP.out]; (try rw [EQ.out]); (try rw [← List.append_assoc]); (try rw [← List.append_assoc]); (try rw [← List.append_assoc]); exact hS.sel (by exact zsub1)
set_option maxRecDepth 100000 in
set_option maxHeartbeats 25600000 in
theorem oneB2 (w : World) (o x y : Int) (u : Nat) (hk hn jk jn : Int) (n1 n2 : Bool) (ts : List ValT) (ls : List Int) (bk vk : Int) (vn : Bool) (wk wn bn : Int) (cs : List CatchT) (tv lv cv : Value) (hR : InsR [] w (⟨o, x, y, u, ⟨hk, hn⟩, ⟨jk, jn⟩, n1, n2, ts, ls, ⟨bk, ⟨vk, vn, ⟨wk, wn⟩⟩, bn⟩, cs⟩ : InstrT) tv lv cv)
    (hm : mayI (⟨o, x, y, u, ⟨hk, hn⟩, ⟨jk, jn⟩, n1, n2, ts, ls, ⟨bk, ⟨vk, vn, ⟨wk, wn⟩⟩, bn⟩, cs⟩ : InstrT) = true) (hs : SmI (⟨o, x, y, u, ⟨hk, hn⟩, ⟨jk, jn⟩, n1, n2, ts, ls, ⟨bk, ⟨vk, vn, ⟨wk, wn⟩⟩, bn⟩, cs⟩ : InstrT)) (h : shapeP o = 2) :
    Calls Tryz.prog 22 #[.agg (insC (⟨o, x, y, u, ⟨hk, hn⟩, ⟨jk, jn⟩, n1, n2, ts, ls, ⟨bk, ⟨vk, vn, ⟨wk, wn⟩⟩, bn⟩, cs⟩ : InstrT) tv lv cv).toArray] w fun e w' => ∃ v', e = .returned v' ∧ St [] w w' [.own 5 1 (v') (pInstr (⟨o, x, y, u, ⟨hk, hn⟩, ⟨jk, jn⟩, n1, n2, ts, ls, ⟨bk, ⟨vk, vn, ⟨wk, wn⟩⟩, bn⟩, cs⟩ : InstrT)).length ((pInstr (⟨o, x, y, u, ⟨hk, hn⟩, ⟨jk, jn⟩, n1, n2, ts, ls, ⟨bk, ⟨vk, vn, ⟨wk, wn⟩⟩, bn⟩, cs⟩ : InstrT)).map B)] := by
  have hb := shape_ok (mayI_shape hm)
  dsimp only at hb
  have ho0 := hb.1
  have ho1 : o < 251 ∨ o / 256 = 251 ∨ o / 256 = 252 := hb.2.1
  clear hb
  obtain ⟨tS, lS, cS⟩ := hR
  obtain ⟨ta, tc, rfl⟩ := tS.shape
  obtain ⟨la, lc, rfl⟩ := lS.shape
  obtain ⟨ca, cc, rfl⟩ := cS.shape
  dsimp only at tS lS cS
  obtain ⟨h1, h2, h3, h4⟩ := hs
  dsimp only at h1 h2 h3 h4
  have HM := Lib.hid hm
  clear hm
  have e0 : pInstr (⟨o, x, y, u, ⟨hk, hn⟩, ⟨jk, jn⟩, n1, n2, ts, ls, ⟨bk, ⟨vk, vn, ⟨wk, wn⟩⟩, bn⟩, cs⟩ : InstrT) = pOp o ++ pRest (⟨o, x, y, u, ⟨hk, hn⟩, ⟨jk, jn⟩, n1, n2, ts, ls, ⟨bk, ⟨vk, vn, ⟨wk, wn⟩⟩, bn⟩, cs⟩ : InstrT) := rfl
  have E0 := Lib.hid e0
  clear e0
  generalize pInstr (⟨o, x, y, u, ⟨hk, hn⟩, ⟨jk, jn⟩, n1, n2, ts, ls, ⟨bk, ⟨vk, vn, ⟨wk, wn⟩⟩, bn⟩, cs⟩ : InstrT) = Y at E0 ⊢
  have lP := pOp_len ho0
  have hS := (St.start [] w).alloc [.int .i64 o, .int .i64 x, .int .i64 y, .int .u64 (u : Int), .int .i64 hk, .int .i64 hn, .int .i64 jk, .int .i64 jn, .bool n1, .bool n2, .slice ta ts.length tc, .slice la ls.length lc, .int .i64 bk, .int .i64 vk, .bool vn, .int .i64 wk, .int .i64 wn, .int .i64 bn, .slice ca cs.length cc] 44
  unfold insC
  dsimp only
  go_enter Tryz.func22, Tryz.ntmps22
  go_upto_if 18 with fail
  have hS := hS.alloc [.int .u8 (o % 256)] 5
  go_cut [3] (fun s wx => St [] w wx [.own 5 1 (s) (pOp o).length ((pOp o).map B), .loc w.heap.size [.int .i64 o, .int .i64 x, .int .i64 y, .int .u64 (u : Int), .int .i64 hk, .int .i64 hn, .int .i64 jk, .int .i64 jn, .bool n1, .bool n2, .slice ta ts.length tc, .slice la ls.length lc, .int .i64 bk, .int .i64 vk, .bool vn, .int .i64 wk, .int .i64 wn, .int .i64 bn, .slice ca cs.length cc] 44])
  case first =>
    (try clear hQ); have hQ := St.facts hS; simp only [Facts, Res.fact, List.cons_append, List.nil_append, true_and, and_true] at hQ
    by_cases h8 : o < 256
    · have i1 : ¬ ((255 : Int) < o) := by omega
      go_wp2_with fail
      go_meet
      have hS := hS.dst (.lit .here (by omega))
      rw [show pOp o = [UInt8.ofNat (o % 256).toNat] by unfold pOp; rw [if_pos h8, show o % 256 = o by omega]]
      exact hS.sel (by exact zsub1)
    · have i1 : (255 : Int) < o := by omega
      have i2 : 0 ≤ o / 256 ∧ o / 256 < 256 := by omega
      have lX := pNum_len (o % 256) (by omega)
      have HT : Hid (o.tmod 256 = o % 256) := Lib.hid (Int.tmod_eq_emod_of_nonneg ho0)
      have hq : IntKind.u8.wrap (IntKind.i64.wrap (o.tdiv 256)) = o / 256 := by
        rw [Int.tdiv_eq_ediv_of_nonneg ho0, show IntKind.i64.wrap (o / 256) = o / 256 by rw [IntKind.wrap_i64]; omega]
        show (o / 256) % 256 = o / 256
        omega
      have i3 : 0 ≤ IntKind.u8.wrap (IntKind.i64.wrap (o.tdiv 256)) ∧ IntKind.u8.wrap (IntKind.i64.wrap (o.tdiv 256)) < 256 := by rw [hq]; omega
      have HP : Hid (pOp o = [UInt8.ofNat (IntKind.u8.wrap (IntKind.i64.wrap (o.tdiv 256))).toNat] ++ pNum (o % 256)) := Lib.hid (by unfold pOp; rw [if_neg h8, hq]; rfl)
      clear hq
      go_wp2_with fail
      go_region_held3 (fun w' => w'.cell? ⟨w.heap.size, 0, none⟩ = some (.int .i64 o)) (first | (go_keep; done) | (simp [hQ]; done)) (first | (refine step_st rfl rfl rfl rfl ?_; (repeat (apply Exists.intro)); refine ⟨?_, ?_, ?_, ?_, ?_⟩; (· exact zsts2); (· exact zdst1); (· exact zsrc1); (· exact zlen1); intro vN wN hS; (try clear hQ); have hQ := St.facts hS; simp only [Facts, Res.fact, List.cons_append, List.nil_append, true_and, and_true] at hQ) | (go_at_call 57; rw [HT.out]; (with_reducible refine (refU_any _ (o % 256) (by omega) (by omega)).mono ?_); rintro e w4 ⟨v4, rfl, s4⟩; refine st_go s4 ?_; (repeat (apply Exists.intro)); refine ⟨?_, ?_⟩; (· exact zsts2); (try simp only [World.size_alloc, World.size_setCell, size_drew, size_drewN]); intro hS; simp only [List.cons_append, List.nil_append] at hS; (try clear hQ); have hQ := St.facts hS; simp only [Facts, Res.fact, List.cons_append, List.nil_append, true_and, and_true] at hQ))
      all_goals
        go_wp2_with fail
        go_meet
        rw [HP.out]
        exact hS.sel (by exact zsub1)
  case rest =>
    clear hS
    have hS := hcut
    clear hcut
    (try clear hQ); have hQ := St.facts hS; simp only [Facts, Res.fact, List.cons_append, List.nil_append, true_and, and_true] at hQ
    have HK := Lib.hid h
    have HN : Hid (nineC 2 = [.bool false, .bool false, .bool false, .bool false, .bool false, .bool false, .bool false, .bool true, .bool false]) := Lib.hid rfl
    have EP : Hid (pRest (⟨o, x, y, u, ⟨hk, hn⟩, ⟨jk, jn⟩, n1, n2, ts, ls, ⟨bk, ⟨vk, vn, ⟨wk, wn⟩⟩, bn⟩, cs⟩ : InstrT) = pBlock ⟨bk, ⟨vk, vn, ⟨wk, wn⟩⟩, bn⟩) := Lib.hid (rest2 h)
    have hp := may_inv HM.out (part2 (i := (⟨o, x, y, u, ⟨hk, hn⟩, ⟨jk, jn⟩, n1, n2, ts, ls, ⟨bk, ⟨vk, vn, ⟨wk, wn⟩⟩, bn⟩, cs⟩ : InstrT)) h)
    have hp1 := hp.1
    have hB := (mayBlock_iff ⟨bk, ⟨vk, vn, ⟨wk, wn⟩⟩, bn⟩).1 hp1
    have lB := pBlock_len (b := ⟨bk, ⟨vk, vn, ⟨wk, wn⟩⟩, bn⟩) hp1
    clear hp1
    clear hp
    clear h HM
    go_upto_if 126 with first | (go_at_call 34; (with_reducible refine (refShape_any _ o).mono ?_); rintro e w1 ⟨rfl, hw1⟩; subst w1; (try rw [HK.out])) | (go_at_call 35; (with_reducible refine (refHas_any _ _ ?_ ?_).mono ?_); (· omega); (· omega); rintro e w2 ⟨rfl, hF2⟩; refine st_fr hF2 ?_; (repeat (apply Exists.intro)); refine ⟨?_, ?_⟩; (· exact zsts2); (try simp only [World.size_alloc, World.size_setCell, size_drew, size_drewN]); intro hS; (try clear hQ); have hQ := St.facts hS; simp only [Facts, Res.fact, List.cons_append, List.nil_append, true_and, and_true] at hQ; rw [HN.out]) | (refine st_store (ty := 69) rfl rfl rfl rfl ?_; (repeat (apply Exists.intro)); refine ⟨?_, ?_, ?_, ?_, ?_, ?_⟩; (· exact zsts2); (· (try simp only [World.size_alloc, World.size_setCell, size_drew, size_drewN]); (exact zpk1)); (· rfl); (· exact size_nine); (· simp [Value.oneCell']); intro wN hS; (try clear hQ); have hQ := St.facts hS; simp only [Facts, Res.fact, List.cons_append, List.nil_append, true_and, and_true] at hQ) | (at_builtin; refine st_app rfl rfl rfl rfl ?_; (repeat (apply Exists.intro)); refine ⟨?_, ?_, ?_, ?_, ?_⟩; (· exact zsts2); (· exact zdst1); (· exact zsrc1); (· exact zlen1); intro vN wN hS; (try clear hQ); have hQ := St.facts hS; simp only [Facts, Res.fact, List.cons_append, List.nil_append, true_and, and_true] at hQ)
    go_cut [3] (fun s wx => St [] w wx [.own 5 1 (s) (pOp o ++ pBlock ⟨bk, ⟨vk, vn, ⟨wk, wn⟩⟩, bn⟩).length ((pOp o ++ pBlock ⟨bk, ⟨vk, vn, ⟨wk, wn⟩⟩, bn⟩).map B), .loc w2.heap.size [.bool false, .bool false, .bool false, .bool false, .bool false, .bool false, .bool false, .bool true, .bool false] 69, .loc w.heap.size [.int .i64 o, .int .i64 x, .int .i64 y, .int .u64 (u : Int), .int .i64 hk, .int .i64 hn, .int .i64 jk, .int .i64 jn, .bool n1, .bool n2, .slice ta ts.length tc, .slice la ls.length lc, .int .i64 bk, .int .i64 vk, .bool vn, .int .i64 wk, .int .i64 wn, .int .i64 bn, .slice ca cs.length cc] 44])
    case first =>
      rcases hB with hB | ⟨b1, b2, b3⟩ | ⟨b1, b2, b3⟩
      · injection hB with b1 b2 b3
        (try dsimp only at b1)
        have EB : Hid (pBlock ⟨bk, ⟨vk, vn, ⟨wk, wn⟩⟩, bn⟩ = [UInt8.ofNat (64 : Int).toNat]) := Lib.hid (by rw [b1]; rfl)
        subst b1
        clear b2 b3
        go_wp2_with first | (at_builtin; refine st_app rfl rfl rfl rfl ?_; (repeat (apply Exists.intro)); refine ⟨?_, ?_, ?_, ?_, ?_⟩; (· exact zsts2); (· exact zdst1); (· exact zsrc1); (· exact zlen1); intro vN wN hS; (try clear hQ); have hQ := St.facts hS; simp only [Facts, Res.fact, List.cons_append, List.nil_append, true_and, and_true] at hQ)
        go_meet
        rw [EB.out]
        exact hS.sel (by exact zsub1)
      · (try dsimp only at b1 b2 b3)
        subst b1
        have EB : Hid (pBlock ⟨1, ⟨vk, vn, ⟨wk, wn⟩⟩, bn⟩ = pVal ⟨vk, vn, ⟨wk, wn⟩⟩) := Lib.hid (by unfold pBlock; rw [if_pos rfl, valB_yes b2])
        have lB := pVal_len ⟨vk, vn, ⟨wk, wn⟩⟩ (plainVal_ok b2)
        subst b3
        have K1 := Lib.hid b2
        have hn1 : Loc _ w.heap.size ([.int .i64 o, .int .i64 x, .int .i64 y, .int .u64 (u : Int), .int .i64 hk, .int .i64 hn, .int .i64 jk, .int .i64 jn, .bool n1, .bool n2, .slice ta ts.length tc, .slice la ls.length lc, .int .i64 1, .int .i64 vk, .bool vn, .int .i64 wk, .int .i64 wn, .int .i64 0, .slice ca cs.length cc] : List Value) 44 := hS.loc (by exact zpk1)
        have hRow := row_of (o := 13) (cs := [.int .i64 vk, .bool vn, .int .i64 wk, .int .i64 wn]) (fun r hr => by
          have hr : r < 4 := hr
          rw [hn1.cell (13 + r)]
          rcases (show r = 0 ∨ r = 1 ∨ r = 2 ∨ r = 3 by omega) with rfl | rfl | rfl | rfl <;> rfl)
        clear b2 hn1
        go_wp2_with first | (at_builtin; refine st_app rfl rfl rfl rfl ?_; (repeat (apply Exists.intro)); refine ⟨?_, ?_, ?_, ?_, ?_⟩; (· exact zsts2); (· exact zdst1); (· exact zsrc1); (· exact zlen1); intro vN wN hS; (try clear hQ); have hQ := St.facts hS; simp only [Facts, Res.fact, List.cons_append, List.nil_append, true_and, and_true] at hQ) | (refine st_load (ty := 39) rfl rfl rfl und_valT rfl ?_; (repeat (apply Exists.intro)); refine ⟨?_, ?_, ?_, ?_⟩; (· exact zsts2); (· exact RowAt.elem hRow); (· rfl); (try simp only [List.set_cons_zero, List.set_cons_succ])) | (go_at_call 61; (with_reducible refine (rPutVal _ ⟨vk, vn, ⟨wk, wn⟩⟩ K1.out).mono ?_); rintro e w4 ⟨v4, rfl, s4⟩; refine st_go s4 ?_; (repeat (apply Exists.intro)); refine ⟨?_, ?_⟩; (· exact zsts2); (try simp only [World.size_alloc, World.size_setCell, size_drew, size_drewN]); intro hS; simp only [List.cons_append, List.nil_append] at hS; (try clear hQ); have hQ := St.facts hS; simp only [Facts, Res.fact, List.cons_append, List.nil_append, true_and, and_true] at hQ)
        go_meet
        rw [EB.out]
        exact hS.sel (by exact zsub1)
      · (try dsimp only at b1 b2 b3)
        subst b1
        have EB : Hid (pBlock ⟨2, ⟨vk, vn, ⟨wk, wn⟩⟩, bn⟩ = putS bn) := Lib.hid rfl
        have b3 := (idx_iff _).1 b3
        have lB := putS_len bn (by omega) (by omega)
        go_wp2_with first | (at_builtin; refine st_app rfl rfl rfl rfl ?_; (repeat (apply Exists.intro)); refine ⟨?_, ?_, ?_, ?_, ?_⟩; (· exact zsts2); (· exact zdst1); (· exact zsrc1); (· exact zlen1); intro vN wN hS; (try clear hQ); have hQ := St.facts hS; simp only [Facts, Res.fact, List.cons_append, List.nil_append, true_and, and_true] at hQ) | (go_at_call 59; (with_reducible refine (rPutS _ _ ?_ ?_).mono ?_); (· omega); (· omega); rintro e w4 ⟨v4, rfl, s4⟩; refine st_go s4 ?_; (repeat (apply Exists.intro)); refine ⟨?_, ?_⟩; (· exact zsts2); (try simp only [World.size_alloc, World.size_setCell, size_drew, size_drewN]); intro hS; simp only [List.cons_append, List.nil_append] at hS; (try clear hQ); have hQ := St.facts hS; simp only [Facts, Res.fact, List.cons_append, List.nil_append, true_and, and_true] at hQ)
        go_meet
        rw [EB.out]
        exact hS.sel (by exact zsub1)
    case rest =>
      clear hS
      have hS := hcut
      clear hcut
      (try clear hQ); have hQ := St.facts hS; simp only [Facts, Res.fact, List.cons_append, List.nil_append, true_and, and_true] at hQ
      go_wp2_with first | (at_builtin; refine st_app rfl rfl rfl rfl ?_; (repeat (apply Exists.intro)); refine ⟨?_, ?_, ?_, ?_, ?_⟩; (· exact zsts2); (· exact zdst1); (· exact zsrc1); (· exact zlen1); intro vN wN hS; (try clear hQ); have hQ := St.facts hS; simp only [Facts, Res.fact, List.cons_append, List.nil_append, true_and, and_true] at hQ)
      go_ret; refine ⟨_, rfl, ?_⟩; rw [E0.out, EP.out]; (try rw [EQ.out]); (try rw [← List.append_assoc]); (try rw [← List.append_assoc]); (try rw [← List.append_assoc]); exact hS.sel (by exact zsub1)
end Go.Proofs.YtokneepfknepaaaGreatDoor
