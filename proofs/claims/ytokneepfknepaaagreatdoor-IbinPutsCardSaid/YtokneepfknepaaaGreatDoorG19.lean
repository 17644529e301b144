/- The walk of the document's bytes of an instruction (layer 7). Made by tools/one.py. The walk of the document's Put (layer 7). -/
import Derived.Test.YtokneepfknepaaaGreatDoorG17
import Derived.Test.YtokneepfknepaaaGreatDoorG18
import Derived.Test.YtokneepfknepaaaGreatDoorG10
set_option linter.unusedSimpArgs false
set_option linter.unusedVariables false
namespace Go.Proofs.YtokneepfknepaaaGreatDoor
open Go.RowKit
set_option maxRecDepth 100000 in
set_option maxHeartbeats 25600000 in
theorem oneB3 (w : World) (o x y : Int) (u : Nat) (hk hn jk jn : Int) (n1 n2 : Bool) (ts : List ValT) (ls : List Int) (bk vk : Int) (vn : Bool) (wk wn bn : Int) (cs : List CatchT) (tv lv cv : Value) (hR : InsR [] w (⟨o, x, y, u, ⟨hk, hn⟩, ⟨jk, jn⟩, n1, n2, ts, ls, ⟨bk, ⟨vk, vn, ⟨wk, wn⟩⟩, bn⟩, cs⟩ : InstrT) tv lv cv)
    (hm : mayI (⟨o, x, y, u, ⟨hk, hn⟩, ⟨jk, jn⟩, n1, n2, ts, ls, ⟨bk, ⟨vk, vn, ⟨wk, wn⟩⟩, bn⟩, cs⟩ : InstrT) = true) (hs : SmI (⟨o, x, y, u, ⟨hk, hn⟩, ⟨jk, jn⟩, n1, n2, ts, ls, ⟨bk, ⟨vk, vn, ⟨wk, wn⟩⟩, bn⟩, cs⟩ : InstrT)) (h : shapeP o = 3) :
    Calls Tryz.prog 22 #[.agg (insC (⟨o, x, y, u, ⟨hk, hn⟩, ⟨jk, jn⟩, n1, n2, ts, ls, ⟨bk, ⟨vk, vn, ⟨wk, wn⟩⟩, bn⟩, cs⟩ : InstrT) tv lv cv).toArray] w fun e w' => ∃ v', e = .returned v' ∧ St [] w w' [.own 5 1 (v') (pInstr (⟨o, x, y, u, ⟨hk, hn⟩, ⟨jk, jn⟩, n1, n2, ts, ls, ⟨bk, ⟨vk, vn, ⟨wk, wn⟩⟩, bn⟩, cs⟩ : InstrT)).length ((pInstr (⟨o, x, y, u, ⟨hk, hn⟩, ⟨jk, jn⟩, n1, n2, ts, ls, ⟨bk, ⟨vk, vn, ⟨wk, wn⟩⟩, bn⟩, cs⟩ : InstrT)).map B)] := by
  have hb := shape_ok (mayI_shape hm)
  dsimp only at hb
  have ho0 := hb.1
  have ho1 : o < 251 ∨ o / 256 = 251 ∨ o / 256 = 252 := hb.2.1
  clear hb
  obtain ⟨tS, lS, cS⟩ := hR
  obtain ⟨ta, tc, rfl⟩ := tS.shape
  obtain ⟨la, lc, rfl⟩ := lS.shape
  obtain ⟨ca, cc, rfl⟩ := cS.shape
  dsimp only at tS lS cS
  obtain ⟨h1, h2, h3, h4⟩ := hs
  dsimp only at h1 h2 h3 h4
  have HM := Lib.hid hm
  clear hm
  have e0 : pInstr (⟨o, x, y, u, ⟨hk, hn⟩, ⟨jk, jn⟩, n1, n2, ts, ls, ⟨bk, ⟨vk, vn, ⟨wk, wn⟩⟩, bn⟩, cs⟩ : InstrT) = pOp o ++ pRest (⟨o, x, y, u, ⟨hk, hn⟩, ⟨jk, jn⟩, n1, n2, ts, ls, ⟨bk, ⟨vk, vn, ⟨wk, wn⟩⟩, bn⟩, cs⟩ : InstrT) := rfl
  have E0 := Lib.hid e0
  clear e0
  generalize pInstr (⟨o, x, y, u, ⟨hk, hn⟩, ⟨jk, jn⟩, n1, n2, ts, ls, ⟨bk, ⟨vk, vn, ⟨wk, wn⟩⟩, bn⟩, cs⟩ : InstrT) = Y at E0 ⊢
  have lP := pOp_len ho0
  have hS := (St.start [] w).alloc [.int .i64 o, .int .i64 x, .int .i64 y, .int .u64 (u : Int), .int .i64 hk, .int .i64 hn, .int .i64 jk, .int .i64 jn, .bool n1, .bool n2, .slice ta ts.length tc, .slice la ls.length lc, .int .i64 bk, .int .i64 vk, .bool vn, .int .i64 wk, .int .i64 wn, .int .i64 bn, .slice ca cs.length cc] 44
  unfold insC
  dsimp only
  go_enter Tryz.func22, Tryz.ntmps22
  go_upto_if 18 with fail
  have hS := hS.alloc [.int .u8 (o % 256)] 5
  go_cut [3] (fun s wx => St [] w wx [.own 5 1 (s) (pOp o).length ((pOp o).map B), .loc w.heap.size [.int .i64 o, .int .i64 x, .int .i64 y, .int .u64 (u : Int), .int .i64 hk, .int .i64 hn, .int .i64 jk, .int .i64 jn, .bool n1, .bool n2, .slice ta ts.length tc, .slice la ls.length lc, .int .i64 bk, .int .i64 vk, .bool vn, .int .i64 wk, .int .i64 wn, .int .i64 bn, .slice ca cs.length cc] 44])
  case first =>
    (try clear hQ); have hQ := St.facts hS; simp only [Facts, Res.fact, List.cons_append, List.nil_append, true_and, and_true] at hQ
    by_cases h8 : o < 256
    · have i1 : ¬ ((255 : Int) < o) := by omega
      go_wp2_with fail
      go_meet
      have hS := hS.dst (.lit .here (by omega))
      rw [show pOp o = [UInt8.ofNat (o % 256).toNat] by unfold pOp; rw [if_pos h8, show o % 256 = o by omega]]
      exact hS.sel (by exact zsub1)
    · have i1 : (255 : Int) < o := by omega
      have i2 : 0 ≤ o / 256 ∧ o / 256 < 256 := by omega
      have lX := pNum_len (o % 256) (by omega)
      have HT : Hid (o.tmod 256 = o % 256) := Lib.hid (Int.tmod_eq_emod_of_nonneg ho0)
      have hq : IntKind.u8.wrap (IntKind.i64.wrap (o.tdiv 256)) = o / 256 := by
        rw [Int.tdiv_eq_ediv_of_nonneg ho0, show IntKind.i64.wrap (o / 256) = o / 256 by rw [IntKind.wrap_i64]; omega]
        show (o / 256) % 256 = o / 256
        omega
      have i3 : 0 ≤ IntKind.u8.wrap (IntKind.i64.wrap (o.tdiv 256)) ∧ IntKind.u8.wrap (IntKind.i64.wrap (o.tdiv 256)) < 256 := by rw [hq]; omega
      have HP : Hid (pOp o = [UInt8.ofNat (IntKind.u8.wrap (IntKind.i64.wrap (o.tdiv 256))).toNat] ++ pNum (o % 256)) := Lib.hid (by unfold pOp; rw [if_neg h8, hq]; rfl)
      clear hq
      go_wp2_with fail
      go_region_held3 (fun w' => w'.cell? ⟨w.heap.size, 0, none⟩ = some (.int .i64 o)) (first | (go_keep; done) | (simp [hQ]; done)) (first | (refine step_st rfl rfl rfl rfl ?_; (repeat (apply Exists.intro)); refine ⟨?_, ?_, ?_, ?_, ?_⟩; (· exact zsts2); (· exact zdst1); (· exact zsrc1); (· exact zlen1); intro vN wN hS; (try clear hQ); have hQ := St.facts hS; simp only [Facts, Res.fact, List.cons_append, List.nil_append, true_and, and_true] at hQ) | (go_at_call 57; rw [HT.out]; (with_reducible refine (refU_any _ (o % 256) (by omega) (by omega)).mono ?_); rintro e w4 ⟨v4, rfl, s4⟩; refine st_go s4 ?_; (repeat (apply Exists.intro)); refine ⟨?_, ?_⟩; (· exact zsts2); (try simp only [World.size_alloc, World.size_setCell, size_drew, size_drewN]); intro hS; simp only [List.cons_append, List.nil_append] at hS; (try clear hQ); have hQ := St.facts hS; simp only [Facts, Res.fact, List.cons_append, List.nil_append, true_and, and_true] at hQ))
      all_goals
        go_wp2_with fail
        go_meet
        rw [HP.out]
        exact hS.sel (by exact zsub1)
  case rest =>
    clear hS
    have hS := hcut
    clear hcut
    (try clear hQ); have hQ := St.facts hS; simp only [Facts, Res.fact, List.cons_append, List.nil_append, true_and, and_true] at hQ
    have HK := Lib.hid h
    have HN : Hid (nineC 3 = [.bool false, .bool false, .bool false, .bool false, .bool false, .bool false, .bool false, .bool true, .bool true]) := Lib.hid rfl
    have EP : Hid (pRest (⟨o, x, y, u, ⟨hk, hn⟩, ⟨jk, jn⟩, n1, n2, ts, ls, ⟨bk, ⟨vk, vn, ⟨wk, wn⟩⟩, bn⟩, cs⟩ : InstrT) = pBlock ⟨bk, ⟨vk, vn, ⟨wk, wn⟩⟩, bn⟩ ++ pNum ((cs.length : Nat) : Int) ++ cs.flatMap pCatch) := Lib.hid (by rw [rest3 h]; simp [pList, pNum])
    have hp := may_inv HM.out (part3 (i := (⟨o, x, y, u, ⟨hk, hn⟩, ⟨jk, jn⟩, n1, n2, ts, ls, ⟨bk, ⟨vk, vn, ⟨wk, wn⟩⟩, bn⟩, cs⟩ : InstrT)) h)
    have hp1 := hp.1
    simp only [Bool.and_eq_true] at hp1
    have hB := (mayBlock_iff ⟨bk, ⟨vk, vn, ⟨wk, wn⟩⟩, bn⟩).1 hp1.1
    have lB := pBlock_len (b := ⟨bk, ⟨vk, vn, ⟨wk, wn⟩⟩, bn⟩) hp1.1
    have hL := Lib.hid hp1.2
    clear hp1
    clear hp
    clear h HM
    go_upto_if 126 with first | (go_at_call 34; (with_reducible refine (refShape_any _ o).mono ?_); rintro e w1 ⟨rfl, hw1⟩; subst w1; (try rw [HK.out])) | (go_at_call 35; (with_reducible refine (refHas_any _ _ ?_ ?_).mono ?_); (· omega); (· omega); rintro e w2 ⟨rfl, hF2⟩; refine st_fr hF2 ?_; (repeat (apply Exists.intro)); refine ⟨?_, ?_⟩; (· exact zsts2); (try simp only [World.size_alloc, World.size_setCell, size_drew, size_drewN]); intro hS; (try clear hQ); have hQ := St.facts hS; simp only [Facts, Res.fact, List.cons_append, List.nil_append, true_and, and_true] at hQ; rw [HN.out]) | (refine st_store (ty := 69) rfl rfl rfl rfl ?_; (repeat (apply Exists.intro)); refine ⟨?_, ?_, ?_, ?_, ?_, ?_⟩; (· exact zsts2); (· (try simp only [World.size_alloc, World.size_setCell, size_drew, size_drewN]); (exact zpk1)); (· rfl); (· exact size_nine); (· simp [Value.oneCell']); intro wN hS; (try clear hQ); have hQ := St.facts hS; simp only [Facts, Res.fact, List.cons_append, List.nil_append, true_and, and_true] at hQ) | (at_builtin; refine st_app rfl rfl rfl rfl ?_; (repeat (apply Exists.intro)); refine ⟨?_, ?_, ?_, ?_, ?_⟩; (· exact zsts2); (· exact zdst1); (· exact zsrc1); (· exact zlen1); intro vN wN hS; (try clear hQ); have hQ := St.facts hS; simp only [Facts, Res.fact, List.cons_append, List.nil_append, true_and, and_true] at hQ)
    go_cut [3] (fun s wx => St [] w wx [.own 5 1 (s) (pOp o ++ pBlock ⟨bk, ⟨vk, vn, ⟨wk, wn⟩⟩, bn⟩).length ((pOp o ++ pBlock ⟨bk, ⟨vk, vn, ⟨wk, wn⟩⟩, bn⟩).map B), .loc w2.heap.size [.bool false, .bool false, .bool false, .bool false, .bool false, .bool false, .bool false, .bool true, .bool true] 69, .loc w.heap.size [.int .i64 o, .int .i64 x, .int .i64 y, .int .u64 (u : Int), .int .i64 hk, .int .i64 hn, .int .i64 jk, .int .i64 jn, .bool n1, .bool n2, .slice ta ts.length tc, .slice la ls.length lc, .int .i64 bk, .int .i64 vk, .bool vn, .int .i64 wk, .int .i64 wn, .int .i64 bn, .slice ca cs.length cc] 44])
    case first =>
      rcases hB with hB | ⟨b1, b2, b3⟩ | ⟨b1, b2, b3⟩
      · injection hB with b1 b2 b3
        (try dsimp only at b1)
        have EB : Hid (pBlock ⟨bk, ⟨vk, vn, ⟨wk, wn⟩⟩, bn⟩ = [UInt8.ofNat (64 : Int).toNat]) := Lib.hid (by rw [b1]; rfl)
        subst b1
        clear b2 b3
        go_wp2_with first | (at_builtin; refine st_app rfl rfl rfl rfl ?_; (repeat (apply Exists.intro)); refine ⟨?_, ?_, ?_, ?_, ?_⟩; (· exact zsts2); (· exact zdst1); (· exact zsrc1); (· exact zlen1); intro vN wN hS; (try clear hQ); have hQ := St.facts hS; simp only [Facts, Res.fact, List.cons_append, List.nil_append, true_and, and_true] at hQ)
        go_meet
        rw [EB.out]
        exact hS.sel (by exact zsub1)
      · (try dsimp only at b1 b2 b3)
        subst b1
        have EB : Hid (pBlock ⟨1, ⟨vk, vn, ⟨wk, wn⟩⟩, bn⟩ = pVal ⟨vk, vn, ⟨wk, wn⟩⟩) := Lib.hid (by unfold pBlock; rw [if_pos rfl, valB_yes b2])
        have lB := pVal_len ⟨vk, vn, ⟨wk, wn⟩⟩ (plainVal_ok b2)
        subst b3
        have K1 := Lib.hid b2
        have hn1 : Loc _ w.heap.size ([.int .i64 o, .int .i64 x, .int .i64 y, .int .u64 (u : Int), .int .i64 hk, .int .i64 hn, .int .i64 jk, .int .i64 jn, .bool n1, .bool n2, .slice ta ts.length tc, .slice la ls.length lc, .int .i64 1, .int .i64 vk, .bool vn, .int .i64 wk, .int .i64 wn, .int .i64 0, .slice ca cs.length cc] : List Value) 44 := hS.loc (by exact zpk1)
        have hRow := row_of (o := 13) (cs := [.int .i64 vk, .bool vn, .int .i64 wk, .int .i64 wn]) (fun r hr => by
          have hr : r < 4 := hr
          rw [hn1.cell (13 + r)]
          rcases (show r = 0 ∨ r = 1 ∨ r = 2 ∨ r = 3 by omega) with rfl | rfl | rfl | rfl <;> rfl)
        clear b2 hn1
        go_wp2_with first | (at_builtin; refine st_app rfl rfl rfl rfl ?_; (repeat (apply Exists.intro)); refine ⟨?_, ?_, ?_, ?_, ?_⟩; (· exact zsts2); (· exact zdst1); (· exact zsrc1); (· exact zlen1); intro vN wN hS; (try clear hQ); have hQ := St.facts hS; simp only [Facts, Res.fact, List.cons_append, List.nil_append, true_and, and_true] at hQ) | (refine st_load (ty := 39) rfl rfl rfl und_valT rfl ?_; (repeat (apply Exists.intro)); refine ⟨?_, ?_, ?_, ?_⟩; (· exact zsts2); (· exact RowAt.elem hRow); (· rfl); (try simp only [List.set_cons_zero, List.set_cons_succ])) | (go_at_call 61; (with_reducible refine (rPutVal _ ⟨vk, vn, ⟨wk, wn⟩⟩ K1.out).mono ?_); rintro e w4 ⟨v4, rfl, s4⟩; refine st_go s4 ?_; (repeat (apply Exists.intro)); refine ⟨?_, ?_⟩; (· exact zsts2); (try simp only [World.size_alloc, World.size_setCell, size_drew, size_drewN]); intro hS; simp only [List.cons_append, List.nil_append] at hS; (try clear hQ); have hQ := St.facts hS; simp only [Facts, Res.fact, List.cons_append, List.nil_append, true_and, and_true] at hQ)
        go_meet
        rw [EB.out]
        exact hS.sel (by exact zsub1)
      · (try dsimp only at b1 b2 b3)
        subst b1
        have EB : Hid (pBlock ⟨2, ⟨vk, vn, ⟨wk, wn⟩⟩, bn⟩ = putS bn) := Lib.hid rfl
        have b3 := (idx_iff _).1 b3
        have lB := putS_len bn (by omega) (by omega)
        go_wp2_with first | (at_builtin; refine st_app rfl rfl rfl rfl ?_; (repeat (apply Exists.intro)); refine ⟨?_, ?_, ?_, ?_, ?_⟩; (· exact zsts2); (· exact zdst1); (· exact zsrc1); (· exact zlen1); intro vN wN hS; (try clear hQ); have hQ := St.facts hS; simp only [Facts, Res.fact, List.cons_append, List.nil_append, true_and, and_true] at hQ) | (go_at_call 59; (with_reducible refine (rPutS _ _ ?_ ?_).mono ?_); (· omega); (· omega); rintro e w4 ⟨v4, rfl, s4⟩; refine st_go s4 ?_; (repeat (apply Exists.intro)); refine ⟨?_, ?_⟩; (· exact zsts2); (try simp only [World.size_alloc, World.size_setCell, size_drew, size_drewN]); intro hS; simp only [List.cons_append, List.nil_append] at hS; (try clear hQ); have hQ := St.facts hS; simp only [Facts, Res.fact, List.cons_append, List.nil_append, true_and, and_true] at hQ)
        go_meet
        rw [EB.out]
        exact hS.sel (by exact zsub1)
    case rest =>
      clear hS
      have hS := hcut
      clear hcut
      (try clear hQ); have hQ := St.facts hS; simp only [Facts, Res.fact, List.cons_append, List.nil_append, true_and, and_true] at hQ
      have lN := pNum_len ((cs.length : Nat) : Int) (by omega)
      go_wp2_with first | (at_builtin; refine st_app rfl rfl rfl rfl ?_; (repeat (apply Exists.intro)); refine ⟨?_, ?_, ?_, ?_, ?_⟩; (· exact zsts2); (· exact zdst1); (· exact zsrc1); (· exact zlen1); intro vN wN hS; (try clear hQ); have hQ := St.facts hS; simp only [Facts, Res.fact, List.cons_append, List.nil_append, true_and, and_true] at hQ) | (go_at_call 57; (with_reducible refine (refU_any _ _ ?_ ?_).mono ?_); (· omega); (· omega); rintro e w4 ⟨v4, rfl, s4⟩; refine st_go s4 ?_; (repeat (apply Exists.intro)); refine ⟨?_, ?_⟩; (· exact zsts2); (try simp only [World.size_alloc, World.size_setCell, size_drew, size_drewN]); intro hS; simp only [List.cons_append, List.nil_append] at hS; (try clear hQ); have hQ := St.facts hS; simp only [Facts, Res.fact, List.cons_append, List.nil_append, true_and, and_true] at hQ)
      go_loopw [3, 9] (fun v n wr => ∃ (k : Nat), n = .int .i64 k ∧ k ≤ cs.length ∧ St [] w wr [.own 5 1 (v) (pOp o ++ pBlock ⟨bk, ⟨vk, vn, ⟨wk, wn⟩⟩, bn⟩ ++ pNum ((cs.length : Nat) : Int) ++ (cs.take k).flatMap pCatch).length ((pOp o ++ pBlock ⟨bk, ⟨vk, vn, ⟨wk, wn⟩⟩, bn⟩ ++ pNum ((cs.length : Nat) : Int) ++ (cs.take k).flatMap pCatch).map B), .loc w2.heap.size [.bool false, .bool false, .bool false, .bool false, .bool false, .bool false, .bool false, .bool true, .bool true] 69, .loc w.heap.size [.int .i64 o, .int .i64 x, .int .i64 y, .int .u64 (u : Int), .int .i64 hk, .int .i64 hn, .int .i64 jk, .int .i64 jn, .bool n1, .bool n2, .slice ta ts.length tc, .slice la ls.length lc, .int .i64 bk, .int .i64 vk, .bool vn, .int .i64 wk, .int .i64 wn, .int .i64 bn, .slice ca cs.length cc] 44]) (fun _ n _ => cs.length - (intOf n).toNat)
      case atStart =>
        refine ⟨0, rfl, by omega, ?_⟩
        rw [show pOp o ++ pBlock ⟨bk, ⟨vk, vn, ⟨wk, wn⟩⟩, bn⟩ ++ pNum ((cs.length : Nat) : Int) ++ (cs.take 0).flatMap pCatch = pOp o ++ pBlock ⟨bk, ⟨vk, vn, ⟨wk, wn⟩⟩, bn⟩ ++ pNum ((cs.length : Nat) : Int) from by simp]
        exact hS.sel (by exact zsub1)
      case round =>
        obtain ⟨k, rfl, hk2, hS⟩ := hrel
        (try clear hQ); have hQ := St.facts hS; simp only [Facts, Res.fact, List.cons_append, List.nil_append, true_and, and_true] at hQ
        have lK : ((cs.take k).flatMap pCatch).length ≤ (cs.take k).length * 21 := flat_len7 _ fun n hn => pCatch_len (List.all_eq_true.1 hL.out n (List.mem_of_mem_take hn))
        rw [List.length_take] at lK
        by_cases hlt : k < cs.length
        · obtain ⟨m, hm⟩ : ∃ t, cs[k]? = some t := ⟨cs[k], by simp [hlt]⟩
          obtain ⟨b, off, cap2, hv, hb, hnS, hc⟩ := Sl.elem cS (fun _ => rfl) k m hm
          injection hv with hv1 hv2 hv3
          subst hv1 hv3
          have hRow : wr.rangeAt b (off + k * 3) (catchC m) := row_of fun r hr => by
            rw [Nat.add_assoc]
            exact (hS.fr.cell hb (by simp) _).trans (hc r hr)
          obtain ⟨m1, m2, m3, m4⟩ := (mayCatch_iff m).1 (List.all_eq_true.1 hL.out m (List.mem_of_getElem? hm))
          have m3 := (idx_iff _).1 m3
          have e : pOp o ++ pBlock ⟨bk, ⟨vk, vn, ⟨wk, wn⟩⟩, bn⟩ ++ pNum ((cs.length : Nat) : Int) ++ (cs.take (k + 1)).flatMap pCatch = pOp o ++ pBlock ⟨bk, ⟨vk, vn, ⟨wk, wn⟩⟩, bn⟩ ++ pNum ((cs.length : Nat) : Int) ++ (cs.take k).flatMap pCatch ++ pCatch m := by
            rw [List.take_add_one, hm]; simp
          have E := Lib.hid e
          clear e hm
          obtain ⟨mk, mt, ml⟩ := m
          unfold catchC at hRow
          dsimp only at m1 m2 m3 m4 hRow
          have lL := pNum_len ml (by omega)
          by_cases hk1 : mk < 2
          · rw [if_pos hk1] at m4
            have m4 := (idx_iff _).1 m4
            have lT := pNum_len mt (by omega)
            have EC : Hid (pCatch ⟨mk, mt, ml⟩ = [UInt8.ofNat mk.toNat] ++ pNum mt ++ pNum ml) := Lib.hid (by simp [pCatch, hk1])
            go_wp2_with first | (at_builtin; refine st_app rfl rfl rfl rfl ?_; (repeat (apply Exists.intro)); refine ⟨?_, ?_, ?_, ?_, ?_⟩; (· exact zsts2); (· exact zdst1); (· exact zsrc1); (· exact zlen1); intro vN wN hS; (try clear hQ); have hQ := St.facts hS; simp only [Facts, Res.fact, List.cons_append, List.nil_append, true_and, and_true] at hQ) | (go_at_call 57; (with_reducible refine (refU_any _ _ ?_ ?_).mono ?_); (· omega); (· omega); rintro e w4 ⟨v4, rfl, s4⟩; refine st_go s4 ?_; (repeat (apply Exists.intro)); refine ⟨?_, ?_⟩; (· exact zsts2); (try simp only [World.size_alloc, World.size_setCell, size_drew, size_drewN]); intro hS; simp only [List.cons_append, List.nil_append] at hS; (try clear hQ); have hQ := St.facts hS; simp only [Facts, Res.fact, List.cons_append, List.nil_append, true_and, and_true] at hQ) | (refine st_load (ty := 67) rfl rfl rfl und_catT rfl ?_; (repeat (apply Exists.intro)); refine ⟨?_, ?_, ?_, ?_⟩; (· exact zsts2); (· exact RowAt.elem hRow); (· exact size_catT); (try simp only [List.set_cons_zero, List.set_cons_succ])) | (refine st_store (ty := 67) rfl rfl rfl rfl ?_; (repeat (apply Exists.intro)); refine ⟨?_, ?_, ?_, ?_, ?_, ?_⟩; (· exact zsts2); (· (try simp only [World.size_alloc, World.size_setCell, size_drew, size_drewN]); (exact zpk1)); (· rfl); (· exact size_catT); (· simp [Value.oneCell']); intro wN hS; (try clear hQ); have hQ := St.facts hS; simp only [Facts, Res.fact, List.cons_append, List.nil_append, true_and, and_true] at hQ)
            go_roundw
            case rel =>
              refine ⟨k + 1, by go_num, by omega, ?_⟩
              rw [E.out, EC.out]
              (try rw [← List.append_assoc]); (try rw [← List.append_assoc])
              exact hS.sel (by exact zsub1)
            case measure => simp [intOf]; omega
          · rw [if_neg hk1] at m4
            have EC : Hid (pCatch ⟨mk, mt, ml⟩ = [UInt8.ofNat mk.toNat] ++ pNum ml) := Lib.hid (by simp [pCatch, hk1])
            go_wp2_with first | (at_builtin; refine st_app rfl rfl rfl rfl ?_; (repeat (apply Exists.intro)); refine ⟨?_, ?_, ?_, ?_, ?_⟩; (· exact zsts2); (· exact zdst1); (· exact zsrc1); (· exact zlen1); intro vN wN hS; (try clear hQ); have hQ := St.facts hS; simp only [Facts, Res.fact, List.cons_append, List.nil_append, true_and, and_true] at hQ) | (go_at_call 57; (with_reducible refine (refU_any _ _ ?_ ?_).mono ?_); (· omega); (· omega); rintro e w4 ⟨v4, rfl, s4⟩; refine st_go s4 ?_; (repeat (apply Exists.intro)); refine ⟨?_, ?_⟩; (· exact zsts2); (try simp only [World.size_alloc, World.size_setCell, size_drew, size_drewN]); intro hS; simp only [List.cons_append, List.nil_append] at hS; (try clear hQ); have hQ := St.facts hS; simp only [Facts, Res.fact, List.cons_append, List.nil_append, true_and, and_true] at hQ) | (refine st_load (ty := 67) rfl rfl rfl und_catT rfl ?_; (repeat (apply Exists.intro)); refine ⟨?_, ?_, ?_, ?_⟩; (· exact zsts2); (· exact RowAt.elem hRow); (· exact size_catT); (try simp only [List.set_cons_zero, List.set_cons_succ])) | (refine st_store (ty := 67) rfl rfl rfl rfl ?_; (repeat (apply Exists.intro)); refine ⟨?_, ?_, ?_, ?_, ?_, ?_⟩; (· exact zsts2); (· (try simp only [World.size_alloc, World.size_setCell, size_drew, size_drewN]); (exact zpk1)); (· rfl); (· exact size_catT); (· simp [Value.oneCell']); intro wN hS; (try clear hQ); have hQ := St.facts hS; simp only [Facts, Res.fact, List.cons_append, List.nil_append, true_and, and_true] at hQ)
            go_roundw
            case rel =>
              refine ⟨k + 1, by go_num, by omega, ?_⟩
              rw [E.out, EC.out]
              (try rw [← List.append_assoc]); (try rw [← List.append_assoc])
              exact hS.sel (by exact zsub1)
            case measure => simp [intOf]; omega
        · obtain rfl : k = cs.length := by omega
          rw [List.take_length] at hS lK
          go_wp2_with first | (at_builtin; refine st_app rfl rfl rfl rfl ?_; (repeat (apply Exists.intro)); refine ⟨?_, ?_, ?_, ?_, ?_⟩; (· exact zsts2); (· exact zdst1); (· exact zsrc1); (· exact zlen1); intro vN wN hS; (try clear hQ); have hQ := St.facts hS; simp only [Facts, Res.fact, List.cons_append, List.nil_append, true_and, and_true] at hQ)
          go_ret; refine ⟨_, rfl, ?_⟩; rw [E0.out, EP.out]; (try rw [EQ.out]); (try rw [← List.append_assoc]); (try rw [← List.append_assoc]); (try rw [← List.append_assoc]); exact hS.sel (by exact zsub1)
set_option maxRecDepth 100000 in
set_option maxHeartbeats 25600000 in
theorem oneB13 (w : World) (o x y : Int) (u : Nat) (hk hn jk jn : Int) (n1 n2 : Bool) (ts : List ValT) (ls : List Int) (bk vk : Int) (vn : Bool) (wk wn bn : Int) (cs : List CatchT) (tv lv cv : Value) (hR : InsR [] w (⟨o, x, y, u, ⟨hk, hn⟩, ⟨jk, jn⟩, n1, n2, ts, ls, ⟨bk, ⟨vk, vn, ⟨wk, wn⟩⟩, bn⟩, cs⟩ : InstrT) tv lv cv)
    (hm : mayI (⟨o, x, y, u, ⟨hk, hn⟩, ⟨jk, jn⟩, n1, n2, ts, ls, ⟨bk, ⟨vk, vn, ⟨wk, wn⟩⟩, bn⟩, cs⟩ : InstrT) = true) (hs : SmI (⟨o, x, y, u, ⟨hk, hn⟩, ⟨jk, jn⟩, n1, n2, ts, ls, ⟨bk, ⟨vk, vn, ⟨wk, wn⟩⟩, bn⟩, cs⟩ : InstrT)) (h : shapeP o = 13) :
    Calls Tryz.prog 22 #[.agg (insC (⟨o, x, y, u, ⟨hk, hn⟩, ⟨jk, jn⟩, n1, n2, ts, ls, ⟨bk, ⟨vk, vn, ⟨wk, wn⟩⟩, bn⟩, cs⟩ : InstrT) tv lv cv).toArray] w fun e w' => ∃ v', e = .returned v' ∧ St [] w w' [.own 5 1 (v') (pInstr (⟨o, x, y, u, ⟨hk, hn⟩, ⟨jk, jn⟩, n1, n2, ts, ls, ⟨bk, ⟨vk, vn, ⟨wk, wn⟩⟩, bn⟩, cs⟩ : InstrT)).length ((pInstr (⟨o, x, y, u, ⟨hk, hn⟩, ⟨jk, jn⟩, n1, n2, ts, ls, ⟨bk, ⟨vk, vn, ⟨wk, wn⟩⟩, bn⟩, cs⟩ : InstrT)).map B)] := by
  have hb := shape_ok (mayI_shape hm)
  dsimp only at hb
  have ho0 := hb.1
  have ho1 : o < 251 ∨ o / 256 = 251 ∨ o / 256 = 252 := hb.2.1
  clear hb
  obtain ⟨tS, lS, cS⟩ := hR
  obtain ⟨ta, tc, rfl⟩ := tS.shape
  obtain ⟨la, lc, rfl⟩ := lS.shape
  obtain ⟨ca, cc, rfl⟩ := cS.shape
  dsimp only at tS lS cS
  obtain ⟨h1, h2, h3, h4⟩ := hs
  dsimp only at h1 h2 h3 h4
  have HM := Lib.hid hm
  clear hm
  have e0 : pInstr (⟨o, x, y, u, ⟨hk, hn⟩, ⟨jk, jn⟩, n1, n2, ts, ls, ⟨bk, ⟨vk, vn, ⟨wk, wn⟩⟩, bn⟩, cs⟩ : InstrT) = pOp o ++ pRest (⟨o, x, y, u, ⟨hk, hn⟩, ⟨jk, jn⟩, n1, n2, ts, ls, ⟨bk, ⟨vk, vn, ⟨wk, wn⟩⟩, bn⟩, cs⟩ : InstrT) := rfl
  have E0 := Lib.hid e0
  clear e0
  generalize pInstr (⟨o, x, y, u, ⟨hk, hn⟩, ⟨jk, jn⟩, n1, n2, ts, ls, ⟨bk, ⟨vk, vn, ⟨wk, wn⟩⟩, bn⟩, cs⟩ : InstrT) = Y at E0 ⊢
  have lP := pOp_len ho0
  have hS := (St.start [] w).alloc [.int .i64 o, .int .i64 x, .int .i64 y, .int .u64 (u : Int), .int .i64 hk, .int .i64 hn, .int .i64 jk, .int .i64 jn, .bool n1, .bool n2, .slice ta ts.length tc, .slice la ls.length lc, .int .i64 bk, .int .i64 vk, .bool vn, .int .i64 wk, .int .i64 wn, .int .i64 bn, .slice ca cs.length cc] 44
  unfold insC
  dsimp only
  go_enter Tryz.func22, Tryz.ntmps22
  go_upto_if 18 with fail
  have hS := hS.alloc [.int .u8 (o % 256)] 5
  go_cut [3] (fun s wx => St [] w wx [.own 5 1 (s) (pOp o).length ((pOp o).map B), .loc w.heap.size [.int .i64 o, .int .i64 x, .int .i64 y, .int .u64 (u : Int), .int .i64 hk, .int .i64 hn, .int .i64 jk, .int .i64 jn, .bool n1, .bool n2, .slice ta ts.length tc, .slice la ls.length lc, .int .i64 bk, .int .i64 vk, .bool vn, .int .i64 wk, .int .i64 wn, .int .i64 bn, .slice ca cs.length cc] 44])
  case first =>
    (try clear hQ); have hQ := St.facts hS; simp only [Facts, Res.fact, List.cons_append, List.nil_append, true_and, and_true] at hQ
    by_cases h8 : o < 256
    · have i1 : ¬ ((255 : Int) < o) := by omega
      go_wp2_with fail
      go_meet
      have hS := hS.dst (.lit .here (by omega))
      rw [show pOp o = [UInt8.ofNat (o % 256).toNat] by unfold pOp; rw [if_pos h8, show o % 256 = o by omega]]
      exact hS.sel (by exact zsub1)
    · have i1 : (255 : Int) < o := by omega
      have i2 : 0 ≤ o / 256 ∧ o / 256 < 256 := by omega
      have lX := pNum_len (o % 256) (by omega)
      have HT : Hid (o.tmod 256 = o % 256) := Lib.hid (Int.tmod_eq_emod_of_nonneg ho0)
      have hq : IntKind.u8.wrap (IntKind.i64.wrap (o.tdiv 256)) = o / 256 := by
        rw [Int.tdiv_eq_ediv_of_nonneg ho0, show IntKind.i64.wrap (o / 256) = o / 256 by rw [IntKind.wrap_i64]; omega]
        show (o / 256) % 256 = o / 256
        omega
      have i3 : 0 ≤ IntKind.u8.wrap (IntKind.i64.wrap (o.tdiv 256)) ∧ IntKind.u8.wrap (IntKind.i64.wrap (o.tdiv 256)) < 256 := by rw [hq]; omega
      have HP : Hid (pOp o = [UInt8.ofNat (IntKind.u8.wrap (IntKind.i64.wrap (o.tdiv 256))).toNat] ++ pNum (o % 256)) := Lib.hid (by unfold pOp; rw [if_neg h8, hq]; rfl)
      clear hq
      go_wp2_with fail
      go_region_held3 (fun w' => w'.cell? ⟨w.heap.size, 0, none⟩ = some (.int .i64 o)) (first | (go_keep; done) | (simp [hQ]; done)) (first | (refine step_st rfl rfl rfl rfl ?_; (repeat (apply Exists.intro)); refine ⟨?_, ?_, ?_, ?_, ?_⟩; (· exact zsts2); (· exact zdst1); (· exact zsrc1); (· exact zlen1); intro vN wN hS; (try clear hQ); have hQ := St.facts hS; simp only [Facts, Res.fact, List.cons_append, List.nil_append, true_and, and_true] at hQ) | (go_at_call 57; rw [HT.out]; (with_reducible refine (refU_any _ (o % 256) (by omega) (by omega)).mono ?_); rintro e w4 ⟨v4, rfl, s4⟩; refine st_go s4 ?_; (repeat (apply Exists.intro)); refine ⟨?_, ?_⟩; (· exact zsts2); (try simp only [World.size_alloc, World.size_setCell, size_drew, size_drewN]); intro hS; simp only [List.cons_append, List.nil_append] at hS; (try clear hQ); have hQ := St.facts hS; simp only [Facts, Res.fact, List.cons_append, List.nil_append, true_and, and_true] at hQ))
      all_goals
        go_wp2_with fail
        go_meet
        rw [HP.out]
        exact hS.sel (by exact zsub1)
  case rest =>
    clear hS
    have hS := hcut
    clear hcut
    (try clear hQ); have hQ := St.facts hS; simp only [Facts, Res.fact, List.cons_append, List.nil_append, true_and, and_true] at hQ
    have HK := Lib.hid h
    have HN : Hid (nineC 13 = [.bool true, .bool false, .bool false, .bool true, .bool true, .bool false, .bool false, .bool false, .bool false]) := Lib.hid rfl
    have EP : Hid (pRest (⟨o, x, y, u, ⟨hk, hn⟩, ⟨jk, jn⟩, n1, n2, ts, ls, ⟨bk, ⟨vk, vn, ⟨wk, wn⟩⟩, bn⟩, cs⟩ : InstrT) = [pNulls n1 n2] ++ (pNum x ++ (heapB ⟨hk, hn⟩ ++ heapB ⟨jk, jn⟩))) := Lib.hid (rest13 h)
    have hp := may_inv HM.out (part13 (i := (⟨o, x, y, u, ⟨hk, hn⟩, ⟨jk, jn⟩, n1, n2, ts, ls, ⟨bk, ⟨vk, vn, ⟨wk, wn⟩⟩, bn⟩, cs⟩ : InstrT)) h)
    have hp1 := hp.1
    simp only [Bool.and_eq_true, idx_iff] at hp1
    obtain ⟨⟨hX, k1⟩, k2⟩ := hp1
    have k1 : plainVal ⟨3, false, ⟨hk, hn⟩⟩ = true := k1
    have k2 : plainVal ⟨3, false, ⟨jk, jn⟩⟩ = true := k2
    clear hp
    clear h HM
    rw [heapB_yes k1, heapB_yes k2] at EP
    have K1 : refH ⟨hk, hn⟩ = true := by rw [← refH_plain false]; exact k1
    have K2 : refH ⟨jk, jn⟩ = true := by rw [← refH_plain false]; exact k2
    have l1 := pHeap_len' K1
    have l2 := pHeap_len' K2
    have lX := pNum_len x (by omega)
    clear k1 k2
    have K1 := Lib.hid K1
    have K2 := Lib.hid K2
    rcases n1 with _ | _ <;> rcases n2 with _ | _
    · have EQ : Hid (pOp o ++ ([pNulls false false] ++ (pNum x ++ (pHeap ⟨hk, hn⟩ ++ pHeap ⟨jk, jn⟩))) = pOp o ++ [UInt8.ofNat (0 : Int).toNat] ++ pNum x ++ pHeap ⟨hk, hn⟩ ++ pHeap ⟨jk, jn⟩) := Lib.hid (by simp [pNulls])
      go_wp2_with first | (go_at_call 34; (with_reducible refine (refShape_any _ o).mono ?_); rintro e w1 ⟨rfl, hw1⟩; subst w1; (try rw [HK.out])) | (go_at_call 35; (with_reducible refine (refHas_any _ _ ?_ ?_).mono ?_); (· omega); (· omega); rintro e w2 ⟨rfl, hF2⟩; refine st_fr hF2 ?_; (repeat (apply Exists.intro)); refine ⟨?_, ?_⟩; (· exact zsts2); (try simp only [World.size_alloc, World.size_setCell, size_drew, size_drewN]); intro hS; (try clear hQ); have hQ := St.facts hS; simp only [Facts, Res.fact, List.cons_append, List.nil_append, true_and, and_true] at hQ; rw [HN.out]) | (refine st_store (ty := 69) rfl rfl rfl rfl ?_; (repeat (apply Exists.intro)); refine ⟨?_, ?_, ?_, ?_, ?_, ?_⟩; (· exact zsts2); (· (try simp only [World.size_alloc, World.size_setCell, size_drew, size_drewN]); (exact zpk1)); (· rfl); (· exact size_nine); (· simp [Value.oneCell']); intro wN hS; (try clear hQ); have hQ := St.facts hS; simp only [Facts, Res.fact, List.cons_append, List.nil_append, true_and, and_true] at hQ) | (at_builtin; refine st_app rfl rfl rfl rfl ?_; (repeat (apply Exists.intro)); refine ⟨?_, ?_, ?_, ?_, ?_⟩; (· exact zsts2); (· exact zdst1); (· exact zsrc1); (· exact zlen1); intro vN wN hS; (try clear hQ); have hQ := St.facts hS; simp only [Facts, Res.fact, List.cons_append, List.nil_append, true_and, and_true] at hQ) | (go_at_call 57; (with_reducible refine (refU_any _ _ ?_ ?_).mono ?_); (· omega); (· omega); rintro e w4 ⟨v4, rfl, s4⟩; refine st_go s4 ?_; (repeat (apply Exists.intro)); refine ⟨?_, ?_⟩; (· exact zsts2); (try simp only [World.size_alloc, World.size_setCell, size_drew, size_drewN]); intro hS; simp only [List.cons_append, List.nil_append] at hS; (try clear hQ); have hQ := St.facts hS; simp only [Facts, Res.fact, List.cons_append, List.nil_append, true_and, and_true] at hQ) | (go_at_call 62; (with_reducible refine (rPutHeap _ ⟨hk, hn⟩ K1.out).mono ?_); rintro e w4 ⟨v4, rfl, s4⟩; refine st_go s4 ?_; (repeat (apply Exists.intro)); refine ⟨?_, ?_⟩; (· exact zsts2); (try simp only [World.size_alloc, World.size_setCell, size_drew, size_drewN]); intro hS; simp only [List.cons_append, List.nil_append] at hS; (try clear hQ); have hQ := St.facts hS; simp only [Facts, Res.fact, List.cons_append, List.nil_append, true_and, and_true] at hQ) | (go_at_call 62; (with_reducible refine (rPutHeap _ ⟨jk, jn⟩ K2.out).mono ?_); rintro e w4 ⟨v4, rfl, s4⟩; refine st_go s4 ?_; (repeat (apply Exists.intro)); refine ⟨?_, ?_⟩; (· exact zsts2); (try simp only [World.size_alloc, World.size_setCell, size_drew, size_drewN]); intro hS; simp only [List.cons_append, List.nil_append] at hS; (try clear hQ); have hQ := St.facts hS; simp only [Facts, Res.fact, List.cons_append, List.nil_append, true_and, and_true] at hQ)
      go_ret; refine ⟨_, rfl, ?_⟩; rw [E0.out, EP.out]; (try rw [EQ.out]); (try rw [← List.append_assoc]); (try rw [← List.append_assoc]); (try rw [← List.append_assoc]); exact hS.sel (by exact zsub1)
    · have EQ : Hid (pOp o ++ ([pNulls false true] ++ (pNum x ++ (pHeap ⟨hk, hn⟩ ++ pHeap ⟨jk, jn⟩))) = pOp o ++ [UInt8.ofNat (2 : Int).toNat] ++ pNum x ++ pHeap ⟨hk, hn⟩ ++ pHeap ⟨jk, jn⟩) := Lib.hid (by simp [pNulls])
      go_wp2_with first | (go_at_call 34; (with_reducible refine (refShape_any _ o).mono ?_); rintro e w1 ⟨rfl, hw1⟩; subst w1; (try rw [HK.out])) | (go_at_call 35; (with_reducible refine (refHas_any _ _ ?_ ?_).mono ?_); (· omega); (· omega); rintro e w2 ⟨rfl, hF2⟩; refine st_fr hF2 ?_; (repeat (apply Exists.intro)); refine ⟨?_, ?_⟩; (· exact zsts2); (try simp only [World.size_alloc, World.size_setCell, size_drew, size_drewN]); intro hS; (try clear hQ); have hQ := St.facts hS; simp only [Facts, Res.fact, List.cons_append, List.nil_append, true_and, and_true] at hQ; rw [HN.out]) | (refine st_store (ty := 69) rfl rfl rfl rfl ?_; (repeat (apply Exists.intro)); refine ⟨?_, ?_, ?_, ?_, ?_, ?_⟩; (· exact zsts2); (· (try simp only [World.size_alloc, World.size_setCell, size_drew, size_drewN]); (exact zpk1)); (· rfl); (· exact size_nine); (· simp [Value.oneCell']); intro wN hS; (try clear hQ); have hQ := St.facts hS; simp only [Facts, Res.fact, List.cons_append, List.nil_append, true_and, and_true] at hQ) | (at_builtin; refine st_app rfl rfl rfl rfl ?_; (repeat (apply Exists.intro)); refine ⟨?_, ?_, ?_, ?_, ?_⟩; (· exact zsts2); (· exact zdst1); (· exact zsrc1); (· exact zlen1); intro vN wN hS; (try clear hQ); have hQ := St.facts hS; simp only [Facts, Res.fact, List.cons_append, List.nil_append, true_and, and_true] at hQ) | (go_at_call 57; (with_reducible refine (refU_any _ _ ?_ ?_).mono ?_); (· omega); (· omega); rintro e w4 ⟨v4, rfl, s4⟩; refine st_go s4 ?_; (repeat (apply Exists.intro)); refine ⟨?_, ?_⟩; (· exact zsts2); (try simp only [World.size_alloc, World.size_setCell, size_drew, size_drewN]); intro hS; simp only [List.cons_append, List.nil_append] at hS; (try clear hQ); have hQ := St.facts hS; simp only [Facts, Res.fact, List.cons_append, List.nil_append, true_and, and_true] at hQ) | (go_at_call 62; (with_reducible refine (rPutHeap _ ⟨hk, hn⟩ K1.out).mono ?_); rintro e w4 ⟨v4, rfl, s4⟩; refine st_go s4 ?_; (repeat (apply Exists.intro)); refine ⟨?_, ?_⟩; (· exact zsts2); (try simp only [World.size_alloc, World.size_setCell, size_drew, size_drewN]); intro hS; simp only [List.cons_append, List.nil_append] at hS; (try clear hQ); have hQ := St.facts hS; simp only [Facts, Res.fact, List.cons_append, List.nil_append, true_and, and_true] at hQ) | (go_at_call 62; (with_reducible refine (rPutHeap _ ⟨jk, jn⟩ K2.out).mono ?_); rintro e w4 ⟨v4, rfl, s4⟩; refine st_go s4 ?_; (repeat (apply Exists.intro)); refine ⟨?_, ?_⟩; (· exact zsts2); (try simp only [World.size_alloc, World.size_setCell, size_drew, size_drewN]); intro hS; simp only [List.cons_append, List.nil_append] at hS; (try clear hQ); have hQ := St.facts hS; simp only [Facts, Res.fact, List.cons_append, List.nil_append, true_and, and_true] at hQ)
      go_ret; refine ⟨_, rfl, ?_⟩; rw [E0.out, EP.out]; (try rw [EQ.out]); (try rw [← List.append_assoc]); (try rw [← List.append_assoc]); (try rw [← List.append_assoc]); exact hS.sel (by exact zsub1)
    · have EQ : Hid (pOp o ++ ([pNulls true false] ++ (pNum x ++ (pHeap ⟨hk, hn⟩ ++ pHeap ⟨jk, jn⟩))) = pOp o ++ [UInt8.ofNat (1 : Int).toNat] ++ pNum x ++ pHeap ⟨hk, hn⟩ ++ pHeap ⟨jk, jn⟩) := Lib.hid (by simp [pNulls])
      go_wp2_with first | (go_at_call 34; (with_reducible refine (refShape_any _ o).mono ?_); rintro e w1 ⟨rfl, hw1⟩; subst w1; (try rw [HK.out])) | (go_at_call 35; (with_reducible refine (refHas_any _ _ ?_ ?_).mono ?_); (· omega); (· omega); rintro e w2 ⟨rfl, hF2⟩; refine st_fr hF2 ?_; (repeat (apply Exists.intro)); refine ⟨?_, ?_⟩; (· exact zsts2); (try simp only [World.size_alloc, World.size_setCell, size_drew, size_drewN]); intro hS; (try clear hQ); have hQ := St.facts hS; simp only [Facts, Res.fact, List.cons_append, List.nil_append, true_and, and_true] at hQ; rw [HN.out]) | (refine st_store (ty := 69) rfl rfl rfl rfl ?_; (repeat (apply Exists.intro)); refine ⟨?_, ?_, ?_, ?_, ?_, ?_⟩; (· exact zsts2); (· (try simp only [World.size_alloc, World.size_setCell, size_drew, size_drewN]); (exact zpk1)); (· rfl); (· exact size_nine); (· simp [Value.oneCell']); intro wN hS; (try clear hQ); have hQ := St.facts hS; simp only [Facts, Res.fact, List.cons_append, List.nil_append, true_and, and_true] at hQ) | (at_builtin; refine st_app rfl rfl rfl rfl ?_; (repeat (apply Exists.intro)); refine ⟨?_, ?_, ?_, ?_, ?_⟩; (· exact zsts2); (· exact zdst1); (· exact zsrc1); (· exact zlen1); intro vN wN hS; (try clear hQ); have hQ := St.facts hS; simp only [Facts, Res.fact, List.cons_append, List.nil_append, true_and, and_true] at hQ) | (go_at_call 57; (with_reducible refine (refU_any _ _ ?_ ?_).mono ?_); (· omega); (· omega); rintro e w4 ⟨v4, rfl, s4⟩; refine st_go s4 ?_; (repeat (apply Exists.intro)); refine ⟨?_, ?_⟩; (· exact zsts2); (try simp only [World.size_alloc, World.size_setCell, size_drew, size_drewN]); intro hS; simp only [List.cons_append, List.nil_append] at hS; (try clear hQ); have hQ := St.facts hS; simp only [Facts, Res.fact, List.cons_append, List.nil_append, true_and, and_true] at hQ) | (go_at_call 62; (with_reducible refine (rPutHeap _ ⟨hk, hn⟩ K1.out).mono ?_); rintro e w4 ⟨v4, rfl, s4⟩; refine st_go s4 ?_; (repeat (apply Exists.intro)); refine ⟨?_, ?_⟩; (· exact zsts2); (try simp only [World.size_alloc, World.size_setCell, size_drew, size_drewN]); intro hS; simp only [List.cons_append, List.nil_append] at hS; (try clear hQ); have hQ := St.facts hS; simp only [Facts, Res.fact, List.cons_append, List.nil_append, true_and, and_true] at hQ) | (go_at_call 62; (with_reducible refine (rPutHeap _ ⟨jk, jn⟩ K2.out).mono ?_); rintro e w4 ⟨v4, rfl, s4⟩; refine st_go s4 ?_; (repeat (apply Exists.intro)); refine ⟨?_, ?_⟩; (· exact zsts2); (try simp only [World.size_alloc, World.size_setCell, size_drew, size_drewN]); intro hS; simp only [List.cons_append, List.nil_append] at hS; (try clear hQ); have hQ := St.facts hS; simp only [Facts, Res.fact, List.cons_append, List.nil_append, true_and, and_true] at hQ)
      go_ret; refine ⟨_, rfl, ?_⟩; rw [E0.out, EP.out]; (try rw [EQ.out]); (try rw [← List.append_assoc]); (try rw [← List.append_assoc]); (try rw [← List.append_assoc]); exact hS.sel (by exact zsub1)
    · have EQ : Hid (pOp o ++ ([pNulls true true] ++ (pNum x ++ (pHeap ⟨hk, hn⟩ ++ pHeap ⟨jk, jn⟩))) = pOp o ++ [UInt8.ofNat (3 : Int).toNat] ++ pNum x ++ pHeap ⟨hk, hn⟩ ++ pHeap ⟨jk, jn⟩) := Lib.hid (by simp [pNulls])
      go_wp2_with first | (go_at_call 34; (with_reducible refine (refShape_any _ o).mono ?_); rintro e w1 ⟨rfl, hw1⟩; subst w1; (try rw [HK.out])) | (go_at_call 35; (with_reducible refine (refHas_any _ _ ?_ ?_).mono ?_); (· omega); (· omega); rintro e w2 ⟨rfl, hF2⟩; refine st_fr hF2 ?_; (repeat (apply Exists.intro)); refine ⟨?_, ?_⟩; (· exact zsts2); (try simp only [World.size_alloc, World.size_setCell, size_drew, size_drewN]); intro hS; (try clear hQ); have hQ := St.facts hS; simp only [Facts, Res.fact, List.cons_append, List.nil_append, true_and, and_true] at hQ; rw [HN.out]) | (refine st_store (ty := 69) rfl rfl rfl rfl ?_; (repeat (apply Exists.intro)); refine ⟨?_, ?_, ?_, ?_, ?_, ?_⟩; (· exact zsts2); (· (try simp only [World.size_alloc, World.size_setCell, size_drew, size_drewN]); (exact zpk1)); (· rfl); (· exact size_nine); (· simp [Value.oneCell']); intro wN hS; (try clear hQ); have hQ := St.facts hS; simp only [Facts, Res.fact, List.cons_append, List.nil_append, true_and, and_true] at hQ) | (at_builtin; refine st_app rfl rfl rfl rfl ?_; (repeat (apply Exists.intro)); refine ⟨?_, ?_, ?_, ?_, ?_⟩; (· exact zsts2); (· exact zdst1); (· exact zsrc1); (· exact zlen1); intro vN wN hS; (try clear hQ); have hQ := St.facts hS; simp only [Facts, Res.fact, List.cons_append, List.nil_append, true_and, and_true] at hQ) | (go_at_call 57; (with_reducible refine (refU_any _ _ ?_ ?_).mono ?_); (· omega); (· omega); rintro e w4 ⟨v4, rfl, s4⟩; refine st_go s4 ?_; (repeat (apply Exists.intro)); refine ⟨?_, ?_⟩; (· exact zsts2); (try simp only [World.size_alloc, World.size_setCell, size_drew, size_drewN]); intro hS; simp only [List.cons_append, List.nil_append] at hS; (try clear hQ); have hQ := St.facts hS; simp only [Facts, Res.fact, List.cons_append, List.nil_append, true_and, and_true] at hQ) | (go_at_call 62; (with_reducible refine (rPutHeap _ ⟨hk, hn⟩ K1.out).mono ?_); rintro e w4 ⟨v4, rfl, s4⟩; refine st_go s4 ?_; (repeat (apply Exists.intro)); refine ⟨?_, ?_⟩; (· exact zsts2); (try simp only [World.size_alloc, World.size_setCell, size_drew, size_drewN]); intro hS; simp only [List.cons_append, List.nil_append] at hS; (try clear hQ); have hQ := St.facts hS; simp only [Facts, Res.fact, List.cons_append, List.nil_append, true_and, and_true] at hQ) | (go_at_call 62; (with_reducible refine (rPutHeap _ ⟨jk, jn⟩ K2.out).mono ?_); rintro e w4 ⟨v4, rfl, s4⟩; refine st_go s4 ?_; (repeat (apply Exists.intro)); refine ⟨?_, ?_⟩; (· exact zsts2); (try simp only [World.size_alloc, World.size_setCell, size_drew, size_drewN]); intro hS; simp only [List.cons_append, List.nil_append] at hS; (try clear hQ); have hQ := St.facts hS; simp only [Facts, Res.fact, List.cons_append, List.nil_append, true_and, and_true] at hQ)
      go_ret; refine ⟨_, rfl, ?_⟩; rw [E0.out, EP.out]; (try rw [EQ.out]); (try rw [← List.append_assoc]); (try rw [← List.append_assoc]); (try rw [← List.append_assoc]); exact hS.sel (by exact zsub1)
theorem oneB_any (w : World) (i : InstrT) (tv lv cv : Value) (hR : InsR [] w i tv lv cv) (hm : mayI i = true) (hs : SmI i) :
    Calls Tryz.prog 22 #[.agg (insC i tv lv cv).toArray] w fun e w' => ∃ v', e = .returned v' ∧ St [] w w' [.own 5 1 (v') (pInstr i).length ((pInstr i).map B)] := by
  obtain ⟨o, x, y, u, ⟨hk, hn⟩, ⟨jk, jn⟩, n1, n2, ts, ls, ⟨bk, ⟨vk, vn, ⟨wk, wn⟩⟩, bn⟩, cs⟩ := i
  rcases shape_cases o with h | (h | h) | h | h | h | h | h | h | h | h | h | h
  · exact oneB1 w o x y u hk hn jk jn n1 n2 ts ls bk vk vn wk wn bn cs tv lv cv hR hm hs h
  · exact oneB4 w o x y u hk hn jk jn n1 n2 ts ls bk vk vn wk wn bn cs tv lv cv hR hm hs h
  · exact oneB6 w o x y u hk hn jk jn n1 n2 ts ls bk vk vn wk wn bn cs tv lv cv hR hm hs h
  · exact oneB7 w o x y u hk hn jk jn n1 n2 ts ls bk vk vn wk wn bn cs tv lv cv hR hm hs h
  · exact oneB5 w o x y u hk hn jk jn n1 n2 ts ls bk vk vn wk wn bn cs tv lv cv hR hm hs h
  · exact oneB8 w o x y u hk hn jk jn n1 n2 ts ls bk vk vn wk wn bn cs tv lv cv hR hm hs h
  · exact oneB9 w o x y u hk hn jk jn n1 n2 ts ls bk vk vn wk wn bn cs tv lv cv hR hm hs h
  · exact oneB10 w o x y u hk hn jk jn n1 n2 ts ls bk vk vn wk wn bn cs tv lv cv hR hm hs h
  · exact oneB11 w o x y u hk hn jk jn n1 n2 ts ls bk vk vn wk wn bn cs tv lv cv hR hm hs h
  · exact oneB12 w o x y u hk hn jk jn n1 n2 ts ls bk vk vn wk wn bn cs tv lv cv hR hm hs h
  · exact oneB2 w o x y u hk hn jk jn n1 n2 ts ls bk vk vn wk wn bn cs tv lv cv hR hm hs h
  · exact oneB3 w o x y u hk hn jk jn n1 n2 ts ls bk vk vn wk wn bn cs tv lv cv hR hm hs h
  · exact oneB13 w o x y u hk hn jk jn n1 n2 ts ls bk vk vn wk wn bn cs tv lv cv hR hm hs h
end Go.Proofs.YtokneepfknepaaaGreatDoor

set_option linter.unusedSimpArgs false
set_option linter.unusedVariables false
namespace Go.Proofs.YtokneepfknepaaaGreatDoor
open Go.RowKit
theorem all_take {is : List InstrT} {k : Nat} {i : InstrT} (h : (is.take k).all mayI = true) (hi : is[k]? = some i) (hm : mayI i = true) : (is.take (k + 1)).all mayI = true := by
  rw [List.take_add_one, hi, List.all_append, h]
  simp [hm]
set_option maxRecDepth 100000 in
set_option maxHeartbeats 3200000 in
theorem refPut_any (w : World) (v : Value) (is : List InstrT) (ds : List Value) (h : Sl [] w 19 v is.length ds) (hs : InssR [] w is ds) (hl : is.length ≤ 65536) (hwf : ∀ i, i ∈ is → WfI i) (hsm : ∀ i, i ∈ is → SmI i) :
    Calls Tryz.prog 9 #[v] w fun e w' => ∃ v', e = .returned v' ∧ St [] w w' [.own 5 1 (v') (pExpr is).length ((pExpr is).map B)] := by
  have hS := St.start [] w
  have hh := h
  have hl39 : is.length ≤ 549755813000 := by omega
  obtain ⟨va, vc, rfl⟩ := h.shape
  go_enter Tryz.func9, Tryz.ntmps9
  go_wp2_with fail
  go_loopw [3, 4] (fun u n wr => ∃ (k : Nat), n = .int .i64 k ∧ k ≤ is.length ∧ St [] w wr [.own 5 1 (u) ((is.take k).flatMap pInstr).length (((is.take k).flatMap pInstr).map B)] ∧ Hid ((is.take k).all mayI = true)) (fun _ n _ => is.length - (intOf n).toNat)
  case atStart => exact ⟨0, rfl, by omega, hS.dst (.nil rfl), Lib.hid rfl⟩
  case round =>
    obtain ⟨k, rfl, hk2, hS, HA⟩ := hrel
    have lK : ((is.take k).flatMap pInstr).length ≤ (is.take k).length * 1600000 := flat_len7 _ fun i hi => pInstr_len (List.all_eq_true.1 HA.out i hi) (hsm i (List.mem_of_mem_take hi))
    rw [List.length_take] at lK
    by_cases hlt : k < is.length
    · obtain ⟨i, hi⟩ : ∃ t, is[k]? = some t := ⟨is[k], by simp [hlt]⟩
      have hmem := List.mem_of_getElem? hi
      have hwi := hwf i hmem
      have hsi := hsm i hmem
      obtain ⟨b, off, cap2, tv, lv, cv, hv, hb, hnS, hR, hc⟩ := Sl.ins_elem hh hs k i hi
      injection hv with hv1 hv2 hv3
      subst hv1 hv3
      have hRow : ∀ W, Fr [] w W → W.rangeAt b (off + k * 19) (insC i tv lv cv) := fun W hF => row_of fun r hr => by
        have hr : r < 19 := hr
        rw [Nat.add_assoc]
        exact (hF.cell hb (by simp) _).trans (hc r hr)
      have hRi : ∀ W, Fr [] w W → InsR [] W i tv lv cv := fun W hF => hR.fr hF (by simp)
      have i1 : (k : Int) < (is.length : Int) := by omega
      have Hi := Lib.hid hi
      clear hi hc hnS
      cases hm : mayI i with
      | false =>
        have HM : Hid (rMay i = false) := Lib.hid (by rw [rMay_eq, hm])
        have E : Hid (pExpr is = []) := Lib.hid (by
          unfold pExpr
          have : is.all mayI = false := by
            cases hA : is.all mayI with
            | false => rfl
            | true => rw [List.all_eq_true.1 hA i (List.mem_of_getElem? Hi.out)] at hm; cases hm
          rw [this]; rfl)
        clear hm
        go_wp2_with first | (refine st_load (ty := 44) rfl rfl rfl und_ins rfl ?_; (repeat (apply Exists.intro)); refine ⟨?_, ?_, ?_, ?_⟩; (· exact zsts2); (· exact RowAt.elem (hRow _ hS.fr)); (· exact size_ins); (try simp only [List.set_cons_zero, List.set_cons_succ])) | (go_at_call 12; (refine (refMay_any _ i _ _ _ (hRi _ hS.fr) ⟨hwi.op0, hwi.op1⟩ hwi.ts).mono ?_); rintro e w2 ⟨rfl, hF2⟩; rw [HM.out]; refine st_fr hF2 ?_; (repeat (apply Exists.intro)); refine ⟨?_, ?_⟩; (· exact zsts2); (try simp only [World.size_alloc, World.size_setCell, size_drew, size_drewN]); intro hS; (try clear hQ); have hQ := St.facts hS; simp only [Facts, Res.fact, List.cons_append, List.nil_append, true_and, and_true] at hQ)
        go_ret
        refine ⟨_, rfl, ?_⟩
        rw [E.out]
        refine St.sel (hS.dst (Dst.nil rfl)) (by exact zsub1)
      | true =>
        have HM : Hid (rMay i = true) := Lib.hid (by rw [rMay_eq, hm])
        have HM2 := Lib.hid hm
        have lI := pInstr_len hm hsi
        have HA2 := Lib.hid (all_take HA.out Hi.out hm)
        have E : Hid ((is.take (k + 1)).flatMap pInstr = (is.take k).flatMap pInstr ++ pInstr i) := Lib.hid (by rw [List.take_add_one, Hi.out]; simp)
        clear hm
        go_wp2_with first | (refine st_load (ty := 44) rfl rfl rfl und_ins rfl ?_; (repeat (apply Exists.intro)); refine ⟨?_, ?_, ?_, ?_⟩; (· exact zsts2); (· exact RowAt.elem (hRow _ hS.fr)); (· exact size_ins); (try simp only [List.set_cons_zero, List.set_cons_succ])) | (go_at_call 12; (refine (refMay_any _ i _ _ _ (hRi _ hS.fr) ⟨hwi.op0, hwi.op1⟩ hwi.ts).mono ?_); rintro e w2 ⟨rfl, hF2⟩; rw [HM.out]; refine st_fr hF2 ?_; (repeat (apply Exists.intro)); refine ⟨?_, ?_⟩; (· exact zsts2); (try simp only [World.size_alloc, World.size_setCell, size_drew, size_drewN]); intro hS; (try clear hQ); have hQ := St.facts hS; simp only [Facts, Res.fact, List.cons_append, List.nil_append, true_and, and_true] at hQ) | (go_at_call 22; (refine (oneB_any _ i _ _ _ (hRi _ hS.fr) HM2.out hsi).mono ?_); rintro e w4 ⟨v4, rfl, s4⟩; refine st_go s4 ?_; (repeat (apply Exists.intro)); refine ⟨?_, ?_⟩; (· exact zsts2); (try simp only [World.size_alloc, World.size_setCell, size_drew, size_drewN]); intro hS; simp only [List.cons_append, List.nil_append] at hS; (try clear hQ); have hQ := St.facts hS; simp only [Facts, Res.fact, List.cons_append, List.nil_append, true_and, and_true] at hQ) | (at_builtin; refine st_app rfl rfl rfl rfl ?_; (repeat (apply Exists.intro)); refine ⟨?_, ?_, ?_, ?_, ?_⟩; (· exact zsts2); (· exact zdst1); (· exact zsrc1); (· exact zlen1); intro vN wN hS; (try clear hQ); have hQ := St.facts hS; simp only [Facts, Res.fact, List.cons_append, List.nil_append, true_and, and_true] at hQ)
        go_roundw
        case rel =>
          refine ⟨k + 1, by go_num, by omega, ?_, HA2⟩
          rw [E.out]
          exact hS.sel (by exact zsub1)
        case measure => simp [intOf]; omega
    · obtain rfl : k = is.length := by omega
      rw [List.take_length] at hS lK HA
      have i1 : ¬ ((is.length : Int) < (is.length : Int)) := by omega
      cases hn : nested is with
      | false =>
        have E : Hid (pExpr is = []) := Lib.hid (by unfold pExpr; rw [HA.out, hn]; rfl)
        have Hn := Lib.hid hn
        clear hn
        go_wp2_with first | (go_at_call 14; (with_reducible refine (refNested_any _ _ is ds ?_ ?_ hl39).mono ?_); (· (apply St.sl (hs := hh); (exact zsts2))); (· exact hS.inss hs); rintro e w2 ⟨rfl, hF2⟩; rw [Hn.out]; refine st_fr hF2 ?_; (repeat (apply Exists.intro)); refine ⟨?_, ?_⟩; (· exact zsts2); (try simp only [World.size_alloc, World.size_setCell, size_drew, size_drewN]); intro hS; (try clear hQ); have hQ := St.facts hS; simp only [Facts, Res.fact, List.cons_append, List.nil_append, true_and, and_true] at hQ)
        go_ret
        refine ⟨_, rfl, ?_⟩
        rw [E.out]
        refine St.sel (hS.dst (Dst.nil rfl)) (by exact zsub1)
      | true =>
        have E : Hid (pExpr is = is.flatMap pInstr ++ [UInt8.ofNat (11 : Int).toNat]) := Lib.hid (by unfold pExpr; rw [HA.out, hn]; rfl)
        have Hn := Lib.hid hn
        clear hn
        go_wp2_with first | (go_at_call 14; (with_reducible refine (refNested_any _ _ is ds ?_ ?_ hl39).mono ?_); (· (apply St.sl (hs := hh); (exact zsts2))); (· exact hS.inss hs); rintro e w2 ⟨rfl, hF2⟩; rw [Hn.out]; refine st_fr hF2 ?_; (repeat (apply Exists.intro)); refine ⟨?_, ?_⟩; (· exact zsts2); (try simp only [World.size_alloc, World.size_setCell, size_drew, size_drewN]); intro hS; (try clear hQ); have hQ := St.facts hS; simp only [Facts, Res.fact, List.cons_append, List.nil_append, true_and, and_true] at hQ) | (at_builtin; refine st_app rfl rfl rfl rfl ?_; (repeat (apply Exists.intro)); refine ⟨?_, ?_, ?_, ?_, ?_⟩; (· exact zsts2); (· exact zdst1); (· exact zsrc1); (· exact zlen1); intro vN wN hS; (try clear hQ); have hQ := St.facts hS; simp only [Facts, Res.fact, List.cons_append, List.nil_append, true_and, and_true] at hQ)
        go_ret
        refine ⟨_, rfl, ?_⟩
        rw [E.out]
        exact hS.sel (by exact zsub1)
end Go.Proofs.YtokneepfknepaaaGreatDoor
