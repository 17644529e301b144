/- The walk of the document's May (layer 7): UNDER WAY. The walks of the document's nesting (layer 7). -/
import Derived.Test.YtokneepfknepaaaGreatDoorG9
import Derived.Test.YtokneepfknepaaaGreatDoorG8
set_option linter.unusedSimpArgs false
set_option linter.unusedVariables false
namespace Go.Proofs.YtokneepfknepaaaGreatDoor
open Go.RowKit
theorem mayF_eq (i : InstrT) : mayF (hasL (shapeP i.op)) (csMay i) i.null i.null2 = badF i := by
  unfold mayF csMay badF has
  simp only [List.getD_cons_zero, List.getD_cons_succ, HeapT.zero, BlockT.zero, ValT.zero]
  have hx : (i.x != 0) = decide (i.x ≠ 0) := by rw [Bool.eq_iff_iff]; simp
  have hy : (i.y != 0) = decide (i.y ≠ 0) := by rw [Bool.eq_iff_iff]; simp
  have hu : ((i.u : Int) != 0) = decide (i.u ≠ 0) := by rw [Bool.eq_iff_iff]; simp
  have ht : decide ((i.types.length : Int) > 0) = decide (0 < i.types.length) := by rw [decide_eq_decide]; omega
  have hl : decide ((i.labels.length : Int) > 0) = decide (0 < i.labels.length) := by rw [decide_eq_decide]; omega
  have hc : decide ((i.catches.length : Int) > 0) = decide (0 < i.catches.length) := by rw [decide_eq_decide]; omega
  rw [hx, hy, hu, ht, hl, hc]
  first | rfl | (congr; done) | simp
set_option maxRecDepth 100000 in
set_option maxHeartbeats 3200000 in
theorem refMay_any (w : World) (i : InstrT) (tv lv cv : Value) (h : InsR [] w i tv lv cv) (hop : -9223372036854775808 ≤ i.op ∧ i.op < 9223372036854775808) (hty : i.types.length ≤ 1099511627776) :
    Calls Tryz.prog 12 #[.agg (insC i tv lv cv).toArray] w fun e w' => e = .returned (.bool (rMay i)) ∧ Fr [] w w' := by
  have hS := (St.start [] w).alloc (insC i tv lv cv) 44
  have l1 := hS.loc .here
  have f0 : (w.alloc (.cells (insC i tv lv cv).toArray 44)).cell? ⟨w.heap.size, 0, none⟩ = some (.int .i64 i.op) := l1.cell 0
  by_cases hs0 : shapeP i.op = 0
  · have E := Lib.hid (show rMay i = false by unfold rMay; rw [if_pos hs0])
    have q : (shapeP i.op == 0) = true := by simp [hs0]
    go_enter Tryz.func12, Tryz.ntmps12
    go_wp2_with first | (go_at_call 34; (with_reducible refine (refShape_any _ i.op).mono ?_); rintro e w1 ⟨rfl, hw1⟩; subst w1)
    go_ret
    exact ⟨by rw [E.out]; rfl, (Fr.refl [] w).alloc _⟩
  · have q : (shapeP i.op == 0) = false := by simp [hs0]
    have hr := shape_range i.op
    have hOne : ∀ v ∈ nineC (shapeP i.op), v.oneCell' = true := by
      intro v hv
      obtain ⟨b, _, rfl⟩ := List.mem_map.1 hv
      rfl
    have hlen9 : (nineC (shapeP i.op)).length = 9 := by unfold nineC; rw [List.length_map, hasL_len]
    have hsz : (Tryz.prog.info? 69).map (·.size) = some (nineC (shapeP i.op)).length := by rw [hlen9]; exact size_nine
    go_enter Tryz.func12, Tryz.ntmps12
    go_upto_region 4 with first | (go_at_call 34; (with_reducible refine (refShape_any _ i.op).mono ?_); rintro e w1 ⟨rfl, hw1⟩; subst w1)
    go_upto_region 5 with first | (go_at_call 35; (with_reducible refine (refHas_any _ (shapeP i.op) hr.1 hr.2).mono ?_); rintro e w2 ⟨rfl, hF2⟩; refine st_fr hF2 ?_; (repeat (apply Exists.intro)); refine ⟨?_, ?_⟩; (· exact zsts1); intro hS) | (refine st_store (ty := 69) rfl rfl rfl rfl ?_; (repeat (apply Exists.intro)); refine ⟨?_, ?_, ?_, ?_, ?_, ?_⟩; (· exact zsts1); (· (try simp only [World.size_alloc, World.size_setCell, size_drew, size_drewN]); (exact zpk1)); (· exact hlen9); (· exact hsz); (· exact hOne); intro wN hS)
    have m1 := hS.loc (.there .here)
    have m2 := hS.loc .here
    refine rk_region (T := tMay (hasL (shapeP i.op)) (csMay i) i.null i.null2) (vs := vsMay i tv lv cv) (bs := fun g => if g = 0 then w.heap.size else w2.heap.size) (env := [(1, .p 0 0), (4, .p 1 0)]) (t := 117) (v := .b (badF i)) (I := (· = _))
      (m := List.replicate 16 false ++ (List.replicate 102 true ++ List.replicate 146 false)) ?hT rfl ?henv ?hans ?hm ?ht ?k
    case hT => exact tMay_ok (fun r hr => m1.cell r) (fun r hr => m2.cell r) h.1.shape h.2.1.shape h.2.2.shape
    case henv =>
      intro t v hv
      simp only [aGet] at hv
      split at hv
      · rename_i e
        subst e
        injection hv with hv
        subst hv
        exact ⟨by simp, rfl⟩
      · split at hv
        · rename_i e
          subst e
          injection hv with hv
          subst hv
          exact ⟨by simp, by simp [AV.val]⟩
        · cases hv
    case hans =>
      rw [← mayF_eq]
      exact may_ans (by omega) (by omega) _ _ _ _ _ _ _ _ _ _ _
    case hm => kernel_rfl
    case ht => simp
    case k =>
      intro f wM hw hf
      subst hw
      simp only [List.replicate, List.cons_append, List.nil_append, mixL, Exit.then, Nat.reduceAdd]
      have hf' : f 117 = .bool (badF i) := hf
      rw [hf']
      clear hf hf'
      cases hb : badF i with
      | true =>
        have E := Lib.hid (show rMay i = false by unfold rMay; rw [if_neg hs0, if_pos hb])
        go_wp2
        go_ret
        exact ⟨by rw [E.out]; rfl, hS.fr⟩
      | false =>
        go_upto_region 7 with fail
        refine rk_region (T := tMay7 (idx i.x) (idx i.y) (shapeP i.op == 8) (decide (i.x > 63)) (shapeP i.op == 9) (decide ((i.u : Int) ≥ 4294967296)) ((hasL (shapeP i.op)).getD 3 false) (plainH i.heap) ((hasL (shapeP i.op)).getD 4 false) (plainH i.heap2) (i.types.all plainVal)) (vs := vsMay7 i tv lv cv) (bs := fun g => if g = 0 then w.heap.size else w2.heap.size) (env := [(1, .p 0 0), (3, .k 30), (4, .p 1 0)]) (t := 171) (v := .b (badV i)) (I := fun w' => Fr [] wM w')
          (m := List.replicate 118 false ++ (List.replicate 54 true ++ List.replicate 92 false)) ?hT (Fr.refl _ _) ?henv ?hans ?hm ?ht ?k
        case hT => exact tMay7_ok (fun r hr => m1.cell r) (fun r hr => m2.cell r) m1.lt m2.lt (hS.sl h.1) hty
        case henv =>
          intro t v hv
          simp only [aGet] at hv
          split at hv
          · rename_i e
            subst e
            injection hv with hv
            subst hv
            exact ⟨by simp, rfl⟩
          · split at hv
            · rename_i e
              subst e
              injection hv with hv
              subst hv
              exact ⟨by simp, by simp [AV.val, vsMay7]⟩
            · split at hv
              · rename_i e
                subst e
                injection hv with hv
                subst hv
                exact ⟨by simp, by simp [AV.val]⟩
              · cases hv
        case hans =>
          have e : badV i = (!idx i.x || !idx i.y || (shapeP i.op == 8) && decide (i.x > 63) || (shapeP i.op == 9) && decide ((i.u : Int) ≥ 4294967296) || (hasL (shapeP i.op)).getD 3 false && !plainH i.heap || (hasL (shapeP i.op)).getD 4 false && !plainH i.heap2 || !i.types.all plainVal) := by
            have hu : decide ((i.u : Int) ≥ 4294967296) = decide (4294967296 ≤ i.u) := by rw [decide_eq_decide]; omega
            unfold badV has
            rw [hu]
          rw [e]
          exact may7_ans _ _ _ _ _ _ _ _ _ _ _
        case hm => kernel_rfl
        case ht => simp
        case k =>
          intro f7 w3 hF3 hf
          simp only [List.replicate, List.cons_append, List.nil_append, mixL, Exit.then, Nat.reduceAdd]
          have hf' : f7 171 = .bool (badV i) := hf
          rw [hf']
          clear hf hf'
          have hS := hS.step0 hF3
          cases hv : badV i with
          | true =>
            have E := Lib.hid (show rMay i = false by unfold rMay; rw [if_neg hs0, if_neg (by simp [hb]), if_pos hv])
            go_wp2
            go_ret
            exact ⟨by rw [E.out]; rfl, hS.fr⟩
          | false =>
            have EM := Lib.hid (show rMay i = (i.labels.all idx && i.catches.all rMayCatch && rMayBlock i.block) by unfold rMay; rw [if_neg hs0, if_neg (by simp [hb]), if_neg (by simp [hv])])
            have F0 := hS.fr
            have n1 := hS.loc (.there .here)
            obtain ⟨hT0, hL0, hC0⟩ := h
            obtain ⟨la, lc, rfl⟩ := hL0.shape
            obtain ⟨ca, cc, rfl⟩ := hC0.shape
            have f11 : w3.cell? ⟨w.heap.size, 11, none⟩ = some (.slice la i.labels.length lc) := n1.cell 11
            have f18 : w3.cell? ⟨w.heap.size, 18, none⟩ = some (.slice ca i.catches.length cc) := n1.cell 18
            have hL3 := hL0.fr F0 (by simp)
            have hC3 := hC0.fr F0 (by simp)
            have nlt := n1.lt
            have hmL : i.labels.length ≤ 9223372036854775807 := by have := hL0.2.2; obtain ⟨_, _, _, _, hm1, _⟩ := this; unfold maxLen at hm1; omega
            have hmC : i.catches.length ≤ 9223372036854775807 := by have := hC0.2.2; obtain ⟨_, _, _, _, hm1, _⟩ := this; unfold maxLen at hm1; omega
            clear hT0 hL0 hb hv hF3 m1 m2 hOne hlen9 hsz hr hs0 q hop hty hF2 l1 f0
            go_wp2
            go_loopw [5] (fun n wr => ∃ (k : Nat), n = .int .i64 k ∧ k ≤ i.labels.length ∧ Fr [] w3 wr ∧ Hid (i.labels.all idx = (i.labels.drop k).all idx)) (fun n _ => i.labels.length - (intOf n).toNat)
            case atStart => exact ⟨0, rfl, by omega, Fr.refl _ _, Lib.hid rfl⟩
            case round =>
              obtain ⟨k, rfl, hk, hF, hI⟩ := hrel
              have g11 := (hF.cell nlt (by simp) _).trans f11
              by_cases hlt : k < i.labels.length
              · obtain ⟨x, hx⟩ : ∃ t, i.labels[k]? = some t := ⟨i.labels[k], by simp [hlt]⟩
                obtain ⟨b, off, cap2, hv, hb2, _, hc⟩ := Sl.elem hL3 (fun _ => rfl) k x hx
                injection hv with hv1 hv2 hv3
                subst hv1 hv3
                have f0 := (hF.cell hb2 (by simp) _).trans (hc 0 (by decide))
                simp only [Nat.add_zero, ← Nat.add_assoc, intC, Nat.mul_one, List.getElem?_cons_zero] at f0
                have i1 : (k : Int) < (i.labels.length : Int) := by omega
                have hd := drop_one i.labels k x hx
                have HD : Hid (i.labels.all idx = (idx x && (i.labels.drop (k + 1)).all idx)) := Lib.hid (by rw [hI.out, hd]; rfl)
                clear hd hI hx hc
                cases hq : idx x with
                | false =>
                  rw [hq] at HD
                  have E := Lib.hid (show rMay i = false by rw [EM.out, HD.out]; rfl)
                  go_wp2_with first | (go_at_call 36; (with_reducible refine (refIndex_any _ x).mono ?_); rintro e w1 ⟨rfl, hw1⟩; subst w1; rw [hq])
                  go_ret
                  exact ⟨by rw [E.out]; rfl, F0.trans hF⟩
                | true =>
                  rw [hq] at HD
                  go_wp2_with first | (go_at_call 36; (with_reducible refine (refIndex_any _ x).mono ?_); rintro e w1 ⟨rfl, hw1⟩; subst w1; rw [hq])
                  go_roundw
                  case rel => exact ⟨k + 1, by go_num, by omega, hF, Lib.hid (by rw [HD.out]; rfl)⟩
                  case measure => simp [intOf]; omega
              · obtain rfl : k = i.labels.length := by omega
                have EM2 := Lib.hid (show rMay i = (i.catches.all rMayCatch && rMayBlock i.block) by rw [EM.out, hI.out]; simp)
                have i1 : ¬ ((i.labels.length : Int) < (i.labels.length : Int)) := by omega
                clear hI EM
                go_wp2
                go_loopw [6] (fun n wc => ∃ (k : Nat), n = .int .i64 k ∧ k ≤ i.catches.length ∧ St [] w wc [Res.loc w.heap.size (insC i tv (Value.slice la i.labels.length lc) (Value.slice ca i.catches.length cc)) 44] ∧ Hid (i.catches.all rMayCatch = (i.catches.drop k).all rMayCatch)) (fun n _ => i.catches.length - (intOf n).toNat)
                case atStart => exact ⟨0, rfl, by omega, (hS.step0 hF).sel (by exact zsub1), Lib.hid rfl⟩
                case round =>
                  obtain ⟨k, rfl, hk, hS, hI⟩ := hrel
                  have FC := hS.fr
                  have n1 := hS.loc .here
                  have g18 : _ = some (Value.slice ca i.catches.length cc) := n1.cell 18
                  by_cases hlt2 : k < i.catches.length
                  · obtain ⟨c, hx⟩ : ∃ t, i.catches[k]? = some t := ⟨i.catches[k], by simp [hlt2]⟩
                    obtain ⟨b, off, cap2, hv, hb2, _, hc⟩ := Sl.elem hC0 (fun _ => rfl) k c hx
                    injection hv with hv1 hv2 hv3
                    subst hv1 hv3
                    have hRow : wr.rangeAt b (off + k * 3) (catchC c) := row_of fun r hr => by
                      rw [Nat.add_assoc]
                      exact (FC.cell hb2 (by simp) _).trans (hc r hr)
                    have i2 : (k : Int) < (i.catches.length : Int) := by omega
                    have hd := drop_one i.catches k c hx
                    have HD : Hid (i.catches.all rMayCatch = (rMayCatch c && (i.catches.drop (k + 1)).all rMayCatch)) := Lib.hid (by rw [hI.out, hd]; rfl)
                    clear hd hI hx hc
                    go_upto_region 18 with first | (refine st_load (ty := 67) rfl rfl rfl und_catT rfl ?_; (repeat (apply Exists.intro)); refine ⟨?_, ?_, ?_, ?_⟩; (· exact zsts1); (· exact RowAt.elem hRow); (· exact size_catT); (try simp only [List.set_cons_zero, List.set_cons_succ])) | (refine st_store (ty := 67) rfl rfl rfl rfl ?_; (repeat (apply Exists.intro)); refine ⟨?_, ?_, ?_, ?_, ?_, ?_⟩; (· exact zsts1); (· (try simp only [World.size_alloc, World.size_setCell, size_drew, size_drewN]); (exact zpk1)); (· rfl); (· exact size_catT); (· simp [Value.oneCell', catchC]); intro wN hS)
                    have m2 := hS.loc .here
                    refine rk_region (T := tCat (decide (c.kind < 0)) (decide (c.kind > 3)) (idx c.label) (idx c.tag) (decide (c.kind > 1)) (c.tag != 0)) (vs := vsCat c) (bs := fun _ => wr.heap.size) (env := [(7, .p 2 0)]) (t := 227) (v := .b (!rMayCatch c)) (I := (· = _))
                      (m := List.replicate 198 false ++ (List.replicate 30 true ++ List.replicate 36 false)) ?hT2 rfl ?henv2 ?hans2 ?hm2 ?ht2 ?k2
                    case hT2 => exact tCat_ok (fun r hr => m2.cell r)
                    case henv2 => exact envOne (by simp) (by rfl)
                    case hans2 =>
                      rw [← notCat]
                      exact cat_ans _ _ _ _ _ _
                    case hm2 => kernel_rfl
                    case ht2 => simp
                    case k2 =>
                      intro f8 wK hw hf
                      subst hw
                      simp only [List.replicate, List.cons_append, List.nil_append, mixL, Exit.then, Nat.reduceAdd]
                      have hf' : f8 227 = .bool (!rMayCatch c) := hf
                      rw [hf']
                      clear hf hf' m2
                      cases hq : rMayCatch c with
                      | false =>
                        rw [hq] at HD
                        have E := Lib.hid (show rMay i = false by rw [EM2.out, HD.out]; rfl)
                        go_wp2
                        go_ret
                        exact ⟨by rw [E.out]; rfl, hS.fr⟩
                      | true =>
                        rw [hq] at HD
                        go_wp2
                        go_roundw
                        case rel => exact ⟨k + 1, by go_num, by omega, hS.sel (by exact zsub1), Lib.hid (by rw [HD.out]; rfl)⟩
                        case measure => simp [intOf]; omega
                  · obtain rfl : k = i.catches.length := by omega
                    have EB := Lib.hid (show rMay i = rMayBlock i.block by rw [EM2.out, hI.out]; simp)
                    have i2 : ¬ ((i.catches.length : Int) < (i.catches.length : Int)) := by omega
                    have hRow : wr.rangeAt w.heap.size 12 (blkC i.block) := row_of fun r hr => by
                      have hr : r < 6 := hr
                      rw [n1.cell (12 + r)]
                      rcases (show r = 0 ∨ r = 1 ∨ r = 2 ∨ r = 3 ∨ r = 4 ∨ r = 5 by omega) with rfl | rfl | rfl | rfl | rfl | rfl <;> rfl
                    clear hI EM2
                    go_upto_region 21 with first | (refine st_load (ty := 41) rfl rfl rfl und_blkT rfl ?_; (repeat (apply Exists.intro)); refine ⟨?_, ?_, ?_, ?_⟩; (· exact zsts1); (· exact RowAt.elem hRow); (· exact size_blkT); (try simp only [List.set_cons_zero, List.set_cons_succ])) | (refine st_store (ty := 41) rfl rfl rfl rfl ?_; (repeat (apply Exists.intro)); refine ⟨?_, ?_, ?_, ?_, ?_, ?_⟩; (· exact zsts1); (· (try simp only [World.size_alloc, World.size_setCell, size_drew, size_drewN]); (exact zpk1)); (· rfl); (· exact size_blkT); (· simp [Value.oneCell', blkC]); intro wN hS)
                    have m2 := hS.loc .here
                    have q0 : wN.cell? ⟨wr.heap.size, 0, none⟩ = some (.int .i64 i.block.kind) := m2.cell 0
                    by_cases k0 : i.block.kind = 0
                    · have E := Lib.hid (show rMay i = ((i.block.n == 0) && decide (i.block.val = ⟨0, false, ⟨0, 0⟩⟩)) by rw [EB.out]; unfold rMayBlock; rw [if_pos k0]; rfl)
                      rw [k0] at q0
                      go_upto_region 23 with fail
                      refine rk_region (T := tBlk (i.block.n == 0) (decide (i.block.val = ⟨0, false, ⟨0, 0⟩⟩)) (plainVal i.block.val) (idx i.block.n)) (vs := vsBlk i.block) (bs := fun _ => wr.heap.size) (env := [(8, .p 3 0)]) (t := 2) (v := .b ((i.block.n == 0) && decide (i.block.val = ⟨0, false, ⟨0, 0⟩⟩))) (I := fun w' => Fr [] wN w')
                        (m := [false, false, true] ++ (List.replicate 231 false ++ (List.replicate 9 true ++ List.replicate 21 false))) ?hT3 (Fr.refl _ _) ?henv3 ?hans3 ?hm3 ?ht3 ?k3
                      case hT3 => exact tBlk_ok m2.lt (fun r hr => m2.cell r)
                      case henv3 => exact envOne (by simp) (by rfl)
                      case hans3 => exact blk_ans0 _ _ _ _
                      case hm3 => kernel_rfl
                      case ht3 => simp
                      case k3 =>
                        intro f9 wK hF9 hf
                        simp only [List.replicate, List.cons_append, List.nil_append, mixL, Exit.then, Nat.reduceAdd]
                        have hf' : f9 2 = .bool ((i.block.n == 0) && decide (i.block.val = ⟨0, false, ⟨0, 0⟩⟩)) := hf
                        rw [hf']
                        clear hf hf'
                        go_wp2
                        go_ret
                        exact ⟨by rw [E.out]; rfl, hS.fr.trans hF9⟩
                    · have g0 : (i.block.kind == 0) = false := by simpa using k0
                      by_cases k1 : i.block.kind = 1
                      · have E := Lib.hid (show rMay i = ((i.block.n == 0) && plainVal i.block.val) by rw [EB.out]; unfold rMayBlock; rw [if_neg k0, if_pos k1]; rfl)
                        rw [k1] at q0
                        clear g0 k0
                        go_upto_region 25 with fail
                        refine rk_region (T := tBlk (i.block.n == 0) (decide (i.block.val = ⟨0, false, ⟨0, 0⟩⟩)) (plainVal i.block.val) (idx i.block.n)) (vs := vsBlk i.block) (bs := fun _ => wr.heap.size) (env := [(8, .p 3 0)]) (t := 2) (v := .b ((i.block.n == 0) && plainVal i.block.val)) (I := fun w' => Fr [] wN w')
                          (m := [false, false, true] ++ (List.replicate 242 false ++ (List.replicate 8 true ++ List.replicate 11 false))) ?hT4 (Fr.refl _ _) ?henv4 ?hans4 ?hm4 ?ht4 ?k4
                        case hT4 => exact tBlk_ok m2.lt (fun r hr => m2.cell r)
                        case henv4 => exact envOne (by simp) (by rfl)
                        case hans4 => exact blk_ans1 _ _ _ _
                        case hm4 => kernel_rfl
                        case ht4 => simp
                        case k4 =>
                          intro f9 wK hF9 hf
                          simp only [List.replicate, List.cons_append, List.nil_append, mixL, Exit.then, Nat.reduceAdd]
                          have hf' : f9 2 = .bool ((i.block.n == 0) && plainVal i.block.val) := hf
                          rw [hf']
                          clear hf hf'
                          go_wp2
                          go_ret
                          exact ⟨by rw [E.out]; rfl, hS.fr.trans hF9⟩
                      · have g1 : (i.block.kind == 1) = false := by simpa using k1
                        by_cases k2 : i.block.kind = 2
                        · have E := Lib.hid (show rMay i = (idx i.block.n && decide (i.block.val = ⟨0, false, ⟨0, 0⟩⟩)) by rw [EB.out]; unfold rMayBlock; rw [if_neg k0, if_neg k1, if_pos k2]; rfl)
                          rw [k2] at q0
                          clear g0 g1 k0 k1
                          go_upto_region 27 with fail
                          refine rk_region (T := tBlk (i.block.n == 0) (decide (i.block.val = ⟨0, false, ⟨0, 0⟩⟩)) (plainVal i.block.val) (idx i.block.n)) (vs := vsBlk i.block) (bs := fun _ => wr.heap.size) (env := [(8, .p 3 0)]) (t := 2) (v := .b (idx i.block.n && decide (i.block.val = ⟨0, false, ⟨0, 0⟩⟩))) (I := fun w' => Fr [] wN w')
                            (m := [false, false, true] ++ (List.replicate 252 false ++ List.replicate 9 true)) ?hT5 (Fr.refl _ _) ?henv5 ?hans5 ?hm5 ?ht5 ?k5
                          case hT5 => exact tBlk_ok m2.lt (fun r hr => m2.cell r)
                          case henv5 => exact envOne (by simp) (by rfl)
                          case hans5 => exact blk_ans2 _ _ _ _
                          case hm5 => kernel_rfl
                          case ht5 => simp
                          case k5 =>
                            intro f9 wK hF9 hf
                            simp only [List.replicate, List.cons_append, List.nil_append, mixL, Exit.then, Nat.reduceAdd]
                            have hf' : f9 2 = .bool (idx i.block.n && decide (i.block.val = ⟨0, false, ⟨0, 0⟩⟩)) := hf
                            rw [hf']
                            clear hf hf'
                            go_wp2
                            go_ret
                            exact ⟨by rw [E.out]; rfl, hS.fr.trans hF9⟩
                        · have g2 : (i.block.kind == 2) = false := by simpa using k2
                          have E := Lib.hid (show rMay i = false by rw [EB.out]; unfold rMayBlock; rw [if_neg k0, if_neg k1, if_neg k2])
                          clear k0 k1 k2
                          go_wp2
                          go_ret
                          exact ⟨by rw [E.out]; rfl, hS.fr⟩
end Go.Proofs.YtokneepfknepaaaGreatDoor

set_option linter.unusedSimpArgs false
set_option linter.unusedVariables false
namespace Go.Proofs.YtokneepfknepaaaGreatDoor
open Go.RowKit
theorem und_ops : Tryz.prog.underlying 75 = some (.slice 30) := by kernel_rfl
theorem info_ops : (Tryz.prog.info? 30).map (fun i => (i.zero, i.size, i.bytes)) = some (some (.int .i64 0), 1, 8) := by kernel_rfl
theorem app_op {w : World} {ops : Array Oper} {rest : List Oper} {o : Oper} {a : Act} {Q : Exit → Act → World → Prop} {s x : Operand} {v xv : Value} (hgd : o.guard = none)
    (ho : o.op = .call { callee := .builtin .append, args := #[s, x], argTypes := #[75, 75] }) (hs : a.eval s = v) (hx : a.eval x = xv)
    (h : ∃ S w0 G n xs m news, St S w0 w (.own 30 1 v n xs :: G) ∧ SrcT 30 1 G w xv m news ∧ n + m ≤ 549755813888 ∧
      ∀ v' w', St S w0 w' (.own 30 1 v' (n + m) (xs ++ news) :: G) → wpList Tryz.prog ops Q rest (a.put o.dst v') w') :
    wpList Tryz.prog ops Q (o :: rest) a w := by
  obtain ⟨S, w0, G, n, xs, m, news, hst, hsrc, hb, h⟩ := h
  have h2 : SrcT 30 1 (.own 30 1 v n xs :: G) w xv m news := by
    cases hsrc with
    | own p => exact .own (.there p)
    | lit p a b => exact .lit (.there p) a b
    | arg hs => exact .arg hs
  obtain ⟨i0, hi, hz0, hz1, hz2⟩ := info_parts info_ops
  exact st_appT hgd ho hs hx und_ops und_ops hi hz0 hz1 hz2 rfl (by decide) (by decide) ⟨S, w0, _, G, n, xs, m, news, hst, .own .here, h2, hb, h⟩
theorem app_opD {w : World} {ops : Array Oper} {rest : List Oper} {o : Oper} {a : Act} {Q : Exit → Act → World → Prop} {s x : Operand} {v xv : Value} (hgd : o.guard = none)
    (ho : o.op = .call { callee := .builtin .append, args := #[s, x], argTypes := #[75, 75] }) (hs : a.eval s = v) (hx : a.eval x = xv)
    (h : ∃ S w0 G G' n xs m news, St S w0 w G ∧ DstT 30 1 G v n xs G' ∧ SrcT 30 1 G w xv m news ∧ n + m ≤ 549755813888 ∧
      ∀ v' w', St S w0 w' (.own 30 1 v' (n + m) (xs ++ news) :: G') → wpList Tryz.prog ops Q rest (a.put o.dst v') w') :
    wpList Tryz.prog ops Q (o :: rest) a w := by
  obtain ⟨i0, hi, hz0, hz1, hz2⟩ := info_parts info_ops
  exact st_appT hgd ho hs hx und_ops und_ops hi hz0 hz1 hz2 rfl (by decide) (by decide) h
def NestR (w : World) (v : Value) : Option (List Int) → Prop
  | some m => Sl [] w 1 v m.length (m.flatMap intC)
  | none => True
theorem flat_int (n : List Int) : (n.flatMap intC).length = n.length := by induction n <;> simp_all [intC]
set_option maxRecDepth 100000 in
set_option maxHeartbeats 3200000 in
theorem refNest_any (w : World) (v : Value) (n : List Int) (op : Int) (h : Sl [] w 1 v n.length (n.flatMap intC)) (hl : n.length ≤ 549755813000) :
    Calls Tryz.prog 41 #[v, .int .i64 op] w fun e w' => ∃ v', e = .returned (.tuple #[v', .bool (refNest n op).isSome]) ∧ Fr [] w w' ∧ NestR w' v' (refNest n op) := by
  have hV := h
  have hS := St.start [] w
  obtain ⟨a0, c0, rfl⟩ := h.shape
  have hcap : n.length ≤ c0 := by
    obtain ⟨_, _, a', cap', e, h4, _⟩ := h
    injection e with _ _ e3
    omega
  by_cases h1 : op = 2 ∨ op = 3 ∨ op = 4 ∨ op = 31
  · have e : refNest n op = some (n ++ [op]) := by unfold refNest; rw [if_pos (by omega)]
    have E := Lib.hid e
    clear e
    have hlen : (n ++ [op]).length = 0 + n.length + 1 := by simp
    have hcs : (n ++ [op]).flatMap intC = [] ++ n.flatMap intC ++ [.int .i64 op] := by simp [intC]
    rcases h1 with rfl | rfl | rfl | rfl
    all_goals
      go_enter Tryz.func41, Tryz.ntmps41
      go_wp2_with first | (at_builtin; refine app_op rfl rfl rfl rfl ?_; (repeat (apply Exists.intro)); refine ⟨?_, ?_, ?_, ?_⟩; (· apply St.dst0; (· exact zsts1); (· exact zpk1)); (· apply SrcT.arg; apply St.sl (hs := hV); (exact zsts1)); (· omega); intro vN wN hS) | (at_builtin; refine app_opD rfl rfl rfl rfl ?_; (repeat (apply Exists.intro)); refine ⟨?_, ?_, ?_, ?_, ?_⟩; (· exact zsts1); (· (try simp only [World.size_alloc, World.size_setCell, size_drew, size_drewN]); apply DstT.own; (exact zpk1)); (· (try simp only [World.size_alloc, World.size_setCell, size_drew, size_drewN]); apply SrcT.lit; (· exact zpk1); (· rfl); (· simp [Value.oneCell'])); (· omega); intro vN wN hS)
      go_ret2
      refine ⟨_, by rw [E.out]; rfl, hS.fr, ?_⟩
      rw [E.out]
      show Sl [] _ 1 _ _ _
      rw [hlen, hcs]
      exact Own.sl (S' := []) (hS.own (e := 30) (k := 1) .here) (by simp)
  · have q2 : (op == 2) = false := by simp; omega
    have q3 : (op == 3) = false := by simp; omega
    have q4 : (op == 4) = false := by simp; omega
    have q31 : (op == 31) = false := by simp; omega
    by_cases h5 : op = 5
    · subst h5
      rcases List.eq_nil_or_concat n with rfl | ⟨m, a, rfl⟩
      · have E := Lib.hid (show refNest [] 5 = none from rfl)
        go_enter Tryz.func41, Tryz.ntmps41
        go_wp2
        go_ret2
        exact ⟨_, by rw [E.out]; rfl, hS.fr, by rw [E.out]; trivial⟩
      · rw [List.concat_eq_append] at *
        have hlen : (m ++ [a]).length = m.length + 1 := by simp
        obtain ⟨b, off, cap2, hv, hb, hnS, hc⟩ := Sl.elem h (fun _ => rfl) m.length a (by simp)
        injection hv with hv1 hv2 hv3
        subst hv1 hv3
        have e0 := hc 0 (by decide)
        simp only [Nat.add_zero, ← Nat.add_assoc, intC, Nat.mul_one, List.getElem?_cons_zero] at e0
        clear hc
        have hT := Sl.takeK h (c := m.length) (by simp)
        have hV := hT
        have hc2 : m.length ≤ c0 := by omega
        rw [hlen] at hl h ⊢
        have hz : ((m.length + 1 : Nat) : Int) ≠ 0 := by omega
        have hz2 : (((m.length + 1 : Nat) : Int) == 0) = false := by simpa using hz
        by_cases ha : a = 4
        · subst ha
          have e : refNest (m ++ [4]) 5 = some (m ++ [5]) := by simp [refNest]
          have E := Lib.hid e
          clear e
          go_enter Tryz.func41, Tryz.ntmps41
          go_wp2_with first | (at_builtin; refine app_op rfl rfl rfl rfl ?_; (repeat (apply Exists.intro)); refine ⟨?_, ?_, ?_, ?_⟩; (· apply St.dst0; (· exact zsts1); (· exact zpk1)); (· apply SrcT.arg; apply St.sl (hs := hV); (exact zsts1)); (· omega); intro vN wN hS) | (at_builtin; refine app_opD rfl rfl rfl rfl ?_; (repeat (apply Exists.intro)); refine ⟨?_, ?_, ?_, ?_, ?_⟩; (· exact zsts1); (· (try simp only [World.size_alloc, World.size_setCell, size_drew, size_drewN]); apply DstT.own; (exact zpk1)); (· (try simp only [World.size_alloc, World.size_setCell, size_drew, size_drewN]); apply SrcT.lit; (· exact zpk1); (· rfl); (· simp [Value.oneCell'])); (· omega); intro vN wN hS)
          go_ret2
          refine ⟨_, by rw [E.out]; rfl, hS.fr, ?_⟩
          rw [E.out]
          show Sl [] _ 1 _ _ _
          have hlen2 : (m ++ [5]).length = 0 + m.length + 1 := by simp
          have hcs : (m ++ [5]).flatMap intC = [] ++ ((m ++ [4]).flatMap intC).take (m.length * 1) ++ [.int .i64 5] := by
            rw [List.flatMap_append, List.flatMap_append, List.take_append_of_le_length (by rw [flat_int]; omega), List.take_of_length_le (by rw [flat_int]; omega)]
            simp [intC]
          rw [hlen2, hcs]
          exact Own.sl (S' := []) (hS.own (e := 30) (k := 1) .here) (by simp)
        · have qa : (a != 4) = true := by simpa using ha
          have e : refNest (m ++ [a]) 5 = none := by simp [refNest, ha]
          have E := Lib.hid e
          clear e
          go_enter Tryz.func41, Tryz.ntmps41
          go_wp2
          go_ret2
          exact ⟨_, by rw [E.out]; rfl, hS.fr, by rw [E.out]; trivial⟩
    · have q5 : (op == 5) = false := by simp; omega
      by_cases h11 : op = 11
      · subst h11
        rcases List.eq_nil_or_concat n with rfl | ⟨m, a, rfl⟩
        · have E := Lib.hid (show refNest [] 11 = none from rfl)
          go_enter Tryz.func41, Tryz.ntmps41
          go_wp2
          go_ret2
          exact ⟨_, by rw [E.out]; rfl, hS.fr, by rw [E.out]; trivial⟩
        · rw [List.concat_eq_append] at *
          have e : refNest (m ++ [a]) 11 = some m := by simp [refNest]
          have E := Lib.hid e
          clear e
          have hlen : (m ++ [a]).length = m.length + 1 := by simp
          have hc2 : m.length ≤ c0 := by omega
          have hT := Sl.takeK h (c := m.length) (by simp)
          rw [hlen] at hl h ⊢
          have hz : ((m.length + 1 : Nat) : Int) ≠ 0 := by omega
          have hz2 : (((m.length + 1 : Nat) : Int) == 0) = false := by simpa using hz
          go_enter Tryz.func41, Tryz.ntmps41
          go_wp2
          go_ret2
          refine ⟨_, by rw [E.out]; rfl, hS.fr, ?_⟩
          rw [E.out]
          show Sl [] _ 1 _ _ _
          have hcs : m.flatMap intC = ((m ++ [a]).flatMap intC).take (m.length * 1) := by
            rw [List.flatMap_append, List.take_append_of_le_length (by rw [flat_int]; omega), List.take_of_length_le (by rw [flat_int]; omega)]
          rw [hcs]
          exact hT
      · have q11 : (op == 11) = false := by simp; omega
        have e : refNest n op = some n := by unfold refNest; rw [if_neg (by omega), if_neg h5, if_neg h11]
        have E := Lib.hid e
        clear e
        go_enter Tryz.func41, Tryz.ntmps41
        go_wp2
        go_ret2
        refine ⟨_, by rw [E.out]; rfl, hS.fr, ?_⟩
        rw [E.out]
        exact h
set_option maxRecDepth 100000 in
set_option maxHeartbeats 1600000 in
theorem refNested_any (w : World) (v : Value) (is : List InstrT) (cs : List Value) (hv : Sl [] w 19 v is.length cs) (hi : InssR [] w is cs) (hb : is.length ≤ 549755813000) :
    Calls Tryz.prog 14 #[v] w fun e w' => e = .returned (.bool (nested is)) ∧ Fr [] w w' := by
  have hh := hv
  obtain ⟨a0, c0, rfl⟩ := hv.shape
  go_enter Tryz.func14, Tryz.ntmps14
  go_wp2
  go_loopw [3, 4] (fun o a wr => ∃ (k : Nat) (n : List Int), a = .int .i64 k ∧ k ≤ is.length ∧ Fr [] w wr ∧ Sl [] wr 1 o n.length (n.flatMap intC) ∧ n.length ≤ k ∧ Hid (refNestL n (is.drop k) = refNestL [] is)) (fun _ a _ => is.length - (intOf a).toNat)
  case atStart => exact ⟨0, [], rfl, by omega, Fr.refl _ _, Sl.nil _ _ _, by simp, Lib.hid rfl⟩
  case round =>
    obtain ⟨k, n, rfl, hk, hF, hO, hn, hI⟩ := hrel
    obtain ⟨oa, oc, rfl⟩ := hO.shape
    by_cases hlt : k < is.length
    · obtain ⟨i, hi1⟩ : ∃ t, is[k]? = some t := ⟨is[k], by simp [hlt]⟩
      obtain ⟨b1, o1, p1, tv, lv, cv, hv1, hb1, _, _, hd1⟩ := Sl.ins_elem hh hi k i hi1
      injection hv1 with e1 _ e3
      subst e1 e3
      have f1 := (hF.cell hb1 (by simp) _).trans (hd1 0 (by decide))
      simp only [Nat.add_zero, insC, List.getElem?_cons_zero] at f1
      have i1 : (k : Int) < (is.length : Int) := by omega
      have hdrop : is.drop k = i :: is.drop (k + 1) := by
        rw [List.drop_eq_getElem_cons hlt]
        congr 1
        have := List.getElem?_eq_getElem hlt
        rw [this] at hi1
        injection hi1
      rw [hdrop] at hI
      clear hd1 hdrop hi1
      cases hst : refNest n i.op with
      | none =>
        have e : nested is = false := by
          rw [refNestL_nested, ← hI.out]
          simp [refNestL, hst]
        have E := Lib.hid e
        have Hst := Lib.hid hst
        clear e hI hst
        go_wp2_with (go_at_call 41; (with_reducible refine (refNest_any _ _ n i.op hO (by omega)).mono ?_); rintro e w1 ⟨v1, rfl, hF1, hR⟩; rw [Hst.out])
        go_ret
        exact ⟨by rw [E.out]; rfl, hF.trans hF1⟩
      | some m =>
        have e : refNestL m (is.drop (k + 1)) = refNestL [] is := by
          rw [← hI.out]
          simp [refNestL, hst]
        have hm := refNest_len hst
        have E := Lib.hid e
        have Hst := Lib.hid hst
        clear e hI hst
        go_wp2_with (go_at_call 41; (with_reducible refine (refNest_any _ _ n i.op hO (by omega)).mono ?_); rintro e w1 ⟨v1, rfl, hF1, hR⟩; rw [Hst.out] at hR ⊢)
        go_roundw
        case rel => exact ⟨k + 1, m, by go_num, by omega, hF.trans hF1, hR, by omega, E⟩
        case measure => simp [intOf]; omega
    · have hk2 : k = is.length := by omega
      subst hk2
      rw [List.drop_length] at hI
      have e : nested is = (((n.length : Nat) : Int) == 0) := by
        rw [refNestL_nested, ← hI.out]
        cases n with
        | nil => rfl
        | cons b n =>
          have : (((b :: n).length : Nat) : Int) ≠ 0 := by simp; omega
          simp [refNestL]
          omega
      have E := Lib.hid e
      clear e hI
      go_wp2
      go_ret
      exact ⟨by rw [E.out]; rfl, hF⟩
end Go.Proofs.YtokneepfknepaaaGreatDoor
