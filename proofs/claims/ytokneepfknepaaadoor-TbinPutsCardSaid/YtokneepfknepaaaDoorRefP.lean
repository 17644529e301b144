/- The walks of the document's answers: what is put (layer 6). -/
import Derived.Test.YtokneepfknepaaaDoorRefV
set_option linter.unusedSimpArgs false
set_option linter.unusedVariables false
namespace Go.Proofs.YtokneepfknepaaaDoor
open Go.RowKit

theorem given_some {k : Int} (h1 : 1 ≤ k) (h2 : k ≤ 12) : ∃ j, j < 256 ∧ givenK j = k := by
  rcases (show k = 1 ∨ k = 2 ∨ k = 3 ∨ k = 4 ∨ k = 5 ∨ k = 6 ∨ k = 7 ∨ k = 8 ∨ k = 9 ∨ k = 10 ∨ k = 11 ∨ k = 12 by omega) with h | h | h | h | h | h | h | h | h | h | h | h
  all_goals subst h
  · exact ⟨110, by decide, by decide⟩
  · exact ⟨109, by decide, by decide⟩
  · exact ⟨108, by decide, by decide⟩
  · exact ⟨107, by decide, by decide⟩
  · exact ⟨106, by decide, by decide⟩
  · exact ⟨113, by decide, by decide⟩
  · exact ⟨112, by decide, by decide⟩
  · exact ⟨115, by decide, by decide⟩
  · exact ⟨111, by decide, by decide⟩
  · exact ⟨114, by decide, by decide⟩
  · exact ⟨105, by decide, by decide⟩
  · exact ⟨116, by decide, by decide⟩

set_option maxRecDepth 100000 in
set_option maxHeartbeats 1600000 in
theorem refPutHeap_any (w : World) (h : HeapT) (hp : refH h = true) :
    Calls Tryd.prog 29 #[heapV h] w fun e w' => ∃ v', e = .returned v' ∧ Out w' v' (pHeap h) ∧ New w v' ∧ Fr [] w w' := by
  obtain ⟨k, n⟩ := h
  have hb : (k = 13 ∧ 0 ≤ n ∧ n ≤ 4294967295) ∨ (1 ≤ k ∧ k ≤ 12 ∧ n = 0) := by
    simp only [refH, givenH, indexedH, Bool.or_eq_true, decide_eq_true_eq] at hp
    omega
  unfold heapV
  dsimp only
  have f0 : Fr [] w (w.alloc (.cells #[.int .i64 k, .int .i64 n] 40)) := (Fr.refl _ _).alloc _
  have hL0 : Loc (w.alloc (.cells #[.int .i64 k, .int .i64 n] 40)) w.heap.size [.int .i64 k, .int .i64 n] 40 := Loc.new _ _ _
  clear hp
  rcases hb with ⟨rfl, n1, n2⟩ | ⟨k1, k2, rfl⟩
  · have hP : pHeap ⟨13, n⟩ = putS n := by simp [pHeap]
    have HP := Lib.hid hP
    clear hP
    go_enter Tryd.func29, Tryd.ntmps29
    go_wp2_with (go_at_call 70; refine (refPutS_any n.natAbs n _ (Nat.le_refl _) (by omega) (by omega)).mono ?_; rintro e w1 ⟨v1, rfl, ho1, hn1, hf1⟩)
    go_ret
    exact ⟨v1, rfl, by rw [HP.out]; exact ho1, hn1.mono f0.size, f0.trans hf1⟩
  · have hP : pHeap ⟨k, 0⟩ = heapByte k := by
      unfold pHeap
      rw [if_neg (by simp only; omega)]
    have HP := Lib.hid hP
    have hS := given_some k1 k2
    have HS := Lib.hid hS
    have g13 : (k == 13) = false := by simp; omega
    have hk0 := Lib.hid (show k ≠ 0 by omega)
    clear hP hS
    go_enter Tryd.func29, Tryd.ntmps29
    go_wp2
    go_loopw [3] (fun m wr => ∃ (i : Nat), m = .int .i64 i ∧ i ≤ 256 ∧ Fr [] (w.alloc (.cells #[.int .i64 k, .int .i64 0] 40)) wr ∧ Hid (∀ j, j < i → givenK j ≠ k)) (fun m _ => 256 - (intOf m).toNat)
    case atStart => exact ⟨0, rfl, by omega, Fr.refl _ _, Lib.hid (fun j hj => by omega)⟩
    case round =>
      obtain ⟨i, rfl, hi, hF, hall⟩ := hrel
      have hL := hL0.fr hF (by simp)
      have hFw := f0.trans hF
      have hLC0 := hL.cell; have hLF0 := hL.frz; have hLT0 := hL.lt
      by_cases hlt : i < 256
      · have i1 : (i : Int) < 256 := by omega
        have i2 : (i : Int) % 256 = i := by omega
        have cG : ∀ w', Calls Tryd.prog 71 #[.int .u8 (IntKind.u8.wrap i)] w' fun e w'' => e = .returned (.int .i64 (givenK i)) ∧ w'' = w' := fun w' => by
          rw [show IntKind.u8.wrap (i : Int) = (i : Int) from i2]
          exact refGiven_any w' i hlt
        have HG := Lib.hid cG
        clear cG
        go_wp2_with fail
        go_region_held3? (fun w' => w'.cell? ⟨w.heap.size, 0, none⟩ = some (.int .i64 k))
          (first | (go_keep; done))
          (first | (go_at_call 71; (with_reducible refine (HG.out _).mono ?_); rintro e w1 ⟨rfl, hw1⟩; have hw2 := hw1.symm; subst hw2))
        by_cases hq : givenK i = k
        · have gq : (givenK i == k) = true := by simpa using hq
          have hB : heapByte k = [UInt8.ofNat i] := by rw [← hq]; exact (givenK_facts (by rw [hq]; exact hk0.out)).2.2.1
          have HB := Lib.hid hB
          clear hB hq
          go_wp2
          go_ret
          rw [HP.out, HB.out]
          have f1 := hFw.drewN 1
          exact ⟨_, rfl, Out.made rfl _ (by rw [B_small _ (by omega)]), newAt1 hFw.size _ _, by repeat (first | (with_reducible exact Fr.refl _ _) | (with_reducible assumption) | (with_reducible apply Fr.alloc) | (with_reducible apply Fr.drew) | (with_reducible apply Fr.drewN) | (with_reducible refine Fr.setCell ?_ (by first | (left; simp; done) | (right; simp; done) | (right; simp; omega)) _))⟩
        · have gq : (givenK i == k) = false := by simpa using hq
          have Hq := Lib.hid hq
          clear hq
          go_wp2
          go_roundw
          case rel =>
            refine ⟨i + 1, by go_num, by omega, by repeat (first | (with_reducible exact Fr.refl _ _) | (with_reducible assumption) | (with_reducible apply Fr.alloc) | (with_reducible apply Fr.drew) | (with_reducible apply Fr.drewN) | (with_reducible refine Fr.setCell ?_ (by first | (left; simp; done) | (right; simp; done) | (right; simp; omega)) _)), Lib.hid fun j hj => ?_⟩
            by_cases hji : j = i
            · rw [hji]; exact Hq.out
            · exact hall.out j (by omega)
          case measure => simp [intOf]; omega
      · have hk : i = 256 := by omega
        subst hk
        exfalso
        obtain ⟨j, hj, hgj⟩ := HS.out
        exact hall.out j hj hgj

theorem heapOk_of {h : HeapT} (hp : refH h = true) : h.ok := by
  simp only [refH, Bool.or_eq_true] at hp
  rcases hp with hp | hp
  · exact HeapT.ok_given hp
  · exact HeapT.ok_indexed hp
theorem pHeap_len' {h : HeapT} (hp : refH h = true) : (pHeap h).length ≤ 12 := by
  obtain ⟨_, h1, h2⟩ := heapOk_of hp
  exact pHeap_len h h1 h2

set_option maxRecDepth 100000 in
set_option maxHeartbeats 1600000 in
theorem refPutVal_any (w : World) (t : ValT) (hp : plainVal t = true) :
    Calls Tryd.prog 30 #[valV t] w fun e w' => ∃ v', e = .returned v' ∧ Out w' v' (pVal t) ∧ New w v' ∧ Fr [] w w' := by
  obtain ⟨k, nl, ⟨hk, hn⟩⟩ := t
  unfold valV
  dsimp only
  rw [plainVal_ref] at hp
  have f0 : Fr [] w (w.alloc (.cells #[.int .i64 k, .bool nl, .int .i64 hk, .int .i64 hn] 44)) := (Fr.refl _ _).alloc _
  have hL0 : Loc (w.alloc (.cells #[.int .i64 k, .bool nl, .int .i64 hk, .int .i64 hn] 44)) w.heap.size [.int .i64 k, .bool nl, .int .i64 hk, .int .i64 hn] 44 := Loc.new _ _ _
  have hs0 : w.heap.size ≤ (w.alloc (.cells #[.int .i64 k, .bool nl, .int .i64 hk, .int .i64 hn] 44)).heap.size := f0.size
  by_cases q1 : k = 1
  · subst q1
    go_enter Tryd.func30, Tryd.ntmps30
    go_wp2
    go_ret
    exact ⟨_, rfl, Out.made (by simp) 127 rfl, newAt1 (by omega) _ _, by repeat (first | (with_reducible exact Fr.refl _ _) | (with_reducible assumption) | (with_reducible apply Fr.alloc) | (with_reducible apply Fr.drew) | (with_reducible apply Fr.drewN) | (with_reducible refine Fr.setCell ?_ (by first | (left; simp; done) | (right; simp; done) | (right; simp; omega)) _))⟩
  · by_cases q2 : k = 2
    · subst q2
      go_enter Tryd.func30, Tryd.ntmps30
      go_wp2
      go_ret
      exact ⟨_, rfl, Out.made (by simp) 126 rfl, newAt1 (by omega) _ _, by repeat (first | (with_reducible exact Fr.refl _ _) | (with_reducible assumption) | (with_reducible apply Fr.alloc) | (with_reducible apply Fr.drew) | (with_reducible apply Fr.drewN) | (with_reducible refine Fr.setCell ?_ (by first | (left; simp; done) | (right; simp; done) | (right; simp; omega)) _))⟩
    · have g1 : (k == 1) = false := by simpa using q1
      have g2 : (k == 2) = false := by simpa using q2
      have q3 : k = 3 := by
        apply Classical.byContradiction
        intro q3
        rw [if_neg q3, g1, g2] at hp
        simp at hp
      subst q3
      rw [if_pos rfl] at hp
      have c := fun w' => refPutHeap_any w' ⟨hk, hn⟩ hp
      have hb : 1 + (pHeap ⟨hk, hn⟩).length ≤ 140737488355328 := by have := pHeap_len' hp; omega
      have HC := Lib.hid c
      clear c g1 g2 q1 q2 hp
      cases nl
      · have hO : ∀ w0 : World, w0.heap.size = w.heap.size + 1 → Out (w0.alloc (.cells #[.int .u8 100] 5)) (.slice (some ⟨w.heap.size + 1, 0, none⟩) 1 1) [100] := fun w0 hw0 => Out.made hw0 _ rfl
        have hnew : New w (.slice (some ⟨w.heap.size + 1, 0, none⟩) 1 1) := newAt1 (by omega) _ _
        have hO0 := hO (w.alloc (.cells #[.int .i64 3, .bool false, .int .i64 hk, .int .i64 hn] 44)) (by simp)
        have f1 := f0.alloc (.cells #[.int .u8 100] 5)
        have hP : pVal ⟨3, false, ⟨hk, hn⟩⟩ = 100 :: pHeap ⟨hk, hn⟩ := by simp [pVal]
        have HP := Lib.hid hP
        clear hP hO
        go_enter Tryd.func30, Tryd.ntmps30
        go_wp2_with first | (go_at_call 29; refine (HC.out _).mono ?_; rintro e w1 ⟨v1, rfl, ho1, hn1, hf1⟩; have hO1 := hO0.fr0 hf1) | (at_builtin; refine app_u8 rfl (.tmp 26) (.tmp 29) _ rfl _ _ _ rfl hO1 _ _ _ rfl ((Own.sl ho1 (S' := []) (by simp)).src und_bytes) hb ?_; intro v2 w2 hown2 hf2 hb2)
        go_ret
        rw [HP.out]
        have f2 := f1.trans hf1
        exact ⟨_, rfl, Out.app (xs := [_]) hown2, hnew.app hb2 f2.size, f2.app hf2 hnew⟩
      · by_cases q13 : hk = 13
        · subst q13
          have hO : ∀ w0 : World, w0.heap.size = w.heap.size + 1 → Out (w0.alloc (.cells #[.int .u8 99] 5)) (.slice (some ⟨w.heap.size + 1, 0, none⟩) 1 1) [99] := fun w0 hw0 => Out.made hw0 _ rfl
          have hnew : New w (.slice (some ⟨w.heap.size + 1, 0, none⟩) 1 1) := newAt1 (by omega) _ _
          have hO0 := hO (w.alloc (.cells #[.int .i64 3, .bool true, .int .i64 13, .int .i64 hn] 44)) (by simp)
          have f1 := f0.alloc (.cells #[.int .u8 99] 5)
          have hP : pVal ⟨3, true, ⟨13, hn⟩⟩ = 99 :: pHeap ⟨13, hn⟩ := by simp [pVal]
          have HP := Lib.hid hP
          clear hP hO
          go_enter Tryd.func30, Tryd.ntmps30
          go_wp2_with first | (go_at_call 29; refine (HC.out _).mono ?_; rintro e w1 ⟨v1, rfl, ho1, hn1, hf1⟩; have hO1 := hO0.fr0 hf1) | (at_builtin; refine app_u8 rfl (.tmp 26) (.tmp 29) _ rfl _ _ _ rfl hO1 _ _ _ rfl ((Own.sl ho1 (S' := []) (by simp)).src und_bytes) hb ?_; intro v2 w2 hown2 hf2 hb2)
          go_ret
          rw [HP.out]
          have f2 := f1.trans hf1
          exact ⟨_, rfl, Out.app (xs := [_]) hown2, hnew.app hb2 f2.size, f2.app hf2 hnew⟩
        · have g13 : (hk == 13) = false := by simpa using q13
          have g13' : (hk != 13) = true := by simpa using q13
          have hP : pVal ⟨3, true, ⟨hk, hn⟩⟩ = pHeap ⟨hk, hn⟩ := by simp [pVal, q13]
          have HP := Lib.hid hP
          clear hP q13
          go_enter Tryd.func30, Tryd.ntmps30
          go_wp2_with (go_at_call 29; refine (HC.out _).mono ?_; rintro e w1 ⟨v1, rfl, ho1, hn1, hf1⟩)
          go_ret
          rw [HP.out]
          exact ⟨_, rfl, ho1, hn1.mono f0.size, f0.trans hf1⟩

set_option maxRecDepth 100000 in
set_option maxHeartbeats 1600000 in
theorem refPutVals_any (w : World) (v : Value) (ts : List ValT) (h : Sl [] w 4 v ts.length (ts.flatMap valC)) (hl : ts.length ≤ 1099511627776) (hp : ts.all plainVal = true) :
    Calls Tryd.prog 32 #[v] w fun e w' => ∃ v', e = .returned v' ∧ Out w' v' (pList pVal ts) ∧ New w v' ∧ Fr [] w w' := by
  have hh := h
  obtain ⟨_, _, a, cap, rfl, _⟩ := h
  have hok : ∀ x, x ∈ ts → x.heap.ok := fun x hx => plainVal_ok (List.all_eq_true.1 hp x hx)
  have hlen := flat_len pVal 13 ts (fun t ht => pVal_len t (hok t ht))
  have hU := fun w' => refPutU_any ts.length w' (by omega)
  have hUl := putU_len ts.length (by omega)
  have HU := Lib.hid hU
  have Hp := Lib.hid hp
  have Hok := Lib.hid hok
  clear hU hp hok
  go_enter Tryd.func32, Tryd.ntmps32
  go_wp2_with (go_at_call 72; refine (HU.out _).mono ?_; rintro e w1 ⟨v1, rfl, ho1, hn1, hf1⟩)
  go_loopw [3, 4] (fun b n wr => ∃ (i : Nat), n = .int .i64 i ∧ i ≤ ts.length ∧ Fr [] w wr ∧ Out wr b (putU ts.length ++ (ts.take i).flatMap pVal) ∧ New w b) (fun _ n _ => ts.length - (intOf n).toNat)
  case atStart => exact ⟨0, rfl, by omega, hf1, by simpa using ho1, hn1⟩
  case round =>
    obtain ⟨i, rfl, hi, hF, hoR, hnR⟩ := hrel
    by_cases hlt : i < ts.length
    · obtain ⟨x, hx⟩ : ∃ t, ts[i]? = some t := ⟨ts[i], by simp [hlt]⟩
      obtain ⟨b1, o1, p1, hv1, hb1, _, hd1⟩ := Sl.elem hh (fun _ => rfl) i x hx
      injection hv1 with e1 _ e1c
      subst e1 e1c
      have f10 := (hF.cell hb1 (by simp) _).trans (hd1 0 (by decide))
      have f11 := (hF.cell hb1 (by simp) _).trans (hd1 1 (by decide))
      have f12 := (hF.cell hb1 (by simp) _).trans (hd1 2 (by decide))
      have f13 := (hF.cell hb1 (by simp) _).trans (hd1 3 (by decide))
      clear hd1
      simp only [Nat.add_zero, ← Nat.add_assoc, valC, List.getElem?_cons_zero, List.getElem?_cons_succ] at f10 f11 f12 f13
      have i1 : (i : Int) < (ts.length : Int) := by omega
      have hpx := List.all_eq_true.1 Hp.out x (List.mem_of_getElem? hx)
      have c := fun w' => refPutVal_any w' x hpx
      have HC := Lib.hid c
      have hxl := pVal_len x (Hok.out x (List.mem_of_getElem? hx))
      have hpre := flat_len pVal 13 (ts.take i) (fun t ht => pVal_len t (Hok.out t (List.mem_of_mem_take ht)))
      have htl : (ts.take i).length ≤ ts.length := by simp; omega
      have hb : (putU ts.length ++ (ts.take i).flatMap pVal).length + (pVal x).length ≤ 140737488355328 := by
        rw [List.length_append]
        omega
      have hyx : putU ts.length ++ (ts.take (i + 1)).flatMap pVal = (putU ts.length ++ (ts.take i).flatMap pVal) ++ pVal x := by
        rw [take_one ts i x hx]
        simp
      have Hyx := Lib.hid hyx
      have Hx := Lib.hid hx
      clear hx c hpx hyx hpre htl hxl
      go_wp2_with first | (go_at_call 30; refine (HC.out _).mono ?_; rintro e w2 ⟨v2, rfl, ho2, hn2, hf2⟩; have hO2 := hoR.fr0 hf2) | (at_builtin; refine app_u8 rfl (.tmp 15) (.tmp 20) _ rfl _ _ _ rfl hO2 _ _ _ rfl ((Own.sl ho2 (S' := []) (by simp)).src und_bytes) hb ?_; intro v3 w3 hown3 hf3 hb3)
      have f2 := hF.trans hf2
      go_roundw
      case rel =>
        refine ⟨i + 1, by go_num, by omega, f2.app hf3 hnR, ?_, hnR.app hb3 f2.size⟩
        rw [Hyx.out]
        exact Out.app hown3
      case measure => simp [intOf]; omega
    · have hk : i = ts.length := by omega
      subst hk
      have i1 : ¬ (ts.length : Int) < (ts.length : Int) := by omega
      go_wp2
      go_ret
      refine ⟨_, rfl, ?_, hnR, hF⟩
      rw [List.take_length] at hoR
      exact hoR
end Go.Proofs.YtokneepfknepaaaDoor
