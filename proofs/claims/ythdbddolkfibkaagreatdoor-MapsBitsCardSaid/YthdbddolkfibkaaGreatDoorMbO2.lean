
/- The walks of layer 19: the shortest bits of truths, the walk. -/
import Derived.Test.YthdbddolkfibkaaGreatDoorMbO
import Derived.Deep.RegionHeld
set_option linter.unusedSimpArgs false
set_option linter.unusedVariables false
namespace Go.Proofs.YthdbddolkfibkaaGreatDoor
open Go.RowKit
theorem sl_at {w : World} {v : Value} {n : Nat} {cs : List Value} (h : Sl [] w 1 v n cs) (hn : 0 < n) : ∃ b o cap, v = .slice (some ⟨b, o, none⟩) n cap ∧ n ≤ cap ∧ cap ≤ 9223372036854775807 ∧ b < w.heap.size ∧ ∀ j, j < n → w.cell? ⟨b, o + j, none⟩ = cs[j]? := by
  obtain ⟨h1, h2, a, cap, rfl, h4, h5, _, h6⟩ := h
  unfold maxLen at h5
  rcases h6 with h6 | ⟨b, o, rfl, _, hb, hc⟩
  · omega
  · exact ⟨b, o, cap, rfl, h4, by omega, hb, fun j hj => hc j (by omega)⟩
set_option maxRecDepth 100000 in
set_option maxHeartbeats 3200000 in
theorem of_any0 (w : World) (a : Value) (h : Sl [] w 1 a 0 []) :
    Calls Tryz.prog 5 #[a] w fun e w' => e = .returned (.slice none 0 0) ∧ Fr [] w w' := by
  obtain ⟨a1, c1, rfl, hn1, hc1⟩ := sl_cells h
  clear h hc1
  go_enter Tryz.func5, Tryz.ntmps5
  go_wp2
  go_loopw [3] (fun n wr => n = .int .i64 (-1) ∧ Fr [] w wr) (fun n _ => 0)
  case atStart => exact ⟨rfl, Fr.refl _ _⟩
  case round =>
    obtain ⟨rfl, hF⟩ := hrel
    go_wp2
    go_ret
    exact ⟨rfl, hF⟩
set_option maxRecDepth 100000 in
set_option maxHeartbeats 6400000 in
theorem of_any1 (w : World) (a : Value) (l : List Bool) (hl : l.length ≤ 1000) (h0 : 0 < l.length) (h : Sl [] w 1 a l.length (boolsC l)) :
    Calls Tryz.prog 5 #[a] w fun e w' => ∃ v, e = .returned v ∧ Sl [] w' 1 v (bitsB l).length (wordsC (bitsB l)) ∧ Fr [] w w' := by
  obtain ⟨g1, o1, c1, rfl, hn1, hc1, hg1, hc⟩ := sl_at h h0
  clear h
  have gn : l.length ≤ 9223372036854775807 := by omega
  go_enter Tryz.func5, Tryz.ntmps5
  go_wp2
  go_loopw [3] (fun n wr => ∃ (m : Nat), n = .int .i64 ((m : Int) - 1) ∧ m ≤ l.length ∧ Fr [] w wr ∧ Hid (∀ k, m ≤ k → k < l.length → l[k]? = some false)) (fun n _ => (intOf n + 1).toNat)
  case atStart => exact ⟨l.length, rfl, by omega, Fr.refl _ _, Lib.hid (fun k h1 h2 => absurd h2 (by omega))⟩
  case round =>
    obtain ⟨m, rfl, hm, hF, ht⟩ := hrel
    rcases Nat.eq_zero_or_pos m with h0 | h0
    · subst h0
      have hT : (0 : Nat) = trimN l := trimN_of l 0 (by omega) (fun k h1 h2 => ht.out k h1 h2) (fun h => absurd h (by omega))
      have hB : bitsB l = [] := by unfold bitsB; rw [← hT]; rfl
      have HB := Lib.hid hB
      clear hB hT hc
      go_wp2
      go_ret
      rw [HB.out]
      exact ⟨_, rfl, Sl.nil _ _ _, hF⟩
    · obtain ⟨b, hb⟩ : ∃ t, l[m - 1]? = some t := ⟨l[m - 1], by simp⟩
      have hd1 := hc (m - 1) (by omega)
      have f1 : _ = some (Value.bool b) := (hF.cell hg1 (by simp) _).trans (hd1.trans (by rw [boolsC, List.getElem?_map, hb]; rfl))
      obtain ⟨q, rfl⟩ : ∃ q, m = q + 1 := ⟨m - 1, by omega⟩
      have e3 : ((q + 1 : Nat) : Int) - 1 = (q : Int) := by omega
      rw [e3]
      simp only [Nat.add_sub_cancel] at f1 hb
      have Hc := Lib.hid hc
      clear hc
      cases b with
      | false =>
        have Hn : Hid (∀ k, q ≤ k → k < l.length → l[k]? = some false) := Lib.hid fun k h1 h2 => by
          rcases Nat.eq_or_lt_of_le h1 with e | e
          · rw [← e]; exact hb
          · exact ht.out k (by omega) h2
        clear hb hd1 ht
        go_wp2
        go_roundw
        case rel => exact ⟨q, rfl, by omega, by repeat (first | (with_reducible exact Fr.refl _ _) | (with_reducible assumption) | (with_reducible apply Fr.alloc) | (with_reducible apply Fr.drew) | (with_reducible apply Fr.drewN) | (with_reducible refine Fr.setCell ?_ (by first | (left; simp; done) | (right; simp; done) | (right; simp; omega)) _)), Hn⟩
        case measure => simp [intOf]
      | true =>
        have hT : q + 1 = trimN l := trimN_of l (q + 1) (by omega) (fun k h1 h2 => ht.out k h1 h2) (fun h => by simpa using hb)
        have HT := Lib.hid hT
        clear hT hd1 ht hb
        go_wp2
        rw [run_mk wr q (by omega)]
        simp only [Result.andThen]
        rw [Oper.upon_value]
        go_wp2
        obtain ⟨wo, hwo⟩ : ∃ wo : World, wo = wr := ⟨_, rfl⟩
        subst hwo
        go_loopw [32] (fun n wr2 => ∃ (i : Nat), n = .int .i64 i ∧ i ≤ q + 1 ∧ Fr [] w wr2 ∧ Loc wr2 wo.heap.size (wordsC (wordsB (q / 64 + 1) (l.take i))) 66) (fun n _ => q + 1 - (intOf n).toNat)
        case atStart => exact ⟨0, rfl, by omega, by repeat (first | (with_reducible exact Fr.refl _ _) | (with_reducible assumption) | (with_reducible apply Fr.alloc) | (with_reducible apply Fr.drew) | (with_reducible apply Fr.drewN) | (with_reducible refine Fr.setCell ?_ (by first | (left; simp; done) | (right; simp; done) | (right; simp; omega)) _)), by rw [List.take_zero, wordsB_nil]; exact Loc.new _ _ _⟩
        case round =>
          obtain ⟨i, rfl, hi, hF2, hL⟩ := hrel
          by_cases hlt : i < q + 1
          · obtain ⟨b, hb⟩ : ∃ t, l[i]? = some t := ⟨l[i]'(by omega), by simp⟩
            have hd1 := Hc.out i (by omega)
            have f2 : _ = some (Value.bool b) := (hF2.cell hg1 (by simp) _).trans (hd1.trans (by rw [boolsC, List.getElem?_map, hb]; rfl))
            have i1 : (i : Int) < (q : Int) + 1 := by omega
            have htk : l.take (i + 1) = l.take i ++ [b] := by rw [List.take_add_one, hb]; rfl
            have hlen : (l.take i).length = i := by rw [List.length_take]; omega
            have hj : i / 64 < q / 64 + 1 := by omega
            cases b with
            | false =>
              have hL2 : Loc wr wo.heap.size (wordsC (wordsB (q / 64 + 1) (l.take (i + 1)))) 66 := by rw [htk, wordsB_snoc_false]; exact hL
              clear hL hd1 hb
              go_wp2
              go_roundw
              case rel => exact ⟨i + 1, by go_num, by omega, by repeat (first | (with_reducible exact Fr.refl _ _) | (with_reducible assumption) | (with_reducible apply Fr.alloc) | (with_reducible apply Fr.drew) | (with_reducible apply Fr.drewN) | (with_reducible refine Fr.setCell ?_ (by first | (left; simp; done) | (right; simp; done) | (right; simp; omega)) _)), hL2⟩
              case measure => simp [intOf]; omega
            | true =>
              have hW := wordsB_get (q / 64 + 1) (l.take i) (i / 64) hj
              have hX := wordAt_lt (l.take i) (i / 64)
              have hset := wordsB_snoc_true (q / 64 + 1) (l.take i) (by rw [hlen]; exact hj)
              rw [hlen, ← htk] at hset
              obtain ⟨x, hx⟩ : ∃ x, x = wordAt (l.take i) (i / 64) := ⟨_, rfl⟩
              rw [← hx] at hW hX hset
              have hcx : wr.cell? ⟨wo.heap.size, i / 64, none⟩ = some (.int .u64 (x : Int)) := by rw [hL.cell, wordsC, List.getElem?_map, hW]; rfl
              have i2 : (i : Int) / 64 < (q : Int) / 64 + 1 := by omega
              have hpow : (2 : Int) ^ ((i : Int) % 64).toNat = ((2 ^ (i % 64) : Nat) : Int) := by
                rw [show ((i : Int) % 64).toNat = i % 64 by omega]; simp
              have hp64 : 2 ^ (i % 64) < 18446744073709551616 := Nat.lt_of_lt_of_le (Nat.pow_lt_pow_right (by decide : 1 < 2) (show i % 64 < 64 by omega)) (by decide)
              have hor := bits_or_u64_nat x (2 ^ (i % 64)) hX hp64
              obtain ⟨y, hy⟩ : ∃ y, y = x ||| 2 ^ (i % 64) := ⟨_, rfl⟩
              rw [← hy] at hor hset
              have hL2 : Loc (wr.setCell ⟨wo.heap.size, i / 64, none⟩ (.int .u64 (y : Int))) wo.heap.size (wordsC (wordsB (q / 64 + 1) (l.take (i + 1)))) 66 := by
                rw [hset]
                have := hL.set (i / 64) (.int .u64 (y : Int))
                rw [wordsC, List.map_set]
                exact this
              have hT2 := hL.lt
              have hG2 := hL.frz
              have HL2 := Lib.hid hL2
              have Hor := Lib.hid hor
              have Hpow := Lib.hid hpow
              clear hL hL2 hd1 hb hset hW hx hor hpow hy
              go_wp2_with fail
              have nn1 : (0 : Int) ≤ (i : Int) / 64 := by omega
              have nn2 : (0 : Int) ≤ (i : Int) % 64 := by omega
              have tn1 : ((i : Int) / 64).toNat = i / 64 := by omega
              have tn2 : ((i : Int) % 64).toNat = i % 64 := by omega
              have w1 : IntKind.i64.wrap ((i : Int) / 64) = (i : Int) / 64 := by rw [IntKind.wrap_i64]; omega
              have w2 : IntKind.i64.wrap ((i : Int) % 64) = (i : Int) % 64 := by rw [IntKind.wrap_i64]; omega
              have tmd : (i : Int).tmod 64 = (i : Int) % 64 := Int.tmod_eq_emod_of_nonneg (by omega)
              have Pw : Hid (((2 : Int) ^ (i % 64)) = ((2 ^ (i % 64) : Nat) : Int)) := Lib.hid (by simp)
              have e64 : IntKind.u64.wrap ((2 : Int) ^ (i % 64)) = (2 : Int) ^ (i % 64) := by
                rw [Pw.out, IntKind.wrap_u64]
                exact Int.emod_eq_of_lt (Int.natCast_nonneg _) (by have := Int.ofNat_lt.2 hp64; exact this)
              have e65 : bits .or .u64 (x : Int) ((2 : Int) ^ (i % 64)) = (y : Int) := by rw [Pw.out]; exact Hor.out
              have hsz := hF.size
              refine wp_region_held_drew (S := fun _ => True) (by kernel_rfl) trivial (fun _ => ?_)
              refine wpAnyH_take (i := 0) (v := .slice (some ⟨wo.heap.size, 0, none⟩) (q / 64 + 1) (q / 64 + 1)) rfl (by kernel_rfl) (by kernel_rfl) (by kernel_rfl) (fun _ _ _ h => h) (Or.inl ⟨by rfl, fun _ _ => by go_simp <;> (try simp [w1, nn1, tn1, tmd, w2, nn2, tn2, e64, e65])⟩) trivial ?_; simp only [Act.put, List.setIfInBounds_toArray, List.set_cons_zero, List.set_cons_succ]
              refine wpAnyH_take (i := 1) (v := .int .i64 i) rfl (by kernel_rfl) (by kernel_rfl) (by kernel_rfl) (fun _ _ _ h => h) (Or.inl ⟨by rfl, fun _ _ => by go_simp <;> (try simp [w1, nn1, tn1, tmd, w2, nn2, tn2, e64, e65])⟩) trivial ?_; simp only [Act.put, List.setIfInBounds_toArray, List.set_cons_zero, List.set_cons_succ]
              refine wpAnyH_take (i := 2) (v := .int .i64 ((i : Int) / 64)) rfl (by kernel_rfl) (by kernel_rfl) (by kernel_rfl) (fun _ _ _ h => h) (Or.inl ⟨by rfl, fun _ _ => by go_simp <;> (try simp [w1, nn1, tn1, tmd, w2, nn2, tn2, e64, e65])⟩) trivial ?_; simp only [Act.put, List.setIfInBounds_toArray, List.set_cons_zero, List.set_cons_succ]
              refine wpAnyH_take (i := 3) (v := .pointer (some ⟨wo.heap.size, i / 64, none⟩)) rfl (by kernel_rfl) (by kernel_rfl) (by kernel_rfl) (fun _ _ _ h => h) (Or.inl ⟨by rfl, fun _ _ => by go_simp <;> (try simp [w1, nn1, tn1, tmd, w2, nn2, tn2, e64, e65])⟩) trivial ?_; simp only [Act.put, List.setIfInBounds_toArray, List.set_cons_zero, List.set_cons_succ]
              refine wpAnyH_take (i := 5) (v := .int .i64 i) rfl (by kernel_rfl) (by kernel_rfl) (by kernel_rfl) (fun _ _ _ h => h) (Or.inl ⟨by rfl, fun _ _ => by go_simp <;> (try simp [w1, nn1, tn1, tmd, w2, nn2, tn2, e64, e65])⟩) trivial ?_; simp only [Act.put, List.setIfInBounds_toArray, List.set_cons_zero, List.set_cons_succ]
              refine wpAnyH_take (i := 6) (v := .int .i64 ((i : Int) % 64)) rfl (by kernel_rfl) (by kernel_rfl) (by kernel_rfl) (fun _ _ _ h => h) (Or.inl ⟨by rfl, fun _ _ => by go_simp <;> (try simp [w1, nn1, tn1, tmd, w2, nn2, tn2, e64, e65])⟩) trivial ?_; simp only [Act.put, List.setIfInBounds_toArray, List.set_cons_zero, List.set_cons_succ]
              refine wpAnyH_take (i := 7) (v := .int .u64 ((2 : Int) ^ (i % 64))) rfl (by kernel_rfl) (by kernel_rfl) (by kernel_rfl) (fun _ _ _ h => h) (Or.inl ⟨by rfl, fun _ _ => by go_simp <;> (try simp [w1, nn1, tn1, tmd, w2, nn2, tn2, e64, e65])⟩) trivial ?_; simp only [Act.put, List.setIfInBounds_toArray, List.set_cons_zero, List.set_cons_succ]
              refine wpAnyH_ready (rs := [4]) (by kernel_rfl) (by simp) ?_; refine AllReadyH.cons rfl (fun K hK => ?_) AllReadyH.nil; rw [if_pos (by rfl)]; go_simp
              refine hK.out _ _ trivial (fun _ => ?_); clear hK K
              refine wpAnyH_take (i := 8) (v := .int .u64 (y : Int)) rfl (by kernel_rfl) (by kernel_rfl) (by kernel_rfl) (fun _ _ _ h => h) (Or.inl ⟨by rfl, fun _ _ => by go_simp <;> (try simp [w1, nn1, tn1, tmd, w2, nn2, tn2, e64, e65])⟩) trivial ?_; simp only [Act.put, List.setIfInBounds_toArray, List.set_cons_zero, List.set_cons_succ]
              refine wpAnyH_take (i := 9) (v := .pointer (some ⟨wo.heap.size, i / 64, none⟩)) rfl (by kernel_rfl) (by kernel_rfl) (by kernel_rfl) (fun _ _ _ h => h) (Or.inl ⟨by rfl, fun _ _ => by go_simp <;> (try simp [w1, nn1, tn1, tmd, w2, nn2, tn2, e64, e65])⟩) trivial ?_; simp only [Act.put, List.setIfInBounds_toArray, List.set_cons_zero, List.set_cons_succ]
              refine wpAnyH_ready (rs := [10]) (by kernel_rfl) (by simp) ?_; refine AllReadyH.cons rfl (fun K hK => ?_) AllReadyH.nil; rw [if_pos (by rfl)]; go_simp
              refine hK.out _ _ trivial (fun _ => ?_); clear hK K
              refine wpAnyH_done (by kernel_rfl) ?_ _
              go_wp2
              go_roundw
              case rel => exact ⟨i + 1, by go_num, by omega, by repeat (first | (with_reducible exact Fr.refl _ _) | (with_reducible assumption) | (with_reducible apply Fr.alloc) | (with_reducible apply Fr.drew) | (with_reducible apply Fr.drewN) | (with_reducible refine Fr.setCell ?_ (by first | (left; simp; done) | (right; simp; done) | (right; simp; omega)) _)), HL2.out⟩
              case measure => simp [intOf]; omega
          · obtain rfl : i = q + 1 := by omega
            have hB : bitsB l = wordsB (q / 64 + 1) (l.take (q + 1)) := by
              unfold bitsB
              rw [← HT.out]
              congr 1
              unfold wordsN
              omega
            have hlen : (bitsB l).length = q / 64 + 1 := by rw [hB, wordsB_len]
            rw [← hB] at hL
            have HB := Lib.hid hlen
            clear hB hlen
            go_wp2
            go_ret
            refine ⟨_, rfl, ?_, hF2⟩
            rw [HB.out]
            refine ⟨by rw [wordsC_len, HB.out]; omega, fun u hu => ?_, _, _, rfl, Nat.le_refl _, ?_, (fun h => by cases h), .inr ⟨_, 0, rfl, by simp, hL.lt, fun j hj => by rw [Nat.zero_add]; exact hL.cell j⟩⟩
            · simp only [wordsC, List.mem_map] at hu
              obtain ⟨y, _, rfl⟩ := hu
              rfl
            · unfold maxLen; omega
theorem of_any (w : World) (a : Value) (l : List Bool) (hl : l.length ≤ 1000) (h : Sl [] w 1 a l.length (boolsC l)) :
    Calls Tryz.prog 5 #[a] w fun e w' => ∃ v, e = .returned v ∧ Sl [] w' 1 v (bitsB l).length (wordsC (bitsB l)) ∧ Fr [] w w' := by
  rcases Nat.eq_zero_or_pos l.length with h0 | h0
  · obtain rfl := List.length_eq_zero_iff.1 h0
    exact (of_any0 w a h).mono fun e w' ⟨h1, h2⟩ => ⟨_, h1, Sl.nil _ _ _, h2⟩
  · exact of_any1 w a l hl h0 h
end Go.Proofs.YthdbddolkfibkaaGreatDoor
