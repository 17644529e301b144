
/- The walks of layer 19: the shortest bits of truths, as the document reckons them. -/
import Derived.Test.YthdbddolkfibkaaGreatDoorMbO2
set_option linter.unusedSimpArgs false
set_option linter.unusedVariables false
namespace Go.Proofs.YthdbddolkfibkaaGreatDoor
open Go.RowKit
theorem wordsB_succ (m : Nat) (l : List Bool) : wordsB (m + 1) l = wordsB m l ++ [wordAt l m] := by simp [wordsB, List.range_succ]
theorem app_u64 {w : World} {ops : Array Oper} {rest : List Oper} {o : Oper} {a : Act} {Q : Exit → Act → World → Prop} {s x : Operand} {v xv : Value} {n m : Nat} {xs news : List Value} (hgd : o.guard = none)
    (ho : o.op = .call { callee := .builtin .append, args := #[s, x], argTypes := #[25, 25] }) (hs : a.eval s = v) (hown : Own [] w 66 1 v n xs) (hx : a.eval x = xv) (hsrc : Src Tryz.prog 1 25 xv m news w) (hb : n + m ≤ 1000000)
    (h : ∀ v' w', Own [] w' 66 1 v' (n + m) (xs ++ news) → Fr (Value.blk v) w w' → (Value.blk v' = Value.blk v ∨ Value.blk v' = [w.heap.size]) → wpList Tryz.prog ops Q rest (a.put o.dst v') w') :
    wpList Tryz.prog ops Q (o :: rest) a w := by
  have hI := info_u64
  cases hi : Tryz.prog.info? 66 with
  | none => rw [hi] at hI; cases hI
  | some i =>
    rw [hi] at hI
    simp only [Option.map_some, Option.some.injEq, Prod.mk.injEq] at hI
    obtain ⟨h1, h2, h3⟩ := hI
    exact wpList_app hgd s x 25 25 ho 66 i _ 1 8 und_bits hi h1 h2 h3 rfl (by decide) [] (by simp) v n xs hs hown xv m news hx hsrc (by omega) (by unfold maxLen; omega) h
set_option maxRecDepth 100000 in
set_option maxHeartbeats 6400000 in
theorem refOf_any (w : World) (a : Value) (l : List Bool) (hl : l.length ≤ 1000) (h : Sl [] w 1 a l.length (boolsC l)) :
    Calls Tryz.prog 8 #[a] w fun e w' => ∃ v, e = .returned v ∧ Sl [] w' 1 v (bitsB l).length (wordsC (bitsB l)) ∧ Fr [] w w' := by
  obtain ⟨a1, c1, rfl, hn1, hc1⟩ := sl_cells h
  clear h
  have Hc := Lib.hid hc1
  clear hc1
  have gn : l.length ≤ 9223372036854775807 := by omega
  go_enter Tryz.func8, Tryz.ntmps8
  go_wp2
  go_loopw [3] (fun n wr => ∃ (m : Nat), n = .int .i64 (m : Int) ∧ m ≤ l.length ∧ Fr [] w wr ∧ Hid (∀ k, m ≤ k → k < l.length → l[k]? = some false)) (fun n _ => (intOf n).toNat)
  case atStart => exact ⟨l.length, rfl, by omega, Fr.refl _ _, Lib.hid (fun k h1 h2 => absurd h2 (by omega))⟩
  case round =>
    obtain ⟨m, rfl, hm, hF, ht⟩ := hrel
    rcases Nat.eq_zero_or_pos m with h0 | h0
    · subst h0
      have hT : (0 : Nat) = trimN l := trimN_of l 0 (by omega) (fun k h1 h2 => ht.out k h1 h2) (fun h => absurd h (by omega))
      have hB : bitsB l = [] := by unfold bitsB; rw [← hT]; rfl
      have HB := Lib.hid hB
      clear hB hT
      go_wp2
      obtain ⟨wo, hwo⟩ : ∃ wo : World, wo = wr := ⟨_, rfl⟩
      subst hwo
      go_loopw [4, 5] (fun v n wr2 => v = .slice none 0 0 ∧ n = .int .i64 0 ∧ Fr [] w wr2) (fun _ _ _ => 0)
      case atStart => exact ⟨rfl, rfl, hF⟩
      case round =>
        obtain ⟨rfl, rfl, hF2⟩ := hrel
        go_wp2
        go_ret
        rw [HB.out]
        exact ⟨_, rfl, Sl.nil _ _ _, hF2⟩
    · obtain ⟨q, rfl⟩ : ∃ q, m = q + 1 := ⟨m - 1, by omega⟩
      obtain ⟨b, hb⟩ : ∃ t, l[q]? = some t := ⟨l[q]'(by omega), by simp⟩
      obtain ⟨g1, o1, rfl, hd1, hg1⟩ := Hc.out q (by omega)
      have f1 : _ = some (Value.bool b) := (hF.cell hg1 (by simp) _).trans (hd1.trans (by rw [boolsC, List.getElem?_map, hb]; rfl))
      have e3 : ((q + 1 : Nat) : Int) - 1 = (q : Int) := by omega
      cases b with
      | false =>
        have Hn : Hid (∀ k, q ≤ k → k < l.length → l[k]? = some false) := Lib.hid fun k h1 h2 => by
          rcases Nat.eq_or_lt_of_le h1 with e | e
          · rw [← e]; exact hb
          · exact ht.out k (by omega) h2
        clear hb hd1 ht
        go_wp2
        go_roundw
        case rel => exact ⟨q, by go_num, by omega, by repeat (first | (with_reducible exact Fr.refl _ _) | (with_reducible assumption) | (with_reducible apply Fr.alloc) | (with_reducible apply Fr.drew) | (with_reducible apply Fr.drewN) | (with_reducible refine Fr.setCell ?_ (by first | (left; simp; done) | (right; simp; done) | (right; simp; omega)) _)), Hn⟩
        case measure => simp [intOf]
      | true =>
        have hT : q + 1 = trimN l := trimN_of l (q + 1) (by omega) (fun k h1 h2 => ht.out k h1 h2) (fun h => by simpa using hb)
        have HT := Lib.hid hT
        clear hT hd1 ht hb
        go_wp2
        generalize hn : q + 1 = n at hm HT ⊢
        have hLn : (l.take (n)).length = n := by rw [List.length_take]; omega
        obtain ⟨wo, hwo⟩ : ∃ wo : World, wo = wr := ⟨_, rfl⟩
        subst hwo
        go_loopw [4, 5] (fun v at5 wr2 => ∃ (j : Nat), at5 = .int .i64 ((64 * j : Nat) : Int) ∧ 64 * j < n + 64 ∧ Fr [] w wr2 ∧ Own [] wr2 66 1 v j (wordsC (wordsB j (l.take (n)))) ∧ New w v) (fun _ at5 _ => n + 64 - (intOf at5).toNat)
        case atStart => exact ⟨0, rfl, by omega, by repeat (first | (with_reducible exact Fr.refl _ _) | (with_reducible assumption) | (with_reducible apply Fr.alloc) | (with_reducible apply Fr.drew) | (with_reducible apply Fr.drewN) | (with_reducible refine Fr.setCell ?_ (by first | (left; simp; done) | (right; simp; done) | (right; simp; omega)) _)), Own.nil _ _ _ _, New.nil _⟩
        case round =>
          obtain ⟨j, rfl, hj, hF2, hO, hN⟩ := hrel
          by_cases hlt : 64 * j < n
          · have i1 : ((64 * j : Nat) : Int) < (n : Int) := by omega
            have hj2 : j ≤ 1000 := by omega
            go_wp2
            obtain ⟨w1, hw1⟩ : ∃ w1 : World, w1 = wr := ⟨_, rfl⟩
            subst hw1
            have Hj := Lib.hid hj
            clear hj
            go_loopw [6, 7] (fun x k wr3 => ∃ (m : Nat), k = .int .i64 (63 - (m : Int)) ∧ m ≤ 64 ∧ Fr [] w1 wr3 ∧ ∃ y : Nat, x = .int .u64 y ∧ Hid (y = wordB (((l.take (n)).drop (64 * j + (64 - m))).take m))) (fun _ k _ => (intOf k + 1).toNat)
            case atStart => exact ⟨0, rfl, by omega, Fr.refl _ _, 0, rfl, Lib.hid (by simp [wordB])⟩
            case round =>
              obtain ⟨m, rfl, hm2, hF3, y, rfl, hy⟩ := hrel
              by_cases hm3 : m < 64
              · have i2 : (0 : Int) ≤ 63 - (m : Int) := by omega
                obtain ⟨p, hp⟩ : ∃ p, p = 64 * j + (63 - m) := ⟨_, rfl⟩
                have ip : ((64 * j : Nat) : Int) + (63 - (m : Int)) = (p : Int) := by omega
                have hst := wordB_step (l.take (n)) p m
                rw [show p + 1 = 64 * j + (64 - m) by omega, ← hy.out, show p = 64 * j + (64 - (m + 1)) by omega] at hst
                have hlt2 := wordB_lt (((l.take (n)).drop (64 * j + (64 - (m + 1)))).take (m + 1))
                have hlt3 : wordB (((l.take (n)).drop (64 * j + (64 - (m + 1)))).take (m + 1)) < 18446744073709551616 :=
                  Nat.lt_of_lt_of_le hlt2 (Nat.le_trans (Nat.pow_le_pow_right (by decide) (show _ ≤ 64 by rw [List.length_take]; omega)) (by decide))
                rw [hst, ← show p = 64 * j + (64 - (m + 1)) by omega] at hlt3
                by_cases hpq : p < n
                · obtain ⟨b2, hb2⟩ : ∃ t, l[p]? = some t := ⟨l[p]'(by omega), by simp⟩
                  obtain ⟨g2, o2, e2, hd2, hg2⟩ := Hc.out p (by omega)
                  injection e2 with e2
                  injection e2 with e2 e4
                  subst e2 e4
                  have f2 : wr.cell? ⟨g1, o1 + p, none⟩ = some (Value.bool b2) := ((hF2.trans hF3).cell hg1 (by simp) _).trans (hd2.trans (by rw [boolsC, List.getElem?_map, hb2]; rfl))
                  have hgd : (l.take (n)).getD p false = b2 := by rw [List.getD_eq_getElem?_getD, List.getElem?_take, if_pos hpq, hb2]; rfl
                  rw [hgd] at hlt3
                  rw [show p = 64 * j + (64 - (m + 1)) by omega] at hgd
                  rw [hgd] at hst
                  have i3 : (p : Int) < (n : Int) := by omega
                  have i4 : p < l.length := by omega
                  have Hst := Lib.hid hst
                  rw [hp] at f2
                  clear hst hgd hb2 hd2 hlt2
                  cases b2 with
                  | true =>
                    simp only [Bool.toNat_true] at hlt3
                    go_wp2
                    go_roundw
                    case rel => exact ⟨m + 1, by omega, by omega, 2 * y + 1, by omega, Lib.hid (by rw [Hst.out]; rfl)⟩
                    case measure => simp [intOf]; omega
                  | false =>
                    simp only [Bool.toNat_false] at hlt3
                    go_wp2
                    go_roundw
                    case rel => exact ⟨m + 1, by omega, by omega, 2 * y, by omega, Lib.hid (by rw [Hst.out]; rfl)⟩
                    case measure => simp [intOf]; omega
                · have hgd : (l.take (n)).getD p false = false := by rw [List.getD_eq_getElem?_getD, List.getElem?_take, if_neg hpq]; rfl
                  rw [hgd] at hlt3
                  rw [show p = 64 * j + (64 - (m + 1)) by omega] at hgd
                  rw [hgd] at hst
                  have i3 : ¬ (p : Int) < (n : Int) := by omega
                  have Hst := Lib.hid hst
                  clear hst hgd hlt2
                  simp only [Bool.toNat_false] at hlt3
                  go_wp2
                  go_roundw
                  case rel => exact ⟨m + 1, by omega, by omega, 2 * y, by omega, Lib.hid (by rw [Hst.out]; rfl)⟩
                  case measure => simp [intOf]; omega
              · obtain rfl : m = 64 := by omega
                have hy2 : y = wordAt (l.take (n)) j := by rw [hy.out]; rfl
                have hO3 : Own [] wr 66 1 u4 j (wordsC (wordsB j (l.take (n)))) := hO.fr hF3 (by simp)
                have hws := wordsB_succ j (l.take (n))
                rw [← hy2] at hws
                have Hws := Lib.hid hws
                clear hws hy2 hy
                go_wp2_with (at_builtin; refine app_u64 rfl rfl rfl (Own.alloc hO3 _) rfl (src_new und_bits _ _ _ _ rfl) (by omega) ?_; intro v' w3 hown3 hf3 hb3)
                go_roundw
                case rel =>
                  refine ⟨j + 1, by first | (congr 1; omega) | go_num, by omega, ?_, ?_, ?_⟩
                  · exact Fr.app ((hF2.trans hF3).alloc _) hf3 hN
                  · rw [Hws.out, wordsC, List.map_append]
                    exact hown3
                  · refine hN.app hb3 ?_
                    have := hF2.size
                    have := hF3.size
                    simp
                    omega
                case measure => simp [intOf]; omega
          · have i1 : ¬ ((64 * j : Nat) : Int) < (n : Int) := by omega
            have hB : bitsB l = wordsB j (l.take n) := by
              unfold bitsB
              rw [← HT.out]
              congr 1
              unfold wordsN
              omega
            have hlen : (bitsB l).length = j := by rw [hB, wordsB_len]
            rw [← hB] at hO
            have HB := Lib.hid hlen
            clear hB hlen
            go_wp2
            go_ret
            refine ⟨_, rfl, ?_, hF2⟩
            rw [HB.out]
            exact hO.slN (w0 := w) hN (by simp)
end Go.Proofs.YthdbddolkfibkaaGreatDoor
