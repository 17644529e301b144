
/- The walks of layer 19: one bit of bits. -/
import Derived.Test.YthdbddolkfibkaaGreatDoorMbL
import Derived.Laws.Bits64b
set_option linter.unusedSimpArgs false
set_option linter.unusedVariables false
namespace Go.Proofs.YthdbddolkfibkaaGreatDoor
open Go.RowKit
def wordsC (bs : List Nat) : List Value := bs.map fun x : Nat => .int .u64 (x : Int)
theorem wordsC_len (bs : List Nat) : (wordsC bs).length = bs.length := by simp [wordsC]
theorem sl_cells {w : World} {v : Value} {n : Nat} {cs : List Value} (h : Sl [] w 1 v n cs) : ∃ a cap, v = .slice a n cap ∧ n ≤ 9223372036854775807 ∧ ∀ j, j < n → ∃ b o, a = some ⟨b, o, none⟩ ∧ w.cell? ⟨b, o + j, none⟩ = cs[j]? ∧ b < w.heap.size := by
  obtain ⟨h1, h2, a, cap, rfl, h4, h5, _, h6⟩ := h
  refine ⟨a, cap, rfl, by unfold maxLen at h5; omega, fun j hj => ?_⟩
  rcases h6 with h6 | ⟨b, o, e, _, hb, hc⟩
  · omega
  · exact ⟨b, o, e, hc j (by omega), hb⟩
set_option maxRecDepth 100000 in
set_option maxHeartbeats 3200000 in
theorem has_any (w : World) (b : Value) (bs : List Nat) (i : Int) (hx : ∀ x ∈ bs, x < 2 ^ 64) (h : Sl [] w 1 b bs.length (wordsC bs)) (hi : i ≤ 9223372036854775807) (hi0 : -9223372036854775808 ≤ i) :
    Calls Tryz.prog 6 #[b, .int .i64 i] w fun e w' => e = .returned (.bool (hasB bs i)) ∧ w' = w := by
  obtain ⟨a, cap, rfl, hn, hc⟩ := sl_cells h
  by_cases h0 : 0 ≤ i
  · obtain ⟨k, rfl⟩ := Int.eq_ofNat_of_zero_le h0
    by_cases h1 : k / 64 < bs.length
    · obtain ⟨g, o, rfl, hcell, hg⟩ := hc (k / 64) h1
      obtain ⟨x, hxe⟩ : ∃ x, bs[k / 64]? = some x := ⟨bs[k / 64], by simp [h1]⟩
      have hxl := hx x (List.mem_of_getElem? hxe)
      have hcell' : w.cell? ⟨g, o + k / 64, none⟩ = some (.int .u64 (x : Int)) := by
        rw [hcell, wordsC, List.getElem?_map, hxe]; rfl
      have i1 : (k : Int) / 64 < (bs.length : Int) := by omega
      have HB0 : hasB bs (k : Int) = (x / 2 ^ (k % 64) % 2 == 1) := by
        unfold hasB
        rw [show ((k : Int) / 64).toNat = k / 64 by omega, show ((k : Int) % 64).toNat = k % 64 by omega, hxe]
        simp
      have HB := Lib.hid HB0
      clear hc hcell h hx hxe HB0
      go_enter Tryz.func6, Tryz.ntmps6
      go_wp2
      go_ret
      have hl : x / 2 ^ (k % 64) < 18446744073709551616 := Nat.lt_of_le_of_lt (Nat.div_le_self _ _) hxl
      have e1 : ((x : Int) / 2 ^ (k % 64)) = ((x / 2 ^ (k % 64) : Nat) : Int) := by simp
      have e2 := bits_and_u64_nat (x / 2 ^ (k % 64)) 1 hl (by decide)
      rw [Nat.and_one_is_mod] at e2
      refine ⟨?_, rfl⟩
      rw [HB.out]
      simp only [Array.getD_eq_getD_getElem?, List.getElem?_toArray, List.getElem?_cons_succ, List.getElem?_cons_zero, Option.getD_some]
      congr 2
      rw [e1]
      have e3 : ((1 : Nat) : Int) = 1 := rfl
      rw [e3] at e2
      rw [e2]
      rcases Nat.mod_two_eq_zero_or_one (x / 2 ^ (k % 64)) with q | q <;> rw [q] <;> rfl
    · have i1 : ¬ (k : Int) / 64 < (bs.length : Int) := by omega
      have HB0 : hasB bs (k : Int) = false := by
        unfold hasB
        rw [show ((k : Int) / 64).toNat = k / 64 by omega, List.getElem?_eq_none (by omega)]
        simp
      have HB := Lib.hid HB0
      clear hc h hx HB0
      go_enter Tryz.func6, Tryz.ntmps6
      go_wp2
      go_ret
      exact ⟨by rw [HB.out]; rfl, rfl⟩
  · have HB0 : hasB bs i = false := by
      unfold hasB
      simp [h0]
    have HB := Lib.hid HB0
    clear hc h hx HB0
    go_enter Tryz.func6, Tryz.ntmps6
    go_wp2
    go_ret
    exact ⟨by rw [HB.out]; rfl, rfl⟩
theorem take_succ_eq {xs ys : List Nat} {i : Nat} (h : xs.take i = ys.take i) {x : Nat} (hx : xs[i]? = some x) (hy : ys[i]? = some x) : xs.take (i + 1) = ys.take (i + 1) := by
  rw [List.take_add_one, List.take_add_one, h, hx, hy]
set_option maxRecDepth 100000 in
set_option maxHeartbeats 3200000 in
theorem one_any (w : World) (a b : Value) (xs ys : List Nat) (h1 : Sl [] w 1 a xs.length (wordsC xs)) (h2 : Sl [] w 1 b ys.length (wordsC ys)) :
    Calls Tryz.prog 7 #[a, b] w fun e w' => e = .returned (.bool (decide (xs = ys))) ∧ Fr [] w w' := by
  obtain ⟨a1, c1, rfl, hn1, hc1⟩ := sl_cells h1
  obtain ⟨a2, c2, rfl, hn2, hc2⟩ := sl_cells h2
  clear h1 h2
  by_cases hlen : xs.length = ys.length
  · have gl : (((xs.length : Nat) : Int) != ((ys.length : Nat) : Int)) = false := by simp; omega
    have Hlen := Lib.hid hlen
    clear hlen
    go_enter Tryz.func7, Tryz.ntmps7
    go_wp2
    go_loopw [5] (fun n wr => ∃ (i : Nat), n = .int .i64 i ∧ i ≤ xs.length ∧ Fr [] w wr ∧ Hid (xs.take i = ys.take i)) (fun n _ => xs.length - (intOf n).toNat)
    case atStart => exact ⟨0, rfl, by omega, Fr.refl _ _, Lib.hid rfl⟩
    case round =>
      obtain ⟨i, rfl, hi, hF, ht⟩ := hrel
      by_cases hlt : i < xs.length
      · have hlt2 : i < ys.length := by have := Hlen.out; omega
        obtain ⟨x, hx⟩ : ∃ t, xs[i]? = some t := ⟨xs[i], by simp [hlt]⟩
        obtain ⟨y, hy⟩ : ∃ t, ys[i]? = some t := ⟨ys[i], by simp [hlt2]⟩
        obtain ⟨g1, o1, e1, hd1, hg1⟩ := hc1 i hlt
        obtain ⟨g2, o2, e2, hd2, hg2⟩ := hc2 i hlt2
        subst e1 e2
        have f1 : _ = some (Value.int .u64 (x : Int)) := (hF.cell hg1 (by simp) _).trans (hd1.trans (by rw [wordsC, List.getElem?_map, hx]; rfl))
        have f2 : _ = some (Value.int .u64 (y : Int)) := (hF.cell hg2 (by simp) _).trans (hd2.trans (by rw [wordsC, List.getElem?_map, hy]; rfl))
        have i1 : (i : Int) < (xs.length : Int) := by omega
        have i2 : (i : Int) < (ys.length : Int) := by omega
        have Hx := Lib.hid hx
        have Hy := Lib.hid hy
        clear hx hy hd1 hd2 hc1 hc2
        by_cases hxy : x = y
        · subst hxy
          have hn := take_succ_eq ht.out Hx.out Hy.out
          have Hn := Lib.hid hn
          clear hn
          have q1 : ((x : Int) != (x : Int)) = false := by simp
          go_wp2_with fail
          go_quiet (fail)
          go_wp2
          go_roundw
          case rel => exact ⟨i + 1, by go_num, by omega, by repeat (first | (with_reducible exact Fr.refl _ _) | (with_reducible assumption) | (with_reducible apply Fr.alloc) | (with_reducible apply Fr.drew) | (with_reducible apply Fr.drewN) | (with_reducible refine Fr.setCell ?_ (by first | (left; simp; done) | (right; simp; done) | (right; simp; omega)) _)), Hn⟩
          case measure => simp [intOf]; omega
        · have hne : decide (xs = ys) = false := decide_eq_false (by
            rintro rfl
            exact hxy (Option.some.inj (Hx.out.symm.trans Hy.out)))
          have Hne := Lib.hid hne
          clear hne
          have q1 : ((x : Int) != (y : Int)) = true := by simp; omega
          go_wp2_with fail
          go_quiet (fail)
          go_wp2
          go_ret
          exact ⟨by rw [Hne.out]; rfl, by repeat (first | (with_reducible exact Fr.refl _ _) | (with_reducible assumption) | (with_reducible apply Fr.alloc) | (with_reducible apply Fr.drew) | (with_reducible apply Fr.drewN) | (with_reducible refine Fr.setCell ?_ (by first | (left; simp; done) | (right; simp; done) | (right; simp; omega)) _))⟩
      · have hk : i = xs.length := by omega
        have he : decide (xs = ys) = true := decide_eq_true (by
          have := ht.out
          rw [List.take_of_length_le (by omega), List.take_of_length_le (by have := Hlen.out; omega)] at this
          exact this)
        have He := Lib.hid he
        clear he
        have i1 : ¬ (i : Int) < (xs.length : Int) := by omega
        go_wp2
        go_ret
        exact ⟨by rw [He.out]; rfl, hF⟩
  · have gl : (((xs.length : Nat) : Int) != ((ys.length : Nat) : Int)) = true := by simp; omega
    have he : decide (xs = ys) = false := decide_eq_false (fun h => hlen (by rw [h]))
    have He := Lib.hid he
    clear he hlen
    go_enter Tryz.func7, Tryz.ntmps7
    go_wp2
    go_ret
    exact ⟨by rw [He.out]; rfl, Fr.refl _ _⟩
end Go.Proofs.YthdbddolkfibkaaGreatDoor
