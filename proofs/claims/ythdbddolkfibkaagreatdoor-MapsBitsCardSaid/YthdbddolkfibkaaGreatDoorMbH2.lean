
/- The walks of layer 19: one bit of bits, as the document reckons it. -/
import Derived.Test.YthdbddolkfibkaaGreatDoorMbO2
set_option linter.unusedSimpArgs false
set_option linter.unusedVariables false
namespace Go.Proofs.YthdbddolkfibkaaGreatDoor
open Go.RowKit
set_option maxRecDepth 100000 in
set_option maxHeartbeats 3200000 in
theorem refHas_any (w : World) (b : Value) (bs : List Nat) (i : Int) (hx : ∀ x ∈ bs, x < 2 ^ 64) (h : Sl [] w 1 b bs.length (wordsC bs)) (hbs : bs.length ≤ 1000) (hi : i ≤ 9223372036854775807) (hi0 : -9223372036854775808 ≤ i) :
    Calls Tryz.prog 9 #[b, .int .i64 i] w fun e w' => e = .returned (.bool (hasB bs i)) ∧ Fr [] w w' := by
  obtain ⟨a, cap, rfl, hn, hc⟩ := sl_cells h
  by_cases h0 : 0 ≤ i
  · obtain ⟨k, rfl⟩ := Int.eq_ofNat_of_zero_le h0
    by_cases h1 : k / 64 < bs.length
    · obtain ⟨g, o, rfl, hcell, hg⟩ := hc (k / 64) h1
      obtain ⟨x, hxe⟩ : ∃ x, bs[k / 64]? = some x := ⟨bs[k / 64], by simp [h1]⟩
      have hxl := hx x (List.mem_of_getElem? hxe)
      have hcell' : w.cell? ⟨g, o + k / 64, none⟩ = some (.int .u64 (x : Int)) := by
        rw [hcell, wordsC, List.getElem?_map, hxe]; rfl
      have i1 : (k : Int) < 64 * (bs.length : Int) := by omega
      have HB0 : hasB bs (k : Int) = (x / 2 ^ (k % 64) % 2 == 1) := by
        unfold hasB
        rw [show ((k : Int) / 64).toNat = k / 64 by omega, show ((k : Int) % 64).toNat = k % 64 by omega, hxe]
        simp
      have HB := Lib.hid HB0
      clear hc h hx hxe HB0 hcell
      go_enter Tryz.func9, Tryz.ntmps9
      go_wp2
      obtain ⟨wo, hwo⟩ : ∃ wo : World, wo = w := ⟨_, rfl⟩
      subst hwo
      go_loopw [5, 6] (fun y n wr => ∃ (j : Nat), n = .int .i64 j ∧ j ≤ k % 64 ∧ Fr [] wo wr ∧ ∃ z : Nat, y = .int .u64 z ∧ Hid (z = x / 2 ^ j) ∧ z < 18446744073709551616) (fun _ n _ => k % 64 - (intOf n).toNat)
      case atStart => exact ⟨0, rfl, by omega, Fr.refl _ _, x, rfl, Lib.hid (by simp), hxl⟩
      case round =>
        obtain ⟨j, rfl, hj, hF, z, rfl, hz, hzl⟩ := hrel
        by_cases hlt : j < k % 64
        · have i2 : (j : Int) < (k : Int) % 64 := by omega
          have hz2 : z / 2 = x / 2 ^ (j + 1) := by rw [hz.out, Nat.pow_succ, Nat.div_div_eq_div_mul]
          have HZ := Lib.hid hz2
          clear hz2
          go_wp2
          go_roundw
          case rel => exact ⟨j + 1, by go_num, by omega, by repeat (first | (with_reducible exact Fr.refl _ _) | (with_reducible assumption) | (with_reducible apply Fr.alloc) | (with_reducible apply Fr.drew) | (with_reducible apply Fr.drewN) | (with_reducible refine Fr.setCell ?_ (by first | (left; simp; done) | (right; simp; done) | (right; simp; omega)) _)), z / 2, by simp, HZ, by omega⟩
          case measure => simp [intOf]; omega
        · obtain rfl : j = k % 64 := by omega
          go_wp2
          go_ret
          refine ⟨?_, hF⟩
          rw [HB.out, ← hz.out]
          show Ending.returned (Value.bool ((z : Int) % 2 == 1)) = _
          congr 2
          rcases Nat.mod_two_eq_zero_or_one z with q | q
          · have q' : (z : Int) % 2 = 0 := by omega
            rw [q, q']; rfl
          · have q' : (z : Int) % 2 = 1 := by omega
            rw [q, q']; rfl
    · have i1 : ¬ (k : Int) < 64 * (bs.length : Int) := by omega
      have HB0 : hasB bs (k : Int) = false := by
        unfold hasB
        rw [show ((k : Int) / 64).toNat = k / 64 by omega, List.getElem?_eq_none (by omega)]
        simp
      have HB := Lib.hid HB0
      clear hc h hx HB0
      go_enter Tryz.func9, Tryz.ntmps9
      go_wp2
      go_ret
      exact ⟨by rw [HB.out]; rfl, Fr.refl _ _⟩
  · have HB0 : hasB bs i = false := by
      unfold hasB
      simp [h0]
    have HB := Lib.hid HB0
    clear hc h hx HB0
    go_enter Tryz.func9, Tryz.ntmps9
    go_wp2
    go_ret
    exact ⟨by rw [HB.out]; rfl, Fr.refl _ _⟩
end Go.Proofs.YthdbddolkfibkaaGreatDoor
