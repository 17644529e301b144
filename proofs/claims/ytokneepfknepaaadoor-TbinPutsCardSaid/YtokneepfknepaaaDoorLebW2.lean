/- The walks of layer 1, the second part: a signed number's bytes. -/
import Derived.Test.YtokneepfknepaaaDoorLebW
set_option linter.unusedSimpArgs false
set_option linter.unusedVariables false
namespace Go.Proofs.YtokneepfknepaaaDoor
open Go.RowKit

theorem putS_len (n : Int) (h : -9223372036854775808 ≤ n) (h2 : n < 9223372036854775808) : (putS n).length ≤ 10 := by
  have key : ∀ (k : Nat) (n : Int), -(64 * 128 ^ k) ≤ n → n < 64 * 128 ^ k → (putS n).length ≤ k + 1 := by
    intro k
    induction k with
    | zero => intro n h h2; rw [putS_small n (by simpa using h) (by simpa using h2)]; simp
    | succ k ih =>
      intro n h h2
      by_cases hs : -64 ≤ n ∧ n < 64
      · rw [putS_small n hs.1 hs.2]; simp
      · rw [putS_big n (by omega)]
        rw [Int.pow_succ] at h h2
        have := ih (n / 128) (by omega) (by omega)
        simp; omega
  exact key 9 n (by omega) (by omega)

theorem and64' (c : Nat) (h : c < 128) : (bits .and .u8 (c : Int) 64 == 64) = decide (64 ≤ c) := by
  have := u8_and_nat c 64 (by omega) (by decide)
  rw [show (64 : Nat) = 2 ^ 6 from rfl, nat_bit 6 c] at this
  rw [show (64 : Int) = ((2 ^ 6 : Nat) : Int) from rfl, this]
  by_cases h6 : 64 ≤ c
  · rw [show c / 2 ^ 6 = 1 by omega]; simp [h6]
  · rw [show c / 2 ^ 6 = 0 by omega]; simp [h6]
theorem and64z' (c : Nat) (h : c < 128) : (bits .and .u8 (c : Int) 64 == 0) = decide (c < 64) := by
  have := u8_and_nat c 64 (by omega) (by decide)
  rw [show (64 : Nat) = 2 ^ 6 from rfl, nat_bit 6 c] at this
  rw [show (64 : Int) = ((2 ^ 6 : Nat) : Int) from rfl, this]
  by_cases h6 : c < 64
  · rw [show c / 2 ^ 6 = 0 by omega]; simp [h6]
  · rw [show c / 2 ^ 6 = 1 by omega]; simp [h6]

set_option maxRecDepth 100000 in
set_option maxHeartbeats 1600000 in
theorem putS64_any (N : Int) (w : World) (hlo : -9223372036854775808 ≤ N) (hhi : N < 9223372036854775808) :
    Calls Tryd.prog 142 #[.int .i64 N] w fun e w' => ∃ v, e = .returned v ∧ Own [] w' 5 1 v (putS N).length ((putS N).map B) ∧ New w v ∧ Fr [] w w' := by
  have hx : bits BinOp.xor IntKind.i64 (-1) 0 = -1 := by decide
  by_cases hneg : N < 0
  · have hneg' : decide (N < 0) = true := by simpa using hneg
    go_enter Tryd.func142, Tryd.ntmps142
    go_wp2
    go_loopw [0, 6] (fun n v wr => ∃ (m : Int) (bs : List UInt8), n = .int .i64 m ∧ -9223372036854775808 ≤ m ∧ m < 9223372036854775808 ∧ m < 0 ∧ Own [] wr 5 1 v bs.length (bs.map B) ∧ New w v ∧ Fr [] w wr ∧ Hid (putS N = bs ++ putS m)) (fun n _ _ => (intOf n).natAbs)
    case atStart => exact ⟨N, [], rfl, hlo, hhi, by omega, Own.nil _ _ _ _, New.nil _, Fr.refl _ _, Lib.hid rfl⟩
    case round =>
      obtain ⟨m, bs, rfl, hm, hm2, hm0, hown, hnew, hfr, hg⟩ := hrel
      have hlen : bs.length ≤ 10 := by
        have h1 := congrArg List.length hg.out
        have h2 := putS_len N hlo hhi
        simp at h1; omega
      have hbnd : bs.length + 1 ≤ 140737488355328 := by omega
      have hc : bits BinOp.and IntKind.i64 m 127 % 256 = ((m % 128).toNat : Int) := by rw [i64_and127]; omega
      have h64 : (bits BinOp.and IntKind.u8 (bits BinOp.and IntKind.i64 m 127 % 256) 64 == 64) = decide (64 ≤ (m % 128).toNat) := by
        rw [hc]; exact and64' _ (by omega)
      have hor : bits BinOp.or IntKind.u8 (bits BinOp.and IntKind.i64 m 127 % 256) 128 = (((m % 128).toNat + 128 : Nat) : Int) := by
        have := u8_or128_right (((m % 128).toNat : Nat) : Int) (by omega) (by omega)
        rw [hc, this]; omega
      have Hc := Lib.hid hc
      have Hor := Lib.hid hor
      clear hc hor
      by_cases hs : -64 ≤ m
      · have hq : m / 128 = -1 := by omega
        have hd : decide (64 ≤ (m % 128).toNat) = true := by simp; omega
        rw [hd] at h64
        go_wp2_with (at_builtin; refine app_u8 rfl (.tmp 34) (.tmp 36) _ rfl _ _ _ rfl (hown.alloc _) _ _ _ rfl (src_new und_bytes _ _ _ _ rfl) hbnd ?_)
        intro v' w1 hown1 hf1 hb1
        have e2 : bs.length + 1 = (putS N).length := by rw [hg.out, putS_small m (by omega) (by omega)]; simp
        rw [Hc.out, ← B_small _ (by omega), e2, show bs.map B ++ [B (UInt8.ofNat (m % 128).toNat)] = (putS N).map B by rw [hg.out, putS_small m (by omega) (by omega)]; simp] at hown1
        clear e2 hq
        go_wp2
        go_ret
        exact ⟨v', rfl, hown1, hnew.app hb1 (by have := hfr.size; omega), (hfr.alloc _).app hf1 hnew⟩
      · by_cases hs2 : -128 ≤ m
        all_goals
          first
            | (have hq : m / 128 = -1 := by omega
               have hd : decide (64 ≤ (m % 128).toNat) = false := by simp; omega
               rw [hd] at h64)
            | (have hq : (m / 128 == -1) = false := by simp; omega)
          go_wp2_with (at_builtin; refine app_u8 rfl (.tmp 38) (.tmp 41) _ rfl _ _ _ rfl (hown.alloc _) _ _ _ rfl (src_new und_bytes _ _ _ _ rfl) hbnd ?_)
          intro v' w1 hown1 hf1 hb1
          rw [Hor.out, ← B_small _ (by omega)] at hown1
          go_wp2
          go_roundw
          case rel =>
            refine ⟨m / 128, bs ++ [UInt8.ofNat ((m % 128).toNat + 128)], by first | rfl | rw [hq], by omega, by omega, by omega, by simpa using hown1, hnew.app hb1 (by have := hfr.size; omega), (hfr.alloc _).app hf1 hnew, Lib.hid ?_⟩
            rw [hg.out, putS_big m (by omega)]; simp
          case measure => simp [intOf]; omega
  · have hneg' : decide (N < 0) = false := by simpa using hneg
    go_enter Tryd.func142, Tryd.ntmps142
    go_wp2
    go_loopw [0, 6] (fun n v wr => ∃ (m : Int) (bs : List UInt8), n = .int .i64 m ∧ -9223372036854775808 ≤ m ∧ m < 9223372036854775808 ∧ 0 ≤ m ∧ Own [] wr 5 1 v bs.length (bs.map B) ∧ New w v ∧ Fr [] w wr ∧ Hid (putS N = bs ++ putS m)) (fun n _ _ => (intOf n).natAbs)
    case atStart => exact ⟨N, [], rfl, hlo, hhi, by omega, Own.nil _ _ _ _, New.nil _, Fr.refl _ _, Lib.hid rfl⟩
    case round =>
      obtain ⟨m, bs, rfl, hm, hm2, hm0, hown, hnew, hfr, hg⟩ := hrel
      have hlen : bs.length ≤ 10 := by
        have h1 := congrArg List.length hg.out
        have h2 := putS_len N hlo hhi
        simp at h1; omega
      have hbnd : bs.length + 1 ≤ 140737488355328 := by omega
      have hc : bits BinOp.and IntKind.i64 m 127 % 256 = ((m % 128).toNat : Int) := by rw [i64_and127]; omega
      have h64 : (bits BinOp.and IntKind.u8 (bits BinOp.and IntKind.i64 m 127 % 256) 64 == 0) = decide ((m % 128).toNat < 64) := by
        rw [hc]; exact and64z' _ (by omega)
      have hor : bits BinOp.or IntKind.u8 (bits BinOp.and IntKind.i64 m 127 % 256) 128 = (((m % 128).toNat + 128 : Nat) : Int) := by
        have := u8_or128_right (((m % 128).toNat : Nat) : Int) (by omega) (by omega)
        rw [hc, this]; omega
      have Hc := Lib.hid hc
      have Hor := Lib.hid hor
      clear hc hor
      by_cases hs : m < 64
      · have hq : m / 128 = 0 := by omega
        have hd : decide ((m % 128).toNat < 64) = true := by simp; omega
        rw [hd] at h64
        go_wp2_with (at_builtin; refine app_u8 rfl (.tmp 34) (.tmp 36) _ rfl _ _ _ rfl (hown.alloc _) _ _ _ rfl (src_new und_bytes _ _ _ _ rfl) hbnd ?_)
        intro v' w1 hown1 hf1 hb1
        have e2 : bs.length + 1 = (putS N).length := by rw [hg.out, putS_small m (by omega) (by omega)]; simp
        rw [Hc.out, ← B_small _ (by omega), e2, show bs.map B ++ [B (UInt8.ofNat (m % 128).toNat)] = (putS N).map B by rw [hg.out, putS_small m (by omega) (by omega)]; simp] at hown1
        clear e2 hq
        go_wp2
        go_ret
        exact ⟨v', rfl, hown1, hnew.app hb1 (by have := hfr.size; omega), (hfr.alloc _).app hf1 hnew⟩
      · by_cases hs2 : m < 128
        all_goals
          first
            | (have hq : m / 128 = 0 := by omega
               have hd : decide ((m % 128).toNat < 64) = false := by simp; omega
               rw [hd] at h64)
            | (have hq : (m / 128 == 0) = false := by simp; omega)
          go_wp2_with (at_builtin; refine app_u8 rfl (.tmp 38) (.tmp 41) _ rfl _ _ _ rfl (hown.alloc _) _ _ _ rfl (src_new und_bytes _ _ _ _ rfl) hbnd ?_)
          intro v' w1 hown1 hf1 hb1
          rw [Hor.out, ← B_small _ (by omega)] at hown1
          go_wp2
          go_roundw
          case rel =>
            refine ⟨m / 128, bs ++ [UInt8.ofNat ((m % 128).toNat + 128)], by first | rfl | rw [hq], by omega, by omega, by omega, by simpa using hown1, hnew.app hb1 (by have := hfr.size; omega), (hfr.alloc _).app hf1 hnew, Lib.hid ?_⟩
            rw [hg.out, putS_big m (by omega)]; simp
          case measure => simp [intOf]; omega


set_option maxRecDepth 100000 in
set_option maxHeartbeats 400000 in
theorem PutU_any (N : Nat) (w : World) (hN : N < 18446744073709551616) :
    Calls Tryd.prog 113 #[.int .u64 N] w fun e w' => ∃ v, e = .returned v ∧ Own [] w' 5 1 v (putU N).length ((putU N).map B) ∧ New w v ∧ Fr [] w w' := by
  go_enter Tryd.func113, Tryd.ntmps113
  go_wp2_with (go_at_call 141; refine (putU64_any N _ hN).mono ?_; rintro e w' ⟨v, rfl, h1, h2, h3⟩)
  go_ret
  exact ⟨_, rfl, h1, h2, h3⟩
set_option maxRecDepth 100000 in
set_option maxHeartbeats 400000 in
theorem PutS_any (N : Int) (w : World) (hlo : -9223372036854775808 ≤ N) (hhi : N < 9223372036854775808) :
    Calls Tryd.prog 115 #[.int .i64 N] w fun e w' => ∃ v, e = .returned v ∧ Own [] w' 5 1 v (putS N).length ((putS N).map B) ∧ New w v ∧ Fr [] w w' := by
  go_enter Tryd.func115, Tryd.ntmps115
  go_wp2_with (go_at_call 142; refine (putS64_any N _ hlo hhi).mono ?_; rintro e w' ⟨v, rfl, h1, h2, h3⟩)
  go_ret
  exact ⟨_, rfl, h1, h2, h3⟩

end Go.Proofs.YtokneepfknepaaaDoor
