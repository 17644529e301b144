/- The walks of the document's answers: numbers in bytes (layer 1), the heap type of a byte (layer 6). -/
import Derived.Test.YtokneepfknepaaaDoorPutWC
import Derived.Test.YtokneepfknepaaaDoorTbinL2
set_option linter.unusedSimpArgs false
set_option linter.unusedVariables false
namespace Go.Proofs.YtokneepfknepaaaDoor
open Go.RowKit

theorem putU_lt {n : Nat} (h : n < 128) : putU n = [UInt8.ofNat n] := by rw [putU, if_pos h]
theorem putU_ge {n : Nat} (h : ¬ n < 128) : putU n = UInt8.ofNat (n % 128 + 128) :: putU (n / 128) := by rw [putU, if_neg h]
theorem Out.made {w : World} {g : Nat} (hg : w.heap.size = g) (c : UInt8) {u : Value} (hu : u = B c) : Out (w.alloc (.cells #[u] 5)) (.slice (some ⟨g, 0, none⟩) 1 1) [c] := by
  subst hg hu
  exact Own.made (S := []) 5 1 1 [B c] (by simp) rfl (by intro u hu; simp at hu; subst hu; rfl) (by decide)
theorem newAt1 {w0 : World} {g : Nat} (hs : w0.heap.size ≤ g) (n c : Nat) : New w0 (.slice (some ⟨g, 0, none⟩) n c) := by intro b hb; simp [Value.blk] at hb; omega

set_option maxRecDepth 100000 in
set_option maxHeartbeats 800000 in
theorem refPutU_any (N : Nat) : ∀ (w : World), N < 18446744073709551616 →
    Calls Tryd.prog 72 #[.int .u64 N] w fun e w' => ∃ v, e = .returned v ∧ Out w' v (putU N) ∧ New w v ∧ Fr [] w w' := by
  induction N using Nat.strongRecOn with
  | _ N ih =>
    intro w hN
    have hsz := fun o => World.size_alloc w o
    by_cases hlt : N < 128
    · have hp := Lib.hid (putU_lt hlt)
      have hi : (N : Int) < 128 := by omega
      clear ih
      go_enter Tryd.func72, Tryd.ntmps72
      go_wp2
      go_ret
      rw [hp.out]
      exact ⟨_, rfl, Out.made rfl _ (B_small N (by omega)).symm, newAt1 (Nat.le_refl _) _ _, (Fr.refl _ _).alloc _⟩
    · have hp := Lib.hid (putU_ge hlt)
      have hi : ¬ (N : Int) < 128 := by omega
      have c : ∀ w', Calls Tryd.prog 72 #[.int .u64 ((N : Int) / 128)] w' fun e w'' => ∃ v, e = .returned v ∧ Out w'' v (putU (N / 128)) ∧ New w' v ∧ Fr [] w' w'' := fun w' => by
        have := ih (N / 128) (by omega) w' (by omega)
        rwa [show ((N / 128 : Nat) : Int) = (N : Int) / 128 by omega] at this
      have hl := putU_len (N / 128) (by omega)
      have hb : 1 + (putU (N / 128)).length ≤ 140737488355328 := by omega
      clear ih hl
      have Hc := Lib.hid c
      clear c
      have hO : Out (w.alloc (.cells #[.int .u8 ((N : Int) % 128 + 128)] 5)) (.slice (some ⟨w.heap.size, 0, none⟩) 1 1) [UInt8.ofNat (N % 128 + 128)] := Out.made rfl _ (by rw [B_small _ (by omega)]; congr 1)
      have f1 : Fr [] w (w.alloc (.cells #[.int .u8 ((N : Int) % 128 + 128)] 5)) := (Fr.refl _ _).alloc _
      go_enter Tryd.func72, Tryd.ntmps72
      go_wp2_with first | (go_at_call 72; refine (Hc.out _).mono ?_; rintro e w1 ⟨v1, rfl, ho1, hn1, hf1⟩; have hO1 := hO.fr0 hf1) | (at_builtin; refine app_u8 rfl (.tmp 12) (.tmp 15) _ rfl _ _ _ rfl hO1 _ _ _ rfl ((Own.sl ho1 (S' := []) (by simp)).src und_bytes) hb ?_; intro v2 w2 hown2 hf2 hb2)
      go_ret
      rw [hp.out]
      have f2 := f1.trans hf1
      have hnew : New w (.slice (some ⟨w.heap.size, 0, none⟩) 1 1) := newAt1 (Nat.le_refl _) _ _
      exact ⟨_, rfl, Out.app (xs := [_]) hown2, hnew.app hb2 f2.size, f2.app hf2 hnew⟩

theorem tdiv128 (n : Int) : n.tdiv 128 = if 0 ≤ n then n / 128 else -((-n) / 128) := by
  split
  · rename_i h
    exact Int.tdiv_eq_ediv_of_nonneg h
  · have h1 := Int.neg_tdiv (-n) 128
    rw [Int.neg_neg] at h1
    rw [h1, Int.tdiv_eq_ediv_of_nonneg (by omega)]
theorem tmod128 (n : Int) : n.tmod 128 = n - 128 * n.tdiv 128 := Int.tmod_def n 128
theorem less_eq (n : Int) (h : n < 0) (q : (n.tmod 128 != 0) = true) : n.tdiv 128 - n / 128 = 1 := by
  have : n.tmod 128 ≠ 0 := by simpa using q
  rw [tmod128, tdiv128, if_neg (by omega)] at this
  rw [tdiv128, if_neg (by omega)]
  omega
theorem less_eq0 (n : Int) (h : n < 0) (q : (n.tmod 128 != 0) = false) : n.tdiv 128 - n / 128 = 0 := by
  have : n.tmod 128 = 0 := by simpa using q
  rw [tmod128, tdiv128, if_neg (by omega)] at this
  rw [tdiv128, if_neg (by omega)]
  omega
theorem less_eqp (n : Int) (h : 0 ≤ n) : n.tdiv 128 - n / 128 = 0 := by
  rw [tdiv128, if_pos h]
  omega
theorem u64mod (n : Int) : (IntKind.u64.wrap n).tmod 128 = n % 128 := by
  have h : IntKind.u64.wrap n = n % 18446744073709551616 := rfl
  rw [h, Int.tmod_eq_emod_of_nonneg (by omega)]
  omega

set_option maxRecDepth 100000 in
set_option maxHeartbeats 400000 in
theorem refLess_any (w : World) (n : Int) : Calls Tryd.prog 114 #[.int .i64 n] w fun e w' => ∃ d, e = .returned (.int .i64 d) ∧ n.tdiv 128 - d = n / 128 ∧ w' = w := by
  go_enter Tryd.func114, Tryd.ntmps114
  go_wp2
  all_goals
    go_ret
    refine ⟨_, rfl, ?_, rfl⟩
    first | (have := less_eq n (by assumption) (by assumption); omega) | (have := less_eq0 n (by assumption) (by assumption); omega) | (have := less_eqp n (by assumption); omega)

theorem refLess_pos (w : World) (n : Int) (h : 0 ≤ n) : Calls Tryd.prog 114 #[.int .i64 n] w fun e w' => e = .returned (.int .i64 0) ∧ w' = w :=
  (refLess_any w n).mono fun e w' hq => by
    obtain ⟨d, rfl, hd, rfl⟩ := hq
    rw [tdiv128, if_pos h] at hd
    exact ⟨by rw [show d = 0 by omega], rfl⟩

set_option maxRecDepth 100000 in
set_option maxHeartbeats 800000 in
theorem refPutS_any (k : Nat) : ∀ (n : Int) (w : World), n.natAbs ≤ k → -9223372036854775808 ≤ n → n < 9223372036854775808 →
    Calls Tryd.prog 70 #[.int .i64 n] w fun e w' => ∃ v, e = .returned v ∧ Out w' v (putS n) ∧ New w v ∧ Fr [] w w' := by
  induction k using Nat.strongRecOn with
  | _ k ih =>
    intro n w hk h0 h1
    have hsz := fun o => World.size_alloc w o
    have hu := u64mod n
    by_cases hlt : -64 ≤ n ∧ n < 64
    · obtain ⟨g1, g2⟩ := hlt
      have hp := Lib.hid (putS_small n g1 g2)
      clear ih
      go_enter Tryd.func70, Tryd.ntmps70
      go_wp2
      go_ret
      rw [hp.out]
      refine ⟨_, rfl, Out.made rfl _ ?_, newAt1 (Nat.le_refl _) _ _, (Fr.refl _ _).alloc _⟩
      rw [B_small _ (by omega)]
      exact congrArg (Value.int .u8) (by omega)
    · have hbig : n < -64 ∨ 64 ≤ n := by omega
      have hp := Lib.hid (putS_big n hbig)
      have c : ∀ w', Calls Tryd.prog 70 #[.int .i64 (n / 128)] w' fun e w'' => ∃ v, e = .returned v ∧ Out w'' v (putS (n / 128)) ∧ New w' v ∧ Fr [] w' w'' := fun w' => by
        exact ih (n / 128).natAbs (by omega) (n / 128) w' (Nat.le_refl _) (by omega) (by omega)
      have hO : Out (w.alloc (.cells #[.int .u8 (n % 128 + 128)] 5)) (.slice (some ⟨w.heap.size, 0, none⟩) 1 1) [UInt8.ofNat ((n % 128).toNat + 128)] := Out.made rfl _ (by rw [B_small _ (by omega)]; exact congrArg (Value.int .u8) (by omega))
      have f1 : Fr [] w (w.alloc (.cells #[.int .u8 (n % 128 + 128)] 5)) := (Fr.refl _ _).alloc _
      have hnew : New w (.slice (some ⟨w.heap.size, 0, none⟩) 1 1) := newAt1 (Nat.le_refl _) _ _
      have hl := putS_len (n / 128) (by omega) (by omega)
      have hb : 1 + (putS (n / 128)).length ≤ 140737488355328 := by omega
      clear ih hl
      have Hc := Lib.hid c
      clear c
      rcases hbig with g | g
      · go_enter Tryd.func70, Tryd.ntmps70
        go_wp2_with first | (go_at_call 114; refine (refLess_any _ n).mono ?_; rintro e w1 ⟨d, rfl, hd, rfl⟩) | (go_at_call 70; (try rw [hd]); (with_reducible refine (Hc.out _).mono ?_); rintro e w1 ⟨v1, rfl, ho1, hn1, hf1⟩; have hO1 := hO.fr0 hf1) | (at_builtin; refine app_u8 rfl (.tmp 22) (.tmp 28) _ rfl _ _ _ rfl hO1 _ _ _ rfl ((Own.sl ho1 (S' := []) (by simp)).src und_bytes) hb ?_; intro v2 w2 hown2 hf2 hb2)
        go_ret
        rw [hp.out]
        have f2 := f1.trans hf1
        exact ⟨_, rfl, Out.app (xs := [_]) hown2, hnew.app hb2 f2.size, f2.app hf2 hnew⟩
      · go_enter Tryd.func70, Tryd.ntmps70
        go_wp2_with first | (go_at_call 114; refine (refLess_pos _ n (by omega)).mono ?_; rintro e w1 ⟨rfl, rfl⟩) | (go_at_call 70; (with_reducible refine (Hc.out _).mono ?_); rintro e w1 ⟨v1, rfl, ho1, hn1, hf1⟩; have hO1 := hO.fr0 hf1) | (at_builtin; refine app_u8 rfl (.tmp 22) (.tmp 28) _ rfl _ _ _ rfl hO1 _ _ _ rfl ((Own.sl ho1 (S' := []) (by simp)).src und_bytes) hb ?_; intro v2 w2 hown2 hf2 hb2)
        go_ret
        rw [hp.out]
        have f2 := f1.trans hf1
        exact ⟨_, rfl, Out.app (xs := [_]) hown2, hnew.app hb2 f2.size, f2.app hf2 hnew⟩

set_option maxRecDepth 100000 in
set_option maxHeartbeats 1600000 in
theorem refGiven_any (w : World) (c : Nat) (hc : c < 256) : Calls Tryd.prog 71 #[.int .u8 c] w fun e w' => e = .returned (.int .i64 (givenK c)) ∧ w' = w := by
  by_cases h : 105 ≤ c ∧ c ≤ 116
  · obtain ⟨h1, h2⟩ := h
    rcases (show c = 105 ∨ c = 106 ∨ c = 107 ∨ c = 108 ∨ c = 109 ∨ c = 110 ∨ c = 111 ∨ c = 112 ∨ c = 113 ∨ c = 114 ∨ c = 115 ∨ c = 116 by omega) with h | h | h | h | h | h | h | h | h | h | h | h
    all_goals
      subst h
      go_enter Tryd.func71, Tryd.ntmps71
      go_wp2
      go_ret
      exact ⟨rfl, rfl⟩
  · have hk : givenK c = 0 := by
      unfold givenK
      rw [if_pos (by omega)]
    rw [hk]
    have g : ∀ k : Int, 105 ≤ k → k ≤ 116 → ((c : Int) == k) = false := by
      intro k h1 h2
      simp
      omega
    have g5 := g 105 (by decide) (by decide)
    have g6 := g 106 (by decide) (by decide)
    have g7 := g 107 (by decide) (by decide)
    have g8 := g 108 (by decide) (by decide)
    have g9 := g 109 (by decide) (by decide)
    have g10 := g 110 (by decide) (by decide)
    have g11 := g 111 (by decide) (by decide)
    have g12 := g 112 (by decide) (by decide)
    have g13 := g 113 (by decide) (by decide)
    have g14 := g 114 (by decide) (by decide)
    have g15 := g 115 (by decide) (by decide)
    have g16 := g 116 (by decide) (by decide)
    clear g hk h
    go_enter Tryd.func71, Tryd.ntmps71
    go_wp2
    go_ret
    exact ⟨rfl, rfl⟩
end Go.Proofs.YtokneepfknepaaaDoor
