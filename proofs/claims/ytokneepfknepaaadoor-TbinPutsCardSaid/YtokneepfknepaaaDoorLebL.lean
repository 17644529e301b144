/- Laws of the plain functions of layer 1: what is put is read, what is read is no shorter than what is put, bytes that are cut end too early. -/
import Derived.Test.YtokneepfknepaaaDoorLebP
set_option linter.unusedSimpArgs false
set_option linter.unusedVariables false
namespace Go.Proofs.YtokneepfknepaaaDoor

theorem u8_ofNat (n : Nat) (h : n < 256) : (UInt8.ofNat n).toNat = n := by simp; omega
theorem putU_small (n : Nat) (h : n < 128) : putU n = [UInt8.ofNat n] := by rw [putU]; simp [h]
theorem putU_big (n : Nat) (h : 128 ≤ n) : putU n = UInt8.ofNat (n % 128 + 128) :: putU (n / 128) := by rw [putU]; simp; omega
theorem putS_small (n : Int) (h : -64 ≤ n) (h' : n < 64) : putS n = [UInt8.ofNat (n % 128).toNat] := by rw [putS]; simp [h, h']
theorem putS_big (n : Int) (h : n < -64 ∨ 64 ≤ n) : putS n = UInt8.ofNat ((n % 128).toNat + 128) :: putS (n / 128) := by
  rw [putS, if_neg (by omega)]
theorem putU_pos (n : Nat) : 0 < (putU n).length := by
  by_cases h : n < 128
  · simp [putU_small n h]
  · simp [putU_big n (by omega)]
theorem putS_pos (n : Int) : 0 < (putS n).length := by
  by_cases h : -64 ≤ n ∧ n < 64
  · simp [putS_small n h.1 h.2]
  · simp [putS_big n (by omega)]

theorem fits_big (c left : Nat) (sg : Bool) (h : 7 ≤ left) : lebFits c left sg = true := by simp [lebFits, h]
theorem fits_u (c left : Nat) (h : c % 128 < 2 ^ left) : lebFits c left false = true := by
  unfold lebFits
  split
  · rfl
  · simp [Nat.div_eq_of_lt h]

theorem pow_add7 (d : Nat) : 2 ^ (d + 7) = 2 ^ d * 128 := by rw [Nat.pow_add]
theorem pow_sub7 {b : Nat} (h : 7 ≤ b) : 2 ^ b = 2 ^ (b - 7) * 128 := by rw [← pow_add7]; congr 1; omega
theorem pow_split {a b : Nat} (h : a ≤ b) : 2 ^ b = 2 ^ (b - a) * 2 ^ a := by rw [← Nat.pow_add]; congr 1; omega
theorem pow64 {b : Nat} (h : b ≤ 64) : 2 ^ b ≤ 18446744073709551616 := by
  have := Nat.pow_le_pow_right (n := 2) (by omega) h
  simpa using this

/-- acc + x * 2^d < 2^b, if acc < 2^d, x < 2^(b-d). -/
theorem join_lt {acc x d b : Nat} (ha : acc < 2 ^ d) (hx : x < 2 ^ (b - d)) (hd : d ≤ b) : acc + x * 2 ^ d < 2 ^ b := by
  rw [pow_split hd]
  have := Nat.mul_le_mul_right (2 ^ d) (Nat.succ_le_of_lt hx)
  rw [Nat.succ_mul] at this
  omega

theorem lebGo_putU (bits : Nat) (hb : bits ≤ 64) : ∀ (k n : Nat), n ≤ k → ∀ (rest : List UInt8) (at_ done acc : Nat), done < bits → acc < 2 ^ done → n < 2 ^ (bits - done) →
    lebGo false bits (putU n ++ rest) at_ done acc = (acc + n * 2 ^ done, at_ + (putU n).length, 0) := by
  intro k
  induction k with
  | zero =>
    intro n hn rest at_ done acc hd ha hx
    obtain rfl : n = 0 := by omega
    have h1 := join_lt ha hx (by omega)
    have := pow64 hb
    rw [putU_small 0 (by omega)]
    simp only [List.cons_append, List.nil_append, lebGo]
    rw [fits_u _ _ (by simpa using hx)]
    simp
    simp at h1
    omega
  | succ k ih =>
    intro n hn rest at_ done acc hd ha hx
    have h1 := join_lt ha hx (by omega)
    have h64 := pow64 hb
    by_cases hs : n < 128
    · rw [putU_small n hs]
      simp only [List.cons_append, List.nil_append, lebGo]
      have e : (UInt8.ofNat n).toNat = n := u8_ofNat n (by omega)
      have e2 : n % 128 = n := by omega
      rw [e, e2, fits_u _ _ (by rw [e2]; exact hx)]
      rw [Nat.mod_eq_of_lt (by omega)]
      simp [hs]
    · rw [putU_big n (by omega)]
      simp only [List.cons_append, lebGo]
      have e : (UInt8.ofNat (n % 128 + 128)).toNat = n % 128 + 128 := u8_ofNat _ (by omega)
      have e2 : (n % 128 + 128) % 128 = n % 128 := by omega
      have hl : 8 ≤ bits - done := by
        rcases Nat.lt_or_ge (bits - done) 8 with h | h
        · have : 2 ^ (bits - done) ≤ 2 ^ 7 := Nat.pow_le_pow_right (by omega) (by omega)
          omega
        · exact h
      have hx' : n / 128 < 2 ^ (bits - (done + 7)) := by
        have := pow_sub7 (b := bits - done) (by omega)
        rw [show bits - done - 7 = bits - (done + 7) by omega] at this
        omega
      have hlt : acc + n % 128 * 2 ^ done < 2 ^ (done + 7) := join_lt ha (by rw [show done + 7 - done = 7 by omega]; omega) (by omega)
      have hle : 2 ^ (done + 7) ≤ 2 ^ bits := Nat.pow_le_pow_right (by omega) (by omega)
      rw [e, e2, fits_big _ _ _ (by omega), Nat.mod_eq_of_lt (a := acc + n % 128 * 2 ^ done) (by omega), if_neg (by simp), if_neg (by omega), if_neg (by omega)]
      rw [ih (n / 128) (by omega) rest (at_ + 1) (done + 7) _ (by omega) hlt hx']
      have hn : n * 2 ^ done = n % 128 * 2 ^ done + n / 128 * 2 ^ (done + 7) := by
        conv => lhs; rw [← Nat.mod_add_div n 128]
        rw [Nat.add_mul, pow_add7, Nat.mul_comm 128 (n / 128), Nat.mul_assoc, Nat.mul_comm 128]
      simp [hn]
      omega

/-- The value of a row that ends in a byte with the sign: as a number of 64 bits. -/
def lebVal (acc : Nat) (n : Int) (done : Nat) : Nat := ((acc : Int) + n * 2 ^ done).toNat

theorem fits_s (n : Int) (left : Nat) (h1 : 1 ≤ left) (hlo : -(2 ^ (left - 1)) ≤ n) (hhi : n < 2 ^ (left - 1)) (hs : -64 ≤ n) (hs' : n < 64) :
    lebFits ((n % 128).toNat) left true = true := by
  unfold lebFits
  split
  · rfl
  · rename_i h7
    have hc : left = 1 ∨ left = 2 ∨ left = 3 ∨ left = 4 ∨ left = 5 ∨ left = 6 := by omega
    have hm : ((n % 128).toNat) % 128 = (n % 128).toNat := by omega
    simp only [hm, if_true]
    rw [Bool.or_eq_true, beq_iff_eq, beq_iff_eq]
    rcases hc with rfl | rfl | rfl | rfl | rfl | rfl <;> simp at hlo hhi ⊢ <;> omega

theorem toI64_small (n : Nat) (h : n < 9223372036854775808) : toI64 n = n := by simp [toI64, h]
theorem toI64_neg (n : Nat) (h : 9223372036854775808 ≤ n) : toI64 n = (n : Int) - 18446744073709551616 := by simp [toI64]; omega

/-- the last byte of a signed number -/
theorem last_s (acc : Nat) (n : Int) (done : Nat) (hd : done < 64) (h7 : done % 7 = 0) (ha : acc < 2 ^ done) (hs : -64 ≤ n) (hs' : n < 64) (h63 : done = 63 → -1 ≤ n ∧ n < 1) (sg : Bool) (hsg : sg = decide (64 ≤ (n % 128).toNat)) :
    toI64 (if sg then lebSign ((acc + (n % 128).toNat % 128 * 2 ^ done) % 18446744073709551616) (done + 7) else (acc + (n % 128).toNat % 128 * 2 ^ done) % 18446744073709551616) = (acc : Int) + n * 2 ^ done := by
  have hc : done = 0 ∨ done = 7 ∨ done = 14 ∨ done = 21 ∨ done = 28 ∨ done = 35 ∨ done = 42 ∨ done = 49 ∨ done = 56 ∨ done = 63 := by omega
  by_cases hn : 0 ≤ n
  · have : sg = false := by rw [hsg]; simp; omega
    subst this
    have e : (n % 128).toNat % 128 = n.toNat := by omega
    rw [e]
    simp only [Bool.false_eq_true, if_false]
    unfold toI64
    rcases hc with rfl | rfl | rfl | rfl | rfl | rfl | rfl | rfl | rfl | rfl <;> simp at ha h63 ⊢ <;> split <;> omega
  · have : sg = true := by rw [hsg]; simp; omega
    subst this
    have e : (n % 128).toNat % 128 = (n + 128).toNat := by omega
    rw [e]
    simp only [if_true]
    unfold toI64 lebSign
    rcases hc with rfl | rfl | rfl | rfl | rfl | rfl | rfl | rfl | rfl | rfl <;> simp at ha h63 ⊢ <;> split <;> omega

theorem lebGo_putS (bits : Nat) (hb : bits ≤ 64) : ∀ (k : Nat) (n : Int), n.natAbs ≤ k → ∀ (rest : List UInt8) (at_ done acc : Nat), done < bits → done % 7 = 0 → acc < 2 ^ done →
    -(2 ^ (bits - done - 1)) ≤ n → n < 2 ^ (bits - done - 1) →
    ∃ v, lebGo true bits (putS n ++ rest) at_ done acc = (v, at_ + (putS n).length, 0) ∧ toI64 v = (acc : Int) + n * 2 ^ done := by
  intro k
  induction k with
  | zero =>
    intro n hn rest at_ done acc hd h7 ha hlo hhi
    obtain rfl : n = 0 := by omega
    rw [putS_small 0 (by omega) (by omega)]
    simp only [List.cons_append, List.nil_append, lebGo]
    have := last_s acc 0 done (by omega) h7 ha (by omega) (by omega) (by omega) false (by simp)
    have f := fits_s 0 (bits - done) (by omega) hlo hhi (by omega) (by omega)
    simp at f
    refine ⟨_, ?_, this⟩
    simp [f]
  | succ k ih =>
    intro n hn rest at_ done acc hd h7 ha hlo hhi
    by_cases hs : -64 ≤ n ∧ n < 64
    · rw [putS_small n hs.1 hs.2]
      simp only [List.cons_append, List.nil_append, lebGo]
      have e : (UInt8.ofNat (n % 128).toNat).toNat = (n % 128).toNat := u8_ofNat _ (by omega)
      have := last_s acc n done (by omega) h7 ha hs.1 hs.2 (by
        rintro rfl
        have : bits = 64 := by omega
        subst this
        simp at hlo hhi; omega) (true && decide (64 ≤ (n % 128).toNat)) (by simp)
      rw [e, fits_s n (bits - done) (by omega) hlo hhi hs.1 hs.2]
      refine ⟨_, ?_, this⟩
      rw [if_neg (by simp), if_pos (by omega)]
      simp
    · have hl : 8 ≤ bits - done := by
        rcases Nat.lt_or_ge (bits - done) 8 with h | h
        · have h2 : (2 : Int) ^ (bits - done - 1) ≤ 2 ^ 6 := by
            have : 2 ^ (bits - done - 1) ≤ 2 ^ 6 := Nat.pow_le_pow_right (by omega) (by omega)
            exact_mod_cast this
          omega
        · exact h
      rw [putS_big n (by omega)]
      simp only [List.cons_append, lebGo]
      have e : (UInt8.ofNat ((n % 128).toNat + 128)).toNat = (n % 128).toNat + 128 := u8_ofNat _ (by omega)
      have e2 : ((n % 128).toNat + 128) % 128 = (n % 128).toNat := by omega
      have hlt : acc + (n % 128).toNat * 2 ^ done < 2 ^ (done + 7) := join_lt ha (by rw [show done + 7 - done = 7 by omega]; omega) (by omega)
      have hle : 2 ^ (done + 7) ≤ 2 ^ bits := Nat.pow_le_pow_right (by omega) (by omega)
      have h64 := pow64 hb
      have hp : (2 : Int) ^ (bits - done - 1) = 2 ^ (bits - (done + 7) - 1) * 128 := by
        have := pow_sub7 (b := bits - done - 1) (by omega)
        rw [show bits - done - 1 - 7 = bits - (done + 7) - 1 by omega] at this
        exact_mod_cast this
      rw [e, e2, fits_big _ _ _ (by omega), Nat.mod_eq_of_lt (a := acc + (n % 128).toNat * 2 ^ done) (by omega), if_neg (by simp), if_neg (by omega), if_neg (by omega)]
      obtain ⟨v, h1, h2⟩ := ih (n / 128) (by omega) rest (at_ + 1) (done + 7) _ (by omega) (by omega) hlt (by omega) (by omega)
      refine ⟨v, ?_, ?_⟩
      · rw [h1]; simp; omega
      · rw [h2]
        have hn : n * 2 ^ done = n % 128 * 2 ^ done + n / 128 * 2 ^ (done + 7) := by
          conv => lhs; rw [← Int.emod_add_mul_ediv n 128]
          rw [Int.add_mul, show (2 : Int) ^ (done + 7) = 2 ^ done * 128 from by rw [Int.pow_add]; rfl, Int.mul_comm 128 (n / 128), Int.mul_assoc, Int.mul_comm 128]
        rw [hn]
        have : (((n % 128).toNat : Nat) : Int) = n % 128 := Int.toNat_of_nonneg (by omega)
        push_cast
        rw [this]
        omega

/-- What is read: the place moves on, within the bytes. -/
theorem lebGo_ok (sg : Bool) (bits : Nat) : ∀ (l : List UInt8) (at_ done acc v nx : Nat), lebGo sg bits l at_ done acc = (v, nx, 0) → at_ < nx ∧ nx ≤ at_ + l.length := by
  intro l
  induction l with
  | nil => intro at_ done acc v nx h; simp [lebGo] at h
  | cons c r ih =>
    intro at_ done acc v nx h
    simp only [lebGo] at h
    split at h
    · simp at h
    · split at h
      · simp at h
        exact ⟨by omega, by simp; omega⟩
      · split at h
        · simp at h
        · have := ih _ _ _ _ _ h
          simp; omega

theorem fits_u_back (c left : Nat) (h : lebFits c left false = true) (hc : c < 128) : c < 2 ^ left := by
  unfold lebFits at h
  split at h
  · have : 2 ^ 7 ≤ 2 ^ left := Nat.pow_le_pow_right (by omega) (by omega)
    omega
  · simp at h
    omega

theorem lebGo_back_u (bits : Nat) (hb : bits ≤ 64) : ∀ (l : List UInt8) (at_ done acc v nx : Nat), done < bits → acc < 2 ^ done → lebGo false bits l at_ done acc = (v, nx, 0) →
    ∃ n, v = acc + n * 2 ^ done ∧ n < 2 ^ (bits - done) ∧ at_ + (putU n).length ≤ nx := by
  intro l
  induction l with
  | nil => intro at_ done acc v nx _ _ h; simp [lebGo] at h
  | cons c r ih =>
    intro at_ done acc v nx hd ha h
    have h64 := pow64 hb
    simp only [lebGo] at h
    split at h
    · simp at h
    · rename_i hf
      have hf : lebFits c.toNat (bits - done) false = true := by simpa using hf
      split at h
      · rename_i hc
        simp at h
        have hx := fits_u_back _ _ hf hc
        have h1 := join_lt ha hx (by omega)
        have e : c.toNat % 128 = c.toNat := by omega
        rw [e, Nat.mod_eq_of_lt (by omega)] at h
        refine ⟨c.toNat, h.1.symm, hx, ?_⟩
        rw [putU_small _ hc]; simp; omega
      · rename_i hc
        split at h
        · simp at h
        · rename_i hbd
          have hlt : acc + c.toNat % 128 * 2 ^ done < 2 ^ (done + 7) := join_lt ha (by rw [show done + 7 - done = 7 by omega]; omega) (by omega)
          have hle : 2 ^ (done + 7) ≤ 2 ^ bits := Nat.pow_le_pow_right (by omega) (by omega)
          rw [Nat.mod_eq_of_lt (a := acc + c.toNat % 128 * 2 ^ done) (by omega)] at h
          obtain ⟨n, h1, h2, h3⟩ := ih _ _ _ _ _ (by omega) hlt h
          have hp := pow_sub7 (b := bits - done) (by omega)
          rw [show bits - done - 7 = bits - (done + 7) by omega] at hp
          refine ⟨c.toNat % 128 + n * 128, ?_, by omega, ?_⟩
          · rw [h1, Nat.add_mul, pow_add7, Nat.mul_assoc, Nat.mul_comm 128, Nat.add_assoc]
          · by_cases hs : c.toNat % 128 + n * 128 < 128
            · rw [putU_small _ hs]; simp; omega
            · rw [putU_big _ (by omega), show (c.toNat % 128 + n * 128) / 128 = n by omega]; simp; omega

theorem fits_s_back (c left : Nat) (h1 : 1 ≤ left) (h : lebFits c left true = true) (hc : c < 128) :
    -(2 ^ (left - 1)) ≤ (if 64 ≤ c then (c : Int) - 128 else c) ∧ (if 64 ≤ c then (c : Int) - 128 else c) < 2 ^ (left - 1) := by
  unfold lebFits at h
  split at h
  · have : 2 ^ 6 ≤ 2 ^ (left - 1) := Nat.pow_le_pow_right (by omega) (by omega)
    have : (64 : Int) ≤ 2 ^ (left - 1) := by exact_mod_cast this
    split <;> omega
  · have hl : left = 1 ∨ left = 2 ∨ left = 3 ∨ left = 4 ∨ left = 5 ∨ left = 6 := by omega
    have hm : c % 128 = c := by omega
    simp only [hm, if_true] at h
    rw [Bool.or_eq_true, beq_iff_eq, beq_iff_eq] at h
    rcases hl with rfl | rfl | rfl | rfl | rfl | rfl <;> simp at h ⊢ <;> split <;> omega

theorem lebGo_back_s (bits : Nat) (hb : bits ≤ 64) : ∀ (l : List UInt8) (at_ done acc v nx : Nat), done < bits → done % 7 = 0 → acc < 2 ^ done → lebGo true bits l at_ done acc = (v, nx, 0) →
    ∃ n : Int, toI64 v = (acc : Int) + n * 2 ^ done ∧ -(2 ^ (bits - done - 1)) ≤ n ∧ n < 2 ^ (bits - done - 1) ∧ at_ + (putS n).length ≤ nx := by
  intro l
  induction l with
  | nil => intro at_ done acc v nx _ _ _ h; simp [lebGo] at h
  | cons c r ih =>
    intro at_ done acc v nx hd h7 ha h
    have h64 := pow64 hb
    simp only [lebGo] at h
    split at h
    · simp at h
    · rename_i hf
      have hf : lebFits c.toNat (bits - done) true = true := by simpa using hf
      split at h
      · rename_i hc
        have hx := fits_s_back _ _ (by omega) hf hc
        generalize hn : (if 64 ≤ c.toNat then (c.toNat : Int) - 128 else c.toNat) = n at hx
        have e : (n % 128).toNat = c.toNat := by rw [← hn]; split <;> omega
        have hr : -64 ≤ n ∧ n < 64 := by rw [← hn]; split <;> omega
        have hl := last_s acc n done (by omega) h7 ha hr.1 hr.2 (by
          rintro rfl
          have : bits = 64 := by omega
          subst this
          simp at hx; omega) (true && decide (64 ≤ c.toNat)) (by simp [e])
        rw [e] at hl
        simp only [Prod.mk.injEq] at h
        refine ⟨n, ?_, hx.1, hx.2, ?_⟩
        · rw [← h.1]; exact hl
        · rw [putS_small _ hr.1 hr.2]; simp; omega
      · rename_i hc
        split at h
        · simp at h
        · rename_i hbd
          have hlt : acc + c.toNat % 128 * 2 ^ done < 2 ^ (done + 7) := join_lt ha (by rw [show done + 7 - done = 7 by omega]; omega) (by omega)
          have hle : 2 ^ (done + 7) ≤ 2 ^ bits := Nat.pow_le_pow_right (by omega) (by omega)
          rw [Nat.mod_eq_of_lt (a := acc + c.toNat % 128 * 2 ^ done) (by omega)] at h
          obtain ⟨n, h1, h2, h3, h4⟩ := ih _ _ _ _ _ (by omega) (by omega) hlt h
          have hp : (2 : Int) ^ (bits - done - 1) = 2 ^ (bits - (done + 7) - 1) * 128 := by
            have := pow_sub7 (b := bits - done - 1) (by omega)
            rw [show bits - done - 1 - 7 = bits - (done + 7) - 1 by omega] at this
            exact_mod_cast this
          refine ⟨(c.toNat % 128 : Nat) + n * 128, ?_, by omega, by omega, ?_⟩
          · rw [h1, Int.add_mul, show (2 : Int) ^ (done + 7) = 2 ^ done * 128 from by rw [Int.pow_add]; rfl, Int.mul_assoc, Int.mul_comm 128, ← Int.add_assoc]
            push_cast
            rfl
          · by_cases hs : -64 ≤ ((c.toNat % 128 : Nat) : Int) + n * 128 ∧ ((c.toNat % 128 : Nat) : Int) + n * 128 < 64
            · rw [putS_small _ hs.1 hs.2]; simp; have := putS_pos n; omega
            · rw [putS_big _ (by omega), show (((c.toNat % 128 : Nat) : Int) + n * 128) / 128 = n by omega]; simp; omega

/-- The value is a number of 64 bits. -/
theorem lebGo_lt (sg : Bool) (bits : Nat) : ∀ (l : List UInt8) (at_ done acc : Nat), acc < 2 ^ done → (lebGo sg bits l at_ done acc).1 < 18446744073709551616 := by
  intro l
  induction l with
  | nil => intro at_ done acc _; simp [lebGo]
  | cons c r ih =>
    intro at_ done acc ha
    have hlt : acc + c.toNat % 128 * 2 ^ done < 2 ^ (done + 7) := join_lt ha (by rw [show done + 7 - done = 7 by omega]; omega) (by omega)
    have hm : (acc + c.toNat % 128 * 2 ^ done) % 18446744073709551616 < 2 ^ (done + 7) := Nat.lt_of_le_of_lt (Nat.mod_le _ _) hlt
    simp only [lebGo]
    split
    · simp
    · split
      · simp only
        split
        · unfold lebSign
          split
          · rename_i hd
            have := pow64 (b := done + 7) (by omega)
            omega
          · exact Nat.mod_lt _ (by omega)
        · exact Nat.mod_lt _ (by omega)
      · split
        · simp
        · exact ih _ _ _ hm

theorem lebGo_cut (sg : Bool) (bits : Nat) : ∀ (l : List UInt8) (at_ done acc v nx m : Nat), lebGo sg bits l at_ done acc = (v, nx, 0) →
    lebGo sg bits (l.take m) at_ done acc = if at_ + m < nx then (0, 0, 10) else (v, nx, 0) := by
  intro l
  induction l with
  | nil => intro at_ done acc v nx m h; simp [lebGo] at h
  | cons c r ih =>
    intro at_ done acc v nx m h
    have hok := lebGo_ok _ _ _ _ _ _ _ _ h
    cases m with
    | zero => simp [lebGo]; omega
    | succ m =>
      simp only [List.take_succ_cons, lebGo] at h ⊢
      split at h
      · simp at h
      · rename_i hf
        rw [if_neg hf]
        split at h
        · rename_i hc
          rw [if_pos hc, h]
          simp at h
          rw [if_neg (by omega)]
        · rename_i hc
          rw [if_neg hc]
          split at h
          · simp at h
          · rename_i hb
            rw [if_neg hb, ih _ _ _ _ _ m h]
            simp only [show at_ + 1 + m = at_ + (m + 1) by omega]

end Go.Proofs.YtokneepfknepaaaDoor
