
/- Plain laws of bits (layer 19): words of truths, the shortest bits, one bit of them. -/
import Derived.Test.YthdbddolkfibkaaGreatDoorKit
set_option linter.unusedSimpArgs false
set_option linter.unusedVariables false
namespace Go.Proofs.YthdbddolkfibkaaGreatDoor
def wordB : List Bool → Nat
  | [] => 0
  | b :: r => b.toNat + 2 * wordB r
theorem wordB_lt : ∀ l, wordB l < 2 ^ l.length
  | [] => by simp [wordB]
  | b :: r => by
    have := wordB_lt r
    have hb : b.toNat ≤ 1 := by cases b <;> simp
    simp only [wordB, List.length_cons, Nat.pow_succ]
    omega
theorem wordB_snoc : ∀ l b, wordB (l ++ [b]) = wordB l + b.toNat * 2 ^ l.length
  | [], b => by simp [wordB]
  | a :: r, b => by
    simp only [List.cons_append, wordB, wordB_snoc r b, List.length_cons, Nat.pow_succ, Nat.mul_add]
    rw [← Nat.add_assoc, Nat.mul_left_comm 2, Nat.mul_comm 2 (2 ^ _)]
theorem wordB_bit : ∀ l k, wordB l / 2 ^ k % 2 = (l.getD k false).toNat
  | [], k => by simp [wordB]
  | b :: r, 0 => by cases b <;> simp [wordB] <;> omega
  | b :: r, k + 1 => by
    have h := wordB_bit r k
    have e : wordB (b :: r) / 2 ^ (k + 1) = wordB r / 2 ^ k := by
      rw [Nat.pow_succ, Nat.mul_comm, ← Nat.div_div_eq_div_mul]
      congr 1
      simp only [wordB]
      cases b <;> simp <;> omega
    rw [e, h]; simp
theorem wordB_or (l : List Bool) : wordB l ||| 2 ^ l.length = wordB (l ++ [true]) := by
  rw [wordB_snoc]
  have h := Nat.two_pow_add_eq_or_of_lt (wordB_lt l) 1
  simp only [Nat.mul_one] at h
  rw [Nat.or_comm, ← h]
  simp [Nat.add_comm]
theorem wordB_false (l : List Bool) : wordB (l ++ [false]) = wordB l := by rw [wordB_snoc]; simp
/-- The number of words of n bits. -/
def wordsN (n : Nat) : Nat := (n + 63) / 64
/-- The j-th word. -/
def wordAt (l : List Bool) (j : Nat) : Nat := wordB ((l.drop (64 * j)).take 64)
theorem wordAt_lt (l : List Bool) (j : Nat) : wordAt l j < 2 ^ 64 := by
  have := wordB_lt ((l.drop (64 * j)).take 64)
  exact Nat.lt_of_lt_of_le this (Nat.pow_le_pow_right (by decide) (by rw [List.length_take]; omega))
def wordsB (m : Nat) (l : List Bool) : List Nat := (List.range m).map (wordAt l)
theorem wordsB_len (m : Nat) (l : List Bool) : (wordsB m l).length = m := by simp [wordsB]
theorem wordsB_get (m : Nat) (l : List Bool) (j : Nat) (h : j < m) : (wordsB m l)[j]? = some (wordAt l j) := by
  simp [wordsB, h]
theorem wordsB_nil (m : Nat) : wordsB m [] = List.replicate m 0 := by
  apply List.ext_getElem? 
  intro i
  by_cases h : i < m
  · rw [wordsB_get m [] i h, List.getElem?_replicate, if_pos h]; simp [wordAt, wordB]
  · rw [List.getElem?_eq_none (by rw [wordsB_len]; omega), List.getElem?_eq_none (by simp; omega)]
/-- One more truth at the end: its word alone is another. -/
theorem wordAt_snoc (l : List Bool) (b : Bool) (j : Nat) : wordAt (l ++ [b]) j = if j = l.length / 64 then wordB (l.drop (64 * j) ++ [b]) else wordAt l j := by
  unfold wordAt
  by_cases h : j = l.length / 64
  · rw [if_pos h]
    have e : 64 * j ≤ l.length := by omega
    rw [List.drop_append_of_le_length e, List.take_of_length_le (by simp; omega)]
  · rw [if_neg h]
    by_cases k : 64 * j ≤ l.length
    · rw [List.drop_append_of_le_length k, List.take_append_of_le_length (by simp; omega)]
    · rw [List.drop_eq_nil_of_le (by simp; omega), List.drop_eq_nil_of_le (by omega)]
theorem wordsB_snoc_false (m : Nat) (l : List Bool) : wordsB m (l ++ [false]) = wordsB m l := by
  unfold wordsB
  apply List.map_congr_left
  intro j _
  rw [wordAt_snoc]
  split
  · next h => rw [wordB_false, wordAt, List.take_of_length_le (by simp; omega)]
  · rfl
theorem wordsB_snoc_true (m : Nat) (l : List Bool) (h : l.length / 64 < m) : wordsB m (l ++ [true]) = (wordsB m l).set (l.length / 64) (wordAt l (l.length / 64) ||| 2 ^ (l.length % 64)) := by
  apply List.ext_getElem?
  intro i
  rw [List.getElem?_set]
  by_cases k : i < m
  · rw [wordsB_get _ _ _ k, wordAt_snoc]
    by_cases e : i = l.length / 64
    · subst e
      rw [if_pos rfl, if_pos rfl, if_pos (by rw [wordsB_len]; exact k), ← wordB_or, wordAt, List.take_of_length_le (by simp; omega)]
      congr 3
      simp; omega
    · rw [if_neg e, if_neg (Ne.symm e), wordsB_get _ _ _ k]
  · rw [List.getElem?_eq_none (by rw [wordsB_len]; omega)]
    by_cases e : l.length / 64 = i
    · omega
    · rw [if_neg e, List.getElem?_eq_none (by rw [wordsB_len]; omega)]
theorem mem_tw : ∀ (l : List Bool) x, x ∈ l.takeWhile (! ·) → x = false
  | [], x, h => by simp at h
  | a :: r, x, h => by
    cases a with
    | true => simp at h
    | false =>
      simp only [List.takeWhile_cons, Bool.not_false, if_true, List.mem_cons] at h
      rcases h with rfl | h
      · rfl
      · exact mem_tw r x h
/-- Without the trailing falses: how many stay. -/
def trimN (l : List Bool) : Nat := l.length - (l.reverse.takeWhile (! ·)).length
def bitsB (l : List Bool) : List Nat := wordsB (wordsN (trimN l)) (l.take (trimN l))
theorem trimN_le (l : List Bool) : trimN l ≤ l.length := Nat.sub_le _ _
theorem trimN_false (l : List Bool) (k : Nat) (h : trimN l ≤ k) (hk : k < l.length) : l[k]? = some false := by
  unfold trimN at h
  have hs : ∀ x, x ∈ l.reverse.takeWhile (! ·) → x = false := by
    exact fun x hx => mem_tw _ x hx
  have hp : l.reverse.takeWhile (! ·) <+: l.reverse := List.takeWhile_prefix _
  have hl := hp.length_le
  rw [List.length_reverse] at hl
  have hi : l.length - 1 - k < (l.reverse.takeWhile (! ·)).length := by omega
  have h2 := hp.getElem hi
  have h3 := hs _ (List.getElem_mem hi)
  rw [h2, List.getElem_reverse] at h3
  rw [List.getElem?_eq_getElem hk]
  have e : l.length - 1 - (l.length - 1 - k) = k := by omega
  simp only [e] at h3
  rw [h3]
theorem trimN_last (l : List Bool) (h : 0 < trimN l) : l[trimN l - 1]? = some true := by
  have hn := trimN_le l
  unfold trimN at h ⊢
  generalize hT : l.reverse.takeWhile (! ·) = T at h ⊢
  have hl : T.length < l.reverse.length := by rw [List.length_reverse]; omega
  have hd : l.reverse.dropWhile (! ·) ≠ [] := by
    intro e
    have := List.takeWhile_append_dropWhile (p := (! ·)) (l := l.reverse)
    rw [e, hT, List.append_nil] at this
    rw [← this] at hl
    omega
  have hh := List.head_dropWhile_not (! ·) hd
  have ha := List.takeWhile_append_dropWhile (p := (! ·)) (l := l.reverse)
  rw [hT] at ha
  have hx : l.reverse[T.length]? = some true := by
    rw [← ha, List.getElem?_append_right (Nat.le_refl _), Nat.sub_self]
    cases hD : l.reverse.dropWhile (! ·) with
    | nil => exact absurd hD hd
    | cons x r =>
      simp only [hD] at hh
      simp only [List.getElem?_cons_zero]
      simp at hh
      rw [hh]
  rw [List.getElem?_reverse (by rw [List.length_reverse] at hl; exact hl)] at hx
  rw [← hx]
  congr 1
  omega
/-- A number of kept truths behind which all are false and at whose end one is true is the one. -/
theorem trimN_of (l : List Bool) (n : Nat) (hn : n ≤ l.length) (h1 : ∀ k, n ≤ k → k < l.length → l[k]? = some false) (h2 : 0 < n → l[n - 1]? = some true) : n = trimN l := by
  have a := trimN_le l
  rcases Nat.lt_trichotomy n (trimN l) with h | h | h
  · have := trimN_last l (by omega)
    rw [h1 (trimN l - 1) (by omega) (by omega)] at this
    cases this
  · exact h
  · have := trimN_false l (n - 1) (by omega) (by omega)
    rw [h2 (by omega)] at this
    cases this
/-- One bit. -/
def hasB (b : List Nat) (i : Int) : Bool := decide (0 ≤ i) && (match b[(i / 64).toNat]? with | some x => x / 2 ^ (i % 64).toNat % 2 == 1 | none => false)
theorem has_bits (l : List Bool) (k : Nat) (b : Bool) (h : l[k]? = some b) : hasB (bitsB l) k = b := by
  have hk : k < l.length := by
    apply Classical.byContradiction
    intro n
    rw [List.getElem?_eq_none (by omega)] at h
    cases h
  have e1 : ((k : Int) / 64).toNat = k / 64 := by omega
  have e2 : ((k : Int) % 64).toNat = k % 64 := by omega
  unfold hasB
  rw [e1, e2]
  have e0 : decide (0 ≤ (k : Int)) = true := by simp
  rw [e0, Bool.true_and]
  by_cases hm : k / 64 < wordsN (trimN l)
  · rw [bitsB, wordsB_get _ _ _ hm]
    simp only [wordAt]
    rw [wordB_bit, List.getD_eq_getElem?_getD, List.getElem?_take, if_pos (by omega), List.getElem?_drop, List.getElem?_take]
    have e3 : 64 * (k / 64) + k % 64 = k := by omega
    rw [e3]
    by_cases ht : k < trimN l
    · rw [if_pos ht, h]; cases b <;> rfl
    · rw [if_neg ht]
      have := trimN_false l k (by omega) hk
      rw [this] at h
      cases h
      rfl
  · rw [List.getElem?_eq_none (by rw [bitsB, wordsB_len]; omega)]
    have hn : trimN l ≤ k := by unfold wordsN at hm; omega
    have := trimN_false l k hn hk
    rw [this] at h
    cases h
    rfl
/-- Horner's way, from the end: one more truth in front. -/
theorem wordB_step (l : List Bool) (k : Nat) (n : Nat) : wordB ((l.drop k).take (n + 1)) = 2 * wordB ((l.drop (k + 1)).take n) + (l.getD k false).toNat := by
  rw [List.getD_eq_getElem?_getD]
  by_cases h : k < l.length
  · rw [List.drop_eq_getElem_cons h, List.take_succ_cons, List.getElem?_eq_getElem h]
    simp only [wordB, Option.getD_some]
    omega
  · rw [List.drop_eq_nil_of_le (by omega), List.drop_eq_nil_of_le (by omega), List.getElem?_eq_none (by omega)]
    simp [wordB]
end Go.Proofs.YthdbddolkfibkaaGreatDoor
