
/- A reckoner for whole calls on known inputs, part 16: the calls that the model answers itself: a byte's place in a string, a pointer that does not escape. -/
import Derived.Test.YthdbddolkfibkaaGreatDoorEvG
import Derived.Lib.Bytealg
import Derived.Lib.Builder
import Derived.Laws.Externs
set_option linter.unusedSimpArgs false
set_option linter.unusedVariables false
namespace Go.Proofs.YthdbddolkfibkaaGreatDoor
open Go.RowKit
def idxN : List UInt8 → UInt8 → Nat → Option Nat
  | [], _, _ => none
  | b :: l, c, k => match Nat.beq b.toNat c.toNat with
    | true => some k
    | false => idxN l c (k + 1)
theorem idxN_eq (c : UInt8) : ∀ (l : List UInt8) (k : Nat), (idxN l c k = none ∧ Lib.indexByte l c = -1) ∨ ∃ n : Nat, idxN l c k = some (k + n) ∧ Lib.indexByte l c = n
  | [], k => .inl ⟨rfl, rfl⟩
  | b :: l, k => by
    by_cases h : b = c
    · subst h
      exact .inr ⟨0, by simp [idxN], by simp [Lib.indexByte]⟩
    · have h1 : Nat.beq b.toNat c.toNat = false := by
        rw [← Bool.not_eq_true, Nat.beq_eq]
        exact fun e => h (UInt8.toNat_inj.1 e)
      have h2 : (b == c) = false := by simpa using h
      rcases idxN_eq c l (k + 1) with ⟨q1, q2⟩ | ⟨n, q1, q2⟩
      · exact .inl ⟨by simp only [idxN, h1, q1], by simp [Lib.indexByte, h2, q2]⟩
      · refine .inr ⟨n + 1, by simp only [idxN, h1, q1]; congr 1; omega, ?_⟩
        have : ¬ ((n : Int) = -1) := by omega
        simp [Lib.indexByte, h2, q2, this]
section
variable {P : Program}
def toldX (fi ni : Nat) : Told := fun f args => match Nat.beq f fi, Nat.beq f ni, args with
  | true, _, [.str s, .int .u8 (.ofNat n)] => match idxN s n.toUInt8 0 with
    | some k => some (.int .i64 (.ofNat k))
    | none => some (.int .i64 (.negSucc 0))
  | false, true, [c] => some c
  | _, _, _ => none
theorem toldX_ok {fi ni : Nat} {ff fg : Func} (h1 : P.funcs[fi]? = some ff) (h2 : (ff.name == "runtime.NumGoroutine") = false) (h3 : ff.body.isNone = true) (h4 : Extern.findNext ff = none) (h5 : Extern.find ff = some Extern.BytealgIndexByte.indexByte)
    (g1 : P.funcs[ni]? = some fg) (g2 : (fg.name == "runtime.NumGoroutine") = false) (g3 : fg.body.isNone = true) (g4 : Extern.findNext fg = none) (g5 : Extern.find fg = some Extern.AbiNoEscape.same) : ToldOk P (toldX fi ni) := by
  intro f args c h E us w hus
  unfold toldX at h
  split at h
  · rename_i s n hf
    have hf := Nat.eq_of_beq_eq_true hf
    subst hf
    cases hus with
    | cons a b =>
    cases b with
    | cons b d =>
    cases d
    cases a
    cases b
    refine .inr ⟨.int .i64 (Lib.indexByte s n.toUInt8), w, ?_, rfl, _, rfl, ?_⟩
    · have := run_callFunc_extern h1 h2 h3 h4 h5 #[.string ⟨s.toArray⟩, .int .u8 (n : Int)] w
      rw [Lib.run_indexByteString] at this
      exact this
    · rcases idxN_eq n.toUInt8 s 0 with ⟨q1, q2⟩ | ⟨k, q1, q2⟩
      · rw [q1] at h
        injection h with h
        rw [← h, q2]
        exact .int _ _
      · rw [q1] at h
        injection h with h
        rw [← h, q2, Nat.zero_add]
        exact .int _ _
  · rename_i c' hf hn
    injection h with h
    subst h
    have hn := Nat.eq_of_beq_eq_true hn
    subst hn
    cases hus with
    | cons a b =>
    cases b
    rename_i u
    refine .inr ⟨u, w, ?_, rfl, u, rfl, a⟩
    have := run_callFunc_extern g1 g2 g3 g4 g5 #[u] w
    rw [Lib.run_noEscape] at this
    exact this
  · cases h
end
end Go.Proofs.YthdbddolkfibkaaGreatDoor
