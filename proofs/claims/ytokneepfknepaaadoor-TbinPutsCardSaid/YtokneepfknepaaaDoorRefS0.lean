/- The walks of the document's answers: a sub type is put (layer 6). -/
import Derived.Test.YtokneepfknepaaaDoorRefP
set_option linter.unusedSimpArgs false
set_option linter.unusedVariables false
namespace Go.Proofs.YtokneepfknepaaaDoor
open Go.RowKit

theorem notin_app {v v' : Value} {g b : Nat} (hb : Value.blk v' = Value.blk v ∨ Value.blk v' = [g]) (hn : b ∉ Value.blk v) (hg : b < g) : b ∉ Value.blk v' := by
  rcases hb with hb | hb
  · rw [hb]; exact hn
  · rw [hb]; simp; omega
theorem pSuper_at (k : Int) (m : Nat) : pSuper ⟨k, m⟩ = putU m := by simp [pSuper]
theorem pField_at (p k : Int) (nl : Bool) (hk hn : Int) (m : Bool) : pField ⟨p, ⟨k, nl, ⟨hk, hn⟩⟩, m⟩ = (if p = 8 then [120] else if p = 16 then [119] else pVal ⟨k, nl, ⟨hk, hn⟩⟩) ++ [if m then 1 else 0] := rfl
theorem field_val {p : Int} {v : ValT} {m : Bool} (h : plainField ⟨p, v, m⟩ = true) : plainVal v = true := by
  rw [plainField_ref] at h
  simp only [Bool.and_eq_true] at h
  exact h.1
theorem plainSub_parts {fb : Bool} {sup : List HeapT} {ck : Int} {ps rs : List ValT} {fs : List FieldT} (h : plainSub ⟨fb, sup, ⟨ck, ps, rs, fs⟩⟩ = true) :
    sup.all indexedH = true ∧ ps.all plainVal = true ∧ rs.all plainVal = true ∧ fs.all plainField = true ∧ (ck = 1 ∨ ck = 2 ∨ (ck = 3 ∧ fs.length = 1)) := by
  unfold plainSub at h
  simp only [Bool.and_eq_true] at h
  obtain ⟨⟨h1, ⟨h2, h3⟩, h4⟩, h5⟩ := h
  refine ⟨h1, h2, h3, h4, ?_⟩
  by_cases c1 : ck = 1
  · exact .inl c1
  · by_cases c2 : ck = 2
    · exact .inr (.inl c2)
    · rw [if_neg c1, if_neg c2] at h5
      split at h5
      · simp only [Bool.and_eq_true, beq_iff_eq] at h5
        exact .inr (.inr ⟨by assumption, h5.2⟩)
      · cases h5
end Go.Proofs.YtokneepfknepaaaDoor
