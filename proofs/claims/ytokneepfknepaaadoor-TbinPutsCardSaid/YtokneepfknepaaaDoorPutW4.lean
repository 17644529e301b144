/- The walks of layer 6: supers and fields are put; plain fields. -/
import Derived.Test.YtokneepfknepaaaDoorPutW3
set_option linter.unusedSimpArgs false
set_option linter.unusedVariables false
namespace Go.Proofs.YtokneepfknepaaaDoor
open Go.RowKit

set_option maxRecDepth 100000 in
set_option maxHeartbeats 800000 in
theorem plainField_any (w : World) (f : FieldT) : Calls Tryd.prog 108 #[fieldV f] w fun e w' => e = .returned (.bool (plainField f)) ∧ Fr [] w w' := by
  obtain ⟨fp, ⟨tk, tn, ⟨hk, hn⟩⟩, fm⟩ := f
  unfold fieldV
  dsimp only
  by_cases q0 : fp = 0
  · subst q0
    rw [show plainField ⟨0, ⟨tk, tn, ⟨hk, hn⟩⟩, fm⟩ = plainVal ⟨tk, tn, ⟨hk, hn⟩⟩ by simp [plainField]]
    go_enter Tryd.func108, Tryd.ntmps108
    go_wp2_with (go_at_call 75; refine (plainVal_any _ ⟨tk, tn, ⟨hk, hn⟩⟩).mono ?_; rintro e w2 ⟨rfl, hF2⟩)
    go_ret
    exact ⟨rfl, ((Fr.refl [] w).alloc _).trans hF2⟩
  · by_cases q8 : fp = 8
    · subst q8
      go_enter Tryd.func108, Tryd.ntmps108
      go_wp2
      all_goals
        go_ret
        refine ⟨?_, by repeat (first | (with_reducible exact Fr.refl _ _) | (with_reducible assumption) | (with_reducible apply Fr.alloc) | (with_reducible apply Fr.drew) | (with_reducible apply Fr.drewN) | (with_reducible refine Fr.setCell ?_ (by first | (left; simp; done) | (right; simp; done) | (right; simp; omega)) _))⟩
        simp_all [plainField]
    · by_cases q16 : fp = 16
      · subst q16
        go_enter Tryd.func108, Tryd.ntmps108
        go_wp2
        all_goals
          go_ret
          refine ⟨?_, by repeat (first | (with_reducible exact Fr.refl _ _) | (with_reducible assumption) | (with_reducible apply Fr.alloc) | (with_reducible apply Fr.drew) | (with_reducible apply Fr.drewN) | (with_reducible refine Fr.setCell ?_ (by first | (left; simp; done) | (right; simp; done) | (right; simp; omega)) _))⟩
          simp_all [plainField]
      · have g0 : (fp == 0) = false := by simpa using q0
        have g8 : (fp == 8) = false := by simpa using q8
        have g16 : (fp == 16) = false := by simpa using q16
        rw [show plainField ⟨fp, ⟨tk, tn, ⟨hk, hn⟩⟩, fm⟩ = false by simp [plainField, q0, q8, q16]]
        clear q0 q8 q16
        go_enter Tryd.func108, Tryd.ntmps108
        go_wp2
        go_ret
        exact ⟨rfl, by repeat (first | (with_reducible exact Fr.refl _ _) | (with_reducible assumption) | (with_reducible apply Fr.alloc) | (with_reducible apply Fr.drew) | (with_reducible apply Fr.drewN) | (with_reducible refine Fr.setCell ?_ (by first | (left; simp; done) | (right; simp; done) | (right; simp; omega)) _))⟩

set_option maxRecDepth 100000 in
set_option maxHeartbeats 800000 in
theorem putSuper_any {w : World} (v : Value) (xs : List UInt8) (h : HeapT) (ho : Out w v xs) (h0 : 0 ≤ h.n) (h1 : h.n < 9223372036854775808) (hx : xs.length + 16 ≤ 70368744177664) :
    Calls Tryd.prog 110 #[v, heapV h] w fun e w' => ∃ v', e = .returned v' ∧ Out w' v' (xs ++ pSuper h) ∧ Ap w v w' v' := by
  obtain ⟨k, n⟩ := h
  obtain ⟨N, rfl⟩ : ∃ N : Nat, n = N := ⟨n.toNat, by simp only at h0; omega⟩
  simp only at h1
  have hN : N < 18446744073709551616 := by omega
  have hlen := putU_len N hN
  have hb1 : xs.length + (putU N).length ≤ 140737488355328 := by omega
  have hp : pSuper ⟨k, (N : Int)⟩ = putU N := by simp [pSuper]
  rw [hp]
  clear hp hlen
  unfold heapV
  dsimp only
  have hoo := fun o => Out.alloc ho o
  have f1 := fun o => Ap.fr0 (v := v) ((Fr.refl [] w).alloc o)
  go_enter Tryd.func110, Tryd.ntmps110
  go_wp2_with first | (go_at_call 113; refine (PutU_any N _ hN).mono ?_; rintro e w2 ⟨v2, rfl, ho2, hN2, hF2⟩; have hs2 := ho2.sl (S' := []) (by simp); have hoo2 := Own.fr (hoo _) hF2 (by simp)) | (at_builtin; refine app_u8 rfl (.tmp 5) (.tmp 9) _ rfl _ _ _ rfl hoo2 _ _ _ rfl (hs2.src und_bytes) hb1 ?_; intro v' w3 hown3 hf3 hb3)
  go_ret
  exact ⟨v', rfl, Out.app hown3, ((f1 _).trans (Ap.fr0 hF2)).trans (Ap.of hf3 hb3)⟩

end Go.Proofs.YtokneepfknepaaaDoor
