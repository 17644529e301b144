/- The walks of layer 6, the fifth part: value types are read. -/
import Derived.Test.YtokneepfknepaaaDoorRdW4
set_option linter.unusedSimpArgs false
set_option linter.unusedVariables false
namespace Go.Proofs.YtokneepfknepaaaDoor
open Go.RowKit

theorem und_val : Tryd.prog.underlying 44 = some ((Tryd.prog.underlying 44).get (by kernel_rfl)) := by kernel_rfl
theorem size_val : (Tryd.prog.info? 44).map (·.size) = some 4 := by kernel_rfl
theorem rByte_lt (bs : List UInt8) (s : RdS) : (rByte bs s).1 < 256 := by
  unfold rByte
  split
  · exact (bs.getD s.at_ 0).toNat_lt
  · simp

set_option maxRecDepth 100000 in
set_option maxHeartbeats 1600000 in
theorem rd_val {S : List Nat} {w : World} {rb : Nat} {bv : Value} {bs : List UInt8} {s : RdS} (h : Rd S w rb bv bs s) :
    Calls Tryd.prog 19 #[.pointer (some ⟨rb, 0, none⟩)] w fun e w' => e = .returned (valV (rVal bs s).1) ∧ Rd S w' rb bv bs (rVal bs s).2 ∧ Fr [rb] w w' := by
  have hle := h.le
  have hrb := h.loc.lt
  have hcl := rByte_lt bs s
  have hR := h.loc1 (.cells #[.int .i64 0, .bool false, .int .i64 0, .int .i64 0] 44)
  have hL : Loc (w.alloc (.cells #[.int .i64 0, .bool false, .int .i64 0, .int .i64 0] 44)) w.heap.size [.int .i64 0, .bool false, .int .i64 0, .int .i64 0] 44 := Loc.new _ _ _
  have f0 : Fr [rb] w (w.alloc (.cells #[.int .i64 0, .bool false, .int .i64 0, .int .i64 0] 44)) := (Fr.refl _ _).alloc _
  have hgiff := given_iff (rByte bs s).1
  have HG := Lib.hid hgiff
  clear hgiff
  go_enter Tryd.func19, Tryd.ntmps19
  go_wp2_with first | (go_at_call 22; refine (rd_at hR).mono ?_; rintro e w' ⟨rfl, rfl⟩) | ((go_at_call 12; refine (rd_byte hR).mono ?_; rintro e w1 ⟨rfl, hR1, hF1⟩); have hL1 := hL.fr hF1 (by simp; omega); have f1 := f0.trans hF1; have hLC1 := hL1.cell; have hLF1 := hL1.frz; have hLT1 := hL1.lt) | ((go_at_call 18; refine (rd_heap hR1).mono ?_; rintro e w2 ⟨rfl, hR2, hF2⟩); have hL2 := hL1.fr hF2 (by simp; omega); have f2 := f1.trans hF2; have hLC2 := hL2.cell; have hLF2 := hL2.frz; have hLT2 := hL2.lt) | ((go_at_call 59; refine (told_val hR2 ⟨3, _, ⟨_, _⟩⟩).mono ?_; rintro e w3 ⟨rfl, hF3⟩); have hL3 := hL2.fr hF3 (by simp); have hR3 := hR2.fr hF3 (by simp) (by simp); have f3 := f2.trans (hF3.mono (by simp)); have hLC3 := hL3.cell; have hLF3 := hL3.frz; have hLT3 := hL3.lt) | ((go_at_call 55; refine (rd_refuse hR1 _ _ hle).mono ?_; rintro e w4 ⟨rfl, hR4, hF4⟩); have hL4 := hL1.fr hF4 (by simp; omega); have f4 := f1.trans hF4; have hLC4 := hL4.cell; have hLF4 := hL4.frz; have hLT4 := hL4.lt) | ((go_at_call 57; refine (given_any hR1.gl _ hcl).mono ?_; rintro e w5 ⟨rfl, hF5⟩); have hL5 := hL1.fr hF5 (by simp); have hR5 := hR1.fr hF5 (by simp) (by simp); have hR5o := fun o => hR5.alloc o; have f5 := f1.trans (hF5.mono (by simp)); have hLC5 := hL5.cell; have hLF5 := hL5.frz; have hLT5 := hL5.lt) | ((go_at_call 60; refine (rd_form (hR5o _) _ hle).mono ?_; rintro e w6 ⟨rfl, hR6, hF6⟩); have hL6 := (hL5.alloc _).fr hF6 (by simp; omega); have f6 := (f5.alloc _).trans hF6; have hLC6 := hL6.cell; have hLF6 := hL6.frz; have hLT6 := hL6.lt)
  · have q0 : (((rByte bs s).1 : Nat) : Int) = 127 := eq_of_beqI (by assumption)
    have hp : rVal bs s = (⟨1, false, ⟨0, 0⟩⟩, (rByte bs s).2) := by unfold rVal; rw [if_pos (by omega)]
    rw [hp]
    refine ret_cell rfl rfl ((((hL1.set 0 _).set 1 _).set 2 _).set 3 _) und_val rfl size_val rfl ⟨rfl, ?_, ?_⟩
    · refine Rd.un1 (lb := w.heap.size) ?_ h.mem
      repeat (first | (with_reducible assumption) | (with_reducible refine Rd.setLoc ?_ (by simp) (by omega) _ _) | (with_reducible apply Rd.alloc) | (with_reducible apply Rd.drewN))
    · repeat (first | (with_reducible exact Fr.refl _ _) | (with_reducible assumption) | (with_reducible apply Fr.alloc) | (with_reducible apply Fr.drew) | (with_reducible apply Fr.drewN) | (with_reducible refine Fr.setCell ?_ (by first | (left; simp; done) | (right; simp; done) | (right; simp; omega)) _))
  · have q0 : (((rByte bs s).1 : Nat) : Int) ≠ 127 := ne_of_beqI (by assumption)
    have q1 : (((rByte bs s).1 : Nat) : Int) = 126 := eq_of_beqI (by assumption)
    have hp : rVal bs s = (⟨2, false, ⟨0, 0⟩⟩, (rByte bs s).2) := by unfold rVal; rw [if_neg (by omega), if_pos (by omega)]
    rw [hp]
    refine ret_cell rfl rfl ((((hL1.set 0 _).set 1 _).set 2 _).set 3 _) und_val rfl size_val rfl ⟨rfl, ?_, ?_⟩
    · refine Rd.un1 (lb := w.heap.size) ?_ h.mem
      repeat (first | (with_reducible assumption) | (with_reducible refine Rd.setLoc ?_ (by simp) (by omega) _ _) | (with_reducible apply Rd.alloc) | (with_reducible apply Rd.drewN))
    · repeat (first | (with_reducible exact Fr.refl _ _) | (with_reducible assumption) | (with_reducible apply Fr.alloc) | (with_reducible apply Fr.drew) | (with_reducible apply Fr.drewN) | (with_reducible refine Fr.setCell ?_ (by first | (left; simp; done) | (right; simp; done) | (right; simp; omega)) _))
  · have q0 : (((rByte bs s).1 : Nat) : Int) ≠ 127 := ne_of_beqI (by assumption)
    have q1 : (((rByte bs s).1 : Nat) : Int) ≠ 126 := ne_of_beqI (by assumption)
    have q2 : (((rByte bs s).1 : Nat) : Int) = 100 := eq_of_beqI (by assumption)
    have q99 : ((((rByte bs s).1 : Nat) : Int) == 99) = false := by simp; omega
    have q99n : ((rByte bs s).1 == 99) = false := by simp; omega
    have hp : rVal bs s = ((rHeap bs (rByte bs s).2).2.told ValT.zero ⟨3, false, (rHeap bs (rByte bs s).2).1⟩, (rHeap bs (rByte bs s).2).2) := by unfold rVal; rw [if_neg (by omega), if_neg (by omega), if_pos (by omega)]; rw [q99n]
    rw [hp]
    refine ret_cell rfl rfl ((((hL3.set 0 _).set 1 _).set 2 _).set 3 _) und_val rfl size_val rfl ⟨by rw [q99]; rfl, ?_, ?_⟩
    · refine Rd.un1 (lb := w.heap.size) ?_ h.mem
      repeat (first | (with_reducible assumption) | (with_reducible refine Rd.setLoc ?_ (by simp) (by omega) _ _) | (with_reducible apply Rd.alloc) | (with_reducible apply Rd.drewN))
    · repeat (first | (with_reducible exact Fr.refl _ _) | (with_reducible assumption) | (with_reducible apply Fr.alloc) | (with_reducible apply Fr.drew) | (with_reducible apply Fr.drewN) | (with_reducible refine Fr.setCell ?_ (by first | (left; simp; done) | (right; simp; done) | (right; simp; omega)) _))
  · have q0 : (((rByte bs s).1 : Nat) : Int) ≠ 127 := ne_of_beqI (by assumption)
    have q1 : (((rByte bs s).1 : Nat) : Int) ≠ 126 := ne_of_beqI (by assumption)
    have q2 : (((rByte bs s).1 : Nat) : Int) ≠ 100 := ne_of_beqI (by assumption)
    have q3 : (((rByte bs s).1 : Nat) : Int) = 99 := eq_of_beqI (by assumption)
    have q99 : ((((rByte bs s).1 : Nat) : Int) == 99) = true := by simp; omega
    have q99n : ((rByte bs s).1 == 99) = true := by simp; omega
    have hp : rVal bs s = ((rHeap bs (rByte bs s).2).2.told ValT.zero ⟨3, true, (rHeap bs (rByte bs s).2).1⟩, (rHeap bs (rByte bs s).2).2) := by unfold rVal; rw [if_neg (by omega), if_neg (by omega), if_pos (by omega)]; rw [q99n]
    rw [hp]
    refine ret_cell rfl rfl ((((hL3.set 0 _).set 1 _).set 2 _).set 3 _) und_val rfl size_val rfl ⟨rfl, ?_, ?_⟩
    · refine Rd.un1 (lb := w.heap.size) ?_ h.mem
      repeat (first | (with_reducible assumption) | (with_reducible refine Rd.setLoc ?_ (by simp) (by omega) _ _) | (with_reducible apply Rd.alloc) | (with_reducible apply Rd.drewN))
    · repeat (first | (with_reducible exact Fr.refl _ _) | (with_reducible assumption) | (with_reducible apply Fr.alloc) | (with_reducible apply Fr.drew) | (with_reducible apply Fr.drewN) | (with_reducible refine Fr.setCell ?_ (by first | (left; simp; done) | (right; simp; done) | (right; simp; omega)) _))
  · have q0 : (((rByte bs s).1 : Nat) : Int) ≠ 127 := ne_of_beqI (by assumption)
    have q1 : (((rByte bs s).1 : Nat) : Int) ≠ 126 := ne_of_beqI (by assumption)
    have q2 : (((rByte bs s).1 : Nat) : Int) ≠ 100 := ne_of_beqI (by assumption)
    have q3 : (((rByte bs s).1 : Nat) : Int) ≠ 99 := ne_of_beqI (by assumption)
    have q4 : (((rByte bs s).1 : Nat) : Int) = 125 := eq_of_beqI (by assumption)
    have hp : rVal bs s = (ValT.zero, (rByte bs s).2.refuse 61 s.at_) := by unfold rVal; rw [if_neg (by omega), if_neg (by omega), if_neg (by omega), if_pos (by omega)]
    rw [hp]
    refine ret_cell rfl rfl ((((hL4.set 0 _).set 1 _).set 2 _).set 3 _) und_val rfl size_val rfl ⟨rfl, ?_, ?_⟩
    · refine Rd.un1 (lb := w.heap.size) ?_ h.mem
      repeat (first | (with_reducible assumption) | (with_reducible refine Rd.setLoc ?_ (by simp) (by omega) _ _) | (with_reducible apply Rd.alloc) | (with_reducible apply Rd.drewN))
    · repeat (first | (with_reducible exact Fr.refl _ _) | (with_reducible assumption) | (with_reducible apply Fr.alloc) | (with_reducible apply Fr.drew) | (with_reducible apply Fr.drewN) | (with_reducible refine Fr.setCell ?_ (by first | (left; simp; done) | (right; simp; done) | (right; simp; omega)) _))
  · have q0 : (((rByte bs s).1 : Nat) : Int) ≠ 127 := ne_of_beqI (by assumption)
    have q1 : (((rByte bs s).1 : Nat) : Int) ≠ 126 := ne_of_beqI (by assumption)
    have q2 : (((rByte bs s).1 : Nat) : Int) ≠ 100 := ne_of_beqI (by assumption)
    have q3 : (((rByte bs s).1 : Nat) : Int) ≠ 99 := ne_of_beqI (by assumption)
    have q4 : (((rByte bs s).1 : Nat) : Int) ≠ 125 := ne_of_beqI (by assumption)
    have q5 : (((rByte bs s).1 : Nat) : Int) = 124 := eq_of_beqI (by assumption)
    have hp : rVal bs s = (ValT.zero, (rByte bs s).2.refuse 61 s.at_) := by unfold rVal; rw [if_neg (by omega), if_neg (by omega), if_neg (by omega), if_pos (by omega)]
    rw [hp]
    refine ret_cell rfl rfl ((((hL4.set 0 _).set 1 _).set 2 _).set 3 _) und_val rfl size_val rfl ⟨rfl, ?_, ?_⟩
    · refine Rd.un1 (lb := w.heap.size) ?_ h.mem
      repeat (first | (with_reducible assumption) | (with_reducible refine Rd.setLoc ?_ (by simp) (by omega) _ _) | (with_reducible apply Rd.alloc) | (with_reducible apply Rd.drewN))
    · repeat (first | (with_reducible exact Fr.refl _ _) | (with_reducible assumption) | (with_reducible apply Fr.alloc) | (with_reducible apply Fr.drew) | (with_reducible apply Fr.drewN) | (with_reducible refine Fr.setCell ?_ (by first | (left; simp; done) | (right; simp; done) | (right; simp; omega)) _))
  · have q0 : (((rByte bs s).1 : Nat) : Int) ≠ 127 := ne_of_beqI (by assumption)
    have q1 : (((rByte bs s).1 : Nat) : Int) ≠ 126 := ne_of_beqI (by assumption)
    have q2 : (((rByte bs s).1 : Nat) : Int) ≠ 100 := ne_of_beqI (by assumption)
    have q3 : (((rByte bs s).1 : Nat) : Int) ≠ 99 := ne_of_beqI (by assumption)
    have q4 : (((rByte bs s).1 : Nat) : Int) ≠ 125 := ne_of_beqI (by assumption)
    have q5 : (((rByte bs s).1 : Nat) : Int) ≠ 124 := ne_of_beqI (by assumption)
    have q6 : (((rByte bs s).1 : Nat) : Int) = 123 := eq_of_beqI (by assumption)
    have hp : rVal bs s = (ValT.zero, (rByte bs s).2.refuse 61 s.at_) := by unfold rVal; rw [if_neg (by omega), if_neg (by omega), if_neg (by omega), if_pos (by omega)]
    rw [hp]
    refine ret_cell rfl rfl ((((hL4.set 0 _).set 1 _).set 2 _).set 3 _) und_val rfl size_val rfl ⟨rfl, ?_, ?_⟩
    · refine Rd.un1 (lb := w.heap.size) ?_ h.mem
      repeat (first | (with_reducible assumption) | (with_reducible refine Rd.setLoc ?_ (by simp) (by omega) _ _) | (with_reducible apply Rd.alloc) | (with_reducible apply Rd.drewN))
    · repeat (first | (with_reducible exact Fr.refl _ _) | (with_reducible assumption) | (with_reducible apply Fr.alloc) | (with_reducible apply Fr.drew) | (with_reducible apply Fr.drewN) | (with_reducible refine Fr.setCell ?_ (by first | (left; simp; done) | (right; simp; done) | (right; simp; omega)) _))
  · have q0 : (((rByte bs s).1 : Nat) : Int) ≠ 127 := ne_of_beqI (by assumption)
    have q1 : (((rByte bs s).1 : Nat) : Int) ≠ 126 := ne_of_beqI (by assumption)
    have q2 : (((rByte bs s).1 : Nat) : Int) ≠ 100 := ne_of_beqI (by assumption)
    have q3 : (((rByte bs s).1 : Nat) : Int) ≠ 99 := ne_of_beqI (by assumption)
    have q4 : (((rByte bs s).1 : Nat) : Int) ≠ 125 := ne_of_beqI (by assumption)
    have q5 : (((rByte bs s).1 : Nat) : Int) ≠ 124 := ne_of_beqI (by assumption)
    have q6 : (((rByte bs s).1 : Nat) : Int) ≠ 123 := ne_of_beqI (by assumption)
    have hg : givenK (rByte bs s).1 = 0 := by
      have h1 := HG.out
      by_cases h0 : givenK (rByte bs s).1 = 0
      · exact h0
      · exfalso
        rw [show (!(givenK (rByte bs s).1 == 0)) = true by simpa using h0] at h1
        simp only [decide_eq_true_eq] at h1
        have h2 : (!decide (105 ≤ (rByte bs s).1)) = true ∨ (!decide ((rByte bs s).1 < 117)) = true := by assumption
        simp at h2
        omega
    have hp : rVal bs s = (ValT.zero, (rByte bs s).2.form s.at_) := by unfold rVal; rw [if_neg (by omega), if_neg (by omega), if_neg (by omega), if_neg (by omega)]; rw [if_pos hg]
    rw [hp]
    refine ret_cell rfl rfl ((((hL6.set 0 _).set 1 _).set 2 _).set 3 _) und_val rfl size_val rfl ⟨rfl, ?_, ?_⟩
    · refine Rd.un1 (lb := w.heap.size) ?_ h.mem
      repeat (first | (with_reducible assumption) | (with_reducible refine Rd.setLoc ?_ (by simp) (by omega) _ _) | (with_reducible apply Rd.alloc) | (with_reducible apply Rd.drewN))
    · repeat (first | (with_reducible exact Fr.refl _ _) | (with_reducible assumption) | (with_reducible apply Fr.alloc) | (with_reducible apply Fr.drew) | (with_reducible apply Fr.drewN) | (with_reducible refine Fr.setCell ?_ (by first | (left; simp; done) | (right; simp; done) | (right; simp; omega)) _))
  · have q0 : (((rByte bs s).1 : Nat) : Int) ≠ 127 := ne_of_beqI (by assumption)
    have q1 : (((rByte bs s).1 : Nat) : Int) ≠ 126 := ne_of_beqI (by assumption)
    have q2 : (((rByte bs s).1 : Nat) : Int) ≠ 100 := ne_of_beqI (by assumption)
    have q3 : (((rByte bs s).1 : Nat) : Int) ≠ 99 := ne_of_beqI (by assumption)
    have q4 : (((rByte bs s).1 : Nat) : Int) ≠ 125 := ne_of_beqI (by assumption)
    have q5 : (((rByte bs s).1 : Nat) : Int) ≠ 124 := ne_of_beqI (by assumption)
    have q6 : (((rByte bs s).1 : Nat) : Int) ≠ 123 := ne_of_beqI (by assumption)
    have hg : givenK (rByte bs s).1 ≠ 0 := by
      have h1 := HG.out
      intro h0
      rw [h0] at h1
      have h2 : (!decide (105 ≤ (rByte bs s).1)) = false ∧ (!decide ((rByte bs s).1 < 117)) = false := by assumption
      simp at h1 h2
      omega
    have hp : rVal bs s = (⟨3, true, ⟨givenK (rByte bs s).1, 0⟩⟩, (rByte bs s).2) := by unfold rVal; rw [if_neg (by omega), if_neg (by omega), if_neg (by omega), if_neg (by omega)]; rw [if_neg hg]
    rw [hp]
    refine ret_cell rfl rfl (((((hL5.set 0 _).set 1 _).set 2 _).set 3 _).alloc _) und_val rfl size_val rfl ⟨rfl, ?_, ?_⟩
    · refine Rd.un1 (lb := w.heap.size) ?_ h.mem
      repeat (first | (with_reducible assumption) | (with_reducible refine Rd.setLoc ?_ (by simp) (by omega) _ _) | (with_reducible apply Rd.alloc) | (with_reducible apply Rd.drewN))
    · repeat (first | (with_reducible exact Fr.refl _ _) | (with_reducible assumption) | (with_reducible apply Fr.alloc) | (with_reducible apply Fr.drew) | (with_reducible apply Fr.drewN) | (with_reducible refine Fr.setCell ?_ (by first | (left; simp; done) | (right; simp; done) | (right; simp; omega)) _))

end Go.Proofs.YtokneepfknepaaaDoor
