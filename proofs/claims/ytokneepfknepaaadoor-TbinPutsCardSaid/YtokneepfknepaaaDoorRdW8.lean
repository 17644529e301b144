/- The walks of layer 6, the eighth part: fields. -/
import Derived.Test.YtokneepfknepaaaDoorRdW7
set_option linter.unusedSimpArgs false
set_option linter.unusedVariables false
namespace Go.Proofs.YtokneepfknepaaaDoor
open Go.RowKit
def fieldV (f : FieldT) : Value := .agg #[.int .i64 f.pack, .int .i64 f.val.kind, .bool f.val.null, .int .i64 f.val.heap.kind, .int .i64 f.val.heap.n, .bool f.mut_]
attribute [go_sem] fieldV
theorem bit_eq (n : Nat) : (((n : Nat) : Int) == 1) = (n == 1) := by
  by_cases h : n = 1
  · subst h; rfl
  · have : (((n : Nat) : Int) == 1) = false := by simp; omega
    rw [this]; simp [h]

set_option maxRecDepth 100000 in
set_option maxHeartbeats 1600000 in
theorem rd_field {S : List Nat} {w : World} {rb : Nat} {bv : Value} {bs : List UInt8} {s : RdS} (h : Rd S w rb bv bs s) :
    Calls Tryd.prog 140 #[.pointer (some ⟨rb, 0, none⟩)] w fun e w' => e = .returned (fieldV (rField bs s).1) ∧ Rd S w' rb bv bs (rField bs s).2 ∧ Fr [rb] w w' := by
  have hle := h.le
  have hsm := h.small
  have hrb := h.loc.lt
  have hcl := rPeek_lt bs s
  have hR := (h.loc1 (.cells #[.int .i64 0, .int .i64 0, .bool false, .int .i64 0, .int .i64 0, .bool false] 155)).loc1 (.cells #[.int .i64 0, .int .i64 0, .bool false, .int .i64 0, .int .i64 0, .bool false] 155)
  rw [World.size_alloc] at hR
  have hA : Loc ((w.alloc (.cells #[.int .i64 0, .int .i64 0, .bool false, .int .i64 0, .int .i64 0, .bool false] 155)).alloc (.cells #[.int .i64 0, .int .i64 0, .bool false, .int .i64 0, .int .i64 0, .bool false] 155)) w.heap.size [.int .i64 0, .int .i64 0, .bool false, .int .i64 0, .int .i64 0, .bool false] 155 := (Loc.new _ _ _).alloc _
  have hB : Loc ((w.alloc (.cells #[.int .i64 0, .int .i64 0, .bool false, .int .i64 0, .int .i64 0, .bool false] 155)).alloc (.cells #[.int .i64 0, .int .i64 0, .bool false, .int .i64 0, .int .i64 0, .bool false] 155)) (w.heap.size + 1) [.int .i64 0, .int .i64 0, .bool false, .int .i64 0, .int .i64 0, .bool false] 155 := by
    have h1 := Loc.new (w.alloc (.cells #[.int .i64 0, .int .i64 0, .bool false, .int .i64 0, .int .i64 0, .bool false] 155)) [.int .i64 0, .int .i64 0, .bool false, .int .i64 0, .int .i64 0, .bool false] 155
    rw [World.size_alloc] at h1
    exact h1
  have f0 : Fr [rb] w ((w.alloc (.cells #[.int .i64 0, .int .i64 0, .bool false, .int .i64 0, .int .i64 0, .bool false] 155)).alloc (.cells #[.int .i64 0, .int .i64 0, .bool false, .int .i64 0, .int .i64 0, .bool false] 155)) := ((Fr.refl _ _).alloc _).alloc _
  by_cases hp1 : rPeek bs s = 120
  · skip
    have hst : rStore bs s = ((8, ⟨1, false, ⟨0, 0⟩⟩), s.next) := by unfold rStore; rw [if_pos hp1]
    have hlt := (peek_pos (s := s) (bs := bs) (by omega)).2.1
    have q1 : (((rPeek bs s : Nat) : Int) == 120) = true := by simp; omega
    have q2 : (((rPeek bs s : Nat) : Int) == 119) = false := by simp; omega
    by_cases hq : 1 < (rByte bs s.next).1
    · have hqi : (1 : Int) < (((rByte bs s.next).1 : Nat) : Int) := by omega
      have hf : rField bs s = (⟨8, ⟨1, false, ⟨0, 0⟩⟩, (rByte bs s.next).1 == 1⟩, (rByte bs s.next).2.form s.next.at_) := by unfold rField rBit; rw [hst]; simp only [if_pos hq]
      rw [hf]
      clear hst hf hq
      go_enter Tryd.func140, Tryd.ntmps140
      go_wp2_with first | ((go_at_call 46; refine (rd_peek hR).mono ?_; rintro e w' ⟨rfl, nq, rfl⟩); have hR0 := hR.drewN nq; have hB0 := hB.drewN nq; have hC0 := hR0.loc.cell; have hG0 := hR0.loc.frz; have hT0 := hR0.loc.lt; simp only [rdCells] at hC0; have hLC0 := hB0.cell; have hLF0 := hB0.frz; have hLT0 := hB0.lt) | fail
      have hE := rd_next (hR.drewN nq) hlt
      have hRX := fun v0 v1 v2 v3 v4 => ((((hE.setLoc (lb := w.heap.size + 1) (by simp) (by omega) 0 v0).setLoc (lb := w.heap.size + 1) (by simp) (by omega) 1 v1).setLoc (lb := w.heap.size + 1) (by simp) (by omega) 2 v2).setLoc (lb := w.heap.size + 1) (by simp) (by omega) 3 v3).setLoc (lb := w.heap.size + 1) (by simp) (by omega) 4 v4
      have hBX := fun v0 v1 v2 v3 v4 => (((((((hB.drewN nq).set' (p := ⟨rb, 0, none⟩) (by simp; omega) (.int .i64 ((s.at_ : Int) + 1))).set 0 v0).set 1 v1).set 2 v2).set 3 v3).set 4 v4)
      have hAX := fun v0 v1 v2 v3 v4 => ((((((((hA.drewN nq).set' (p := ⟨rb, 0, none⟩) (by simp; omega) (.int .i64 ((s.at_ : Int) + 1))).set' (p := ⟨w.heap.size + 1, 0, none⟩) (by simp) v0).set' (p := ⟨w.heap.size + 1, 1, none⟩) (by simp) v1).set' (p := ⟨w.heap.size + 1, 2, none⟩) (by simp) v2).set' (p := ⟨w.heap.size + 1, 3, none⟩) (by simp) v3).set' (p := ⟨w.heap.size + 1, 4, none⟩) (by simp) v4))
      have hle2 := hE.le
      go_wp2_with first | (go_at_call 22; refine (rd_at (hRX _ _ _ _ _)).mono ?_; rintro e w' ⟨rfl, rfl⟩) | ((go_at_call 12; refine (rd_byte (hRX _ _ _ _ _)).mono ?_; rintro e w5 ⟨rfl, hR5, hF5⟩); have hB5 := (hBX _ _ _ _ _).fr hF5 (by simp; omega); have hA5 := (hAX _ _ _ _ _).fr hF5 (by simp; omega); have hLC5 := hB5.cell; have hLF5 := hB5.frz; have hLT5 := hB5.lt; have hLC7 := hA5.cell; have hLF7 := hA5.frz; have hLT7 := hA5.lt) | ((go_at_call 60; refine (rd_form hR5 _ hle2).mono ?_; rintro e w6 ⟨rfl, hR6, hF6⟩); have hB6 := hB5.fr hF6 (by simp; omega); have hA6 := hA5.fr hF6 (by simp; omega); have hLC6 := hB6.cell; have hLF6 := hB6.frz; have hLT6 := hB6.lt; have hLC8 := hA6.cell; have hLF8 := hA6.frz; have hLT8 := hA6.lt)
      have f5 : Fr [rb] w w5 := Fr.trans (by repeat (first | (with_reducible exact Fr.refl _ _) | (with_reducible assumption) | (with_reducible apply Fr.alloc) | (with_reducible apply Fr.drew) | (with_reducible apply Fr.drewN) | (with_reducible refine Fr.setCell ?_ (by first | (left; simp; done) | (right; simp; done) | (right; simp; omega)) _))) hF5
      have f6 : Fr [rb] w w6 := f5.trans hF6
      refine bodyPost_ret (v := fieldV ⟨8, ⟨1, false, ⟨0, 0⟩⟩, (rByte bs s.next).1 == 1⟩) (by simp [results, Tryd.results140, go_sem, bit_eq, *]) rfl ⟨rfl, ?_, ?_⟩
      · refine Rd.un1 (lb := w.heap.size) (Rd.un1 (lb := w.heap.size + 1) ?_ (by simp; exact .inr h.mem)) h.mem
        repeat (first | (with_reducible assumption) | (with_reducible refine Rd.setLoc ?_ (by simp) (by omega) _ _) | (with_reducible apply Rd.alloc) | (with_reducible apply Rd.drewN))
      · repeat (first | (with_reducible exact Fr.refl _ _) | (with_reducible assumption) | (with_reducible apply Fr.alloc) | (with_reducible apply Fr.drew) | (with_reducible apply Fr.drewN) | (with_reducible refine Fr.setCell ?_ (by first | (left; simp; done) | (right; simp; done) | (right; simp; omega)) _))
    · have hqi : ¬ (1 : Int) < (((rByte bs s.next).1 : Nat) : Int) := by omega
      have hf : rField bs s = (⟨8, ⟨1, false, ⟨0, 0⟩⟩, (rByte bs s.next).1 == 1⟩, (rByte bs s.next).2) := by unfold rField rBit; rw [hst]; simp only [if_neg hq]
      rw [hf]
      clear hst hf hq
      go_enter Tryd.func140, Tryd.ntmps140
      go_wp2_with first | ((go_at_call 46; refine (rd_peek hR).mono ?_; rintro e w' ⟨rfl, nq, rfl⟩); have hR0 := hR.drewN nq; have hB0 := hB.drewN nq; have hC0 := hR0.loc.cell; have hG0 := hR0.loc.frz; have hT0 := hR0.loc.lt; simp only [rdCells] at hC0; have hLC0 := hB0.cell; have hLF0 := hB0.frz; have hLT0 := hB0.lt) | fail
      have hE := rd_next (hR.drewN nq) hlt
      have hRX := fun v0 v1 v2 v3 v4 => ((((hE.setLoc (lb := w.heap.size + 1) (by simp) (by omega) 0 v0).setLoc (lb := w.heap.size + 1) (by simp) (by omega) 1 v1).setLoc (lb := w.heap.size + 1) (by simp) (by omega) 2 v2).setLoc (lb := w.heap.size + 1) (by simp) (by omega) 3 v3).setLoc (lb := w.heap.size + 1) (by simp) (by omega) 4 v4
      have hBX := fun v0 v1 v2 v3 v4 => (((((((hB.drewN nq).set' (p := ⟨rb, 0, none⟩) (by simp; omega) (.int .i64 ((s.at_ : Int) + 1))).set 0 v0).set 1 v1).set 2 v2).set 3 v3).set 4 v4)
      have hAX := fun v0 v1 v2 v3 v4 => ((((((((hA.drewN nq).set' (p := ⟨rb, 0, none⟩) (by simp; omega) (.int .i64 ((s.at_ : Int) + 1))).set' (p := ⟨w.heap.size + 1, 0, none⟩) (by simp) v0).set' (p := ⟨w.heap.size + 1, 1, none⟩) (by simp) v1).set' (p := ⟨w.heap.size + 1, 2, none⟩) (by simp) v2).set' (p := ⟨w.heap.size + 1, 3, none⟩) (by simp) v3).set' (p := ⟨w.heap.size + 1, 4, none⟩) (by simp) v4))
      have hle2 := hE.le
      go_wp2_with first | (go_at_call 22; refine (rd_at (hRX _ _ _ _ _)).mono ?_; rintro e w' ⟨rfl, rfl⟩) | ((go_at_call 12; refine (rd_byte (hRX _ _ _ _ _)).mono ?_; rintro e w5 ⟨rfl, hR5, hF5⟩); have hB5 := (hBX _ _ _ _ _).fr hF5 (by simp; omega); have hA5 := (hAX _ _ _ _ _).fr hF5 (by simp; omega); have hLC5 := hB5.cell; have hLF5 := hB5.frz; have hLT5 := hB5.lt; have hLC7 := hA5.cell; have hLF7 := hA5.frz; have hLT7 := hA5.lt)
      have f5 : Fr [rb] w w5 := Fr.trans (by repeat (first | (with_reducible exact Fr.refl _ _) | (with_reducible assumption) | (with_reducible apply Fr.alloc) | (with_reducible apply Fr.drew) | (with_reducible apply Fr.drewN) | (with_reducible refine Fr.setCell ?_ (by first | (left; simp; done) | (right; simp; done) | (right; simp; omega)) _))) hF5
      refine bodyPost_ret (v := fieldV ⟨8, ⟨1, false, ⟨0, 0⟩⟩, (rByte bs s.next).1 == 1⟩) (by simp [results, Tryd.results140, go_sem, bit_eq, *]) rfl ⟨rfl, ?_, ?_⟩
      · refine Rd.un1 (lb := w.heap.size) (Rd.un1 (lb := w.heap.size + 1) ?_ (by simp; exact .inr h.mem)) h.mem
        repeat (first | (with_reducible assumption) | (with_reducible refine Rd.setLoc ?_ (by simp) (by omega) _ _) | (with_reducible apply Rd.alloc) | (with_reducible apply Rd.drewN))
      · repeat (first | (with_reducible exact Fr.refl _ _) | (with_reducible assumption) | (with_reducible apply Fr.alloc) | (with_reducible apply Fr.drew) | (with_reducible apply Fr.drewN) | (with_reducible refine Fr.setCell ?_ (by first | (left; simp; done) | (right; simp; done) | (right; simp; omega)) _))

  · by_cases hp2 : rPeek bs s = 119
    · skip
      have hst : rStore bs s = ((16, ⟨1, false, ⟨0, 0⟩⟩), s.next) := by unfold rStore; rw [if_neg hp1, if_pos hp2]
      have hlt := (peek_pos (s := s) (bs := bs) (by omega)).2.1
      have q1 : (((rPeek bs s : Nat) : Int) == 120) = false := by simp; omega
      have q2 : (((rPeek bs s : Nat) : Int) == 119) = true := by simp; omega
      by_cases hq : 1 < (rByte bs s.next).1
      · have hqi : (1 : Int) < (((rByte bs s.next).1 : Nat) : Int) := by omega
        have hf : rField bs s = (⟨16, ⟨1, false, ⟨0, 0⟩⟩, (rByte bs s.next).1 == 1⟩, (rByte bs s.next).2.form s.next.at_) := by unfold rField rBit; rw [hst]; simp only [if_pos hq]
        rw [hf]
        clear hst hf hq
        go_enter Tryd.func140, Tryd.ntmps140
        go_wp2_with first | ((go_at_call 46; refine (rd_peek hR).mono ?_; rintro e w' ⟨rfl, nq, rfl⟩); have hR0 := hR.drewN nq; have hB0 := hB.drewN nq; have hC0 := hR0.loc.cell; have hG0 := hR0.loc.frz; have hT0 := hR0.loc.lt; simp only [rdCells] at hC0; have hLC0 := hB0.cell; have hLF0 := hB0.frz; have hLT0 := hB0.lt) | fail
        have hE := rd_next (hR.drewN nq) hlt
        have hRX := fun v0 v1 v2 v3 v4 => ((((hE.setLoc (lb := w.heap.size + 1) (by simp) (by omega) 0 v0).setLoc (lb := w.heap.size + 1) (by simp) (by omega) 1 v1).setLoc (lb := w.heap.size + 1) (by simp) (by omega) 2 v2).setLoc (lb := w.heap.size + 1) (by simp) (by omega) 3 v3).setLoc (lb := w.heap.size + 1) (by simp) (by omega) 4 v4
        have hBX := fun v0 v1 v2 v3 v4 => (((((((hB.drewN nq).set' (p := ⟨rb, 0, none⟩) (by simp; omega) (.int .i64 ((s.at_ : Int) + 1))).set 0 v0).set 1 v1).set 2 v2).set 3 v3).set 4 v4)
        have hAX := fun v0 v1 v2 v3 v4 => ((((((((hA.drewN nq).set' (p := ⟨rb, 0, none⟩) (by simp; omega) (.int .i64 ((s.at_ : Int) + 1))).set' (p := ⟨w.heap.size + 1, 0, none⟩) (by simp) v0).set' (p := ⟨w.heap.size + 1, 1, none⟩) (by simp) v1).set' (p := ⟨w.heap.size + 1, 2, none⟩) (by simp) v2).set' (p := ⟨w.heap.size + 1, 3, none⟩) (by simp) v3).set' (p := ⟨w.heap.size + 1, 4, none⟩) (by simp) v4))
        have hle2 := hE.le
        go_wp2_with first | (go_at_call 22; refine (rd_at (hRX _ _ _ _ _)).mono ?_; rintro e w' ⟨rfl, rfl⟩) | ((go_at_call 12; refine (rd_byte (hRX _ _ _ _ _)).mono ?_; rintro e w5 ⟨rfl, hR5, hF5⟩); have hB5 := (hBX _ _ _ _ _).fr hF5 (by simp; omega); have hA5 := (hAX _ _ _ _ _).fr hF5 (by simp; omega); have hLC5 := hB5.cell; have hLF5 := hB5.frz; have hLT5 := hB5.lt; have hLC7 := hA5.cell; have hLF7 := hA5.frz; have hLT7 := hA5.lt) | ((go_at_call 60; refine (rd_form hR5 _ hle2).mono ?_; rintro e w6 ⟨rfl, hR6, hF6⟩); have hB6 := hB5.fr hF6 (by simp; omega); have hA6 := hA5.fr hF6 (by simp; omega); have hLC6 := hB6.cell; have hLF6 := hB6.frz; have hLT6 := hB6.lt; have hLC8 := hA6.cell; have hLF8 := hA6.frz; have hLT8 := hA6.lt)
        have f5 : Fr [rb] w w5 := Fr.trans (by repeat (first | (with_reducible exact Fr.refl _ _) | (with_reducible assumption) | (with_reducible apply Fr.alloc) | (with_reducible apply Fr.drew) | (with_reducible apply Fr.drewN) | (with_reducible refine Fr.setCell ?_ (by first | (left; simp; done) | (right; simp; done) | (right; simp; omega)) _))) hF5
        have f6 : Fr [rb] w w6 := f5.trans hF6
        refine bodyPost_ret (v := fieldV ⟨16, ⟨1, false, ⟨0, 0⟩⟩, (rByte bs s.next).1 == 1⟩) (by simp [results, Tryd.results140, go_sem, bit_eq, *]) rfl ⟨rfl, ?_, ?_⟩
        · refine Rd.un1 (lb := w.heap.size) (Rd.un1 (lb := w.heap.size + 1) ?_ (by simp; exact .inr h.mem)) h.mem
          repeat (first | (with_reducible assumption) | (with_reducible refine Rd.setLoc ?_ (by simp) (by omega) _ _) | (with_reducible apply Rd.alloc) | (with_reducible apply Rd.drewN))
        · repeat (first | (with_reducible exact Fr.refl _ _) | (with_reducible assumption) | (with_reducible apply Fr.alloc) | (with_reducible apply Fr.drew) | (with_reducible apply Fr.drewN) | (with_reducible refine Fr.setCell ?_ (by first | (left; simp; done) | (right; simp; done) | (right; simp; omega)) _))
      · have hqi : ¬ (1 : Int) < (((rByte bs s.next).1 : Nat) : Int) := by omega
        have hf : rField bs s = (⟨16, ⟨1, false, ⟨0, 0⟩⟩, (rByte bs s.next).1 == 1⟩, (rByte bs s.next).2) := by unfold rField rBit; rw [hst]; simp only [if_neg hq]
        rw [hf]
        clear hst hf hq
        go_enter Tryd.func140, Tryd.ntmps140
        go_wp2_with first | ((go_at_call 46; refine (rd_peek hR).mono ?_; rintro e w' ⟨rfl, nq, rfl⟩); have hR0 := hR.drewN nq; have hB0 := hB.drewN nq; have hC0 := hR0.loc.cell; have hG0 := hR0.loc.frz; have hT0 := hR0.loc.lt; simp only [rdCells] at hC0; have hLC0 := hB0.cell; have hLF0 := hB0.frz; have hLT0 := hB0.lt) | fail
        have hE := rd_next (hR.drewN nq) hlt
        have hRX := fun v0 v1 v2 v3 v4 => ((((hE.setLoc (lb := w.heap.size + 1) (by simp) (by omega) 0 v0).setLoc (lb := w.heap.size + 1) (by simp) (by omega) 1 v1).setLoc (lb := w.heap.size + 1) (by simp) (by omega) 2 v2).setLoc (lb := w.heap.size + 1) (by simp) (by omega) 3 v3).setLoc (lb := w.heap.size + 1) (by simp) (by omega) 4 v4
        have hBX := fun v0 v1 v2 v3 v4 => (((((((hB.drewN nq).set' (p := ⟨rb, 0, none⟩) (by simp; omega) (.int .i64 ((s.at_ : Int) + 1))).set 0 v0).set 1 v1).set 2 v2).set 3 v3).set 4 v4)
        have hAX := fun v0 v1 v2 v3 v4 => ((((((((hA.drewN nq).set' (p := ⟨rb, 0, none⟩) (by simp; omega) (.int .i64 ((s.at_ : Int) + 1))).set' (p := ⟨w.heap.size + 1, 0, none⟩) (by simp) v0).set' (p := ⟨w.heap.size + 1, 1, none⟩) (by simp) v1).set' (p := ⟨w.heap.size + 1, 2, none⟩) (by simp) v2).set' (p := ⟨w.heap.size + 1, 3, none⟩) (by simp) v3).set' (p := ⟨w.heap.size + 1, 4, none⟩) (by simp) v4))
        have hle2 := hE.le
        go_wp2_with first | (go_at_call 22; refine (rd_at (hRX _ _ _ _ _)).mono ?_; rintro e w' ⟨rfl, rfl⟩) | ((go_at_call 12; refine (rd_byte (hRX _ _ _ _ _)).mono ?_; rintro e w5 ⟨rfl, hR5, hF5⟩); have hB5 := (hBX _ _ _ _ _).fr hF5 (by simp; omega); have hA5 := (hAX _ _ _ _ _).fr hF5 (by simp; omega); have hLC5 := hB5.cell; have hLF5 := hB5.frz; have hLT5 := hB5.lt; have hLC7 := hA5.cell; have hLF7 := hA5.frz; have hLT7 := hA5.lt)
        have f5 : Fr [rb] w w5 := Fr.trans (by repeat (first | (with_reducible exact Fr.refl _ _) | (with_reducible assumption) | (with_reducible apply Fr.alloc) | (with_reducible apply Fr.drew) | (with_reducible apply Fr.drewN) | (with_reducible refine Fr.setCell ?_ (by first | (left; simp; done) | (right; simp; done) | (right; simp; omega)) _))) hF5
        refine bodyPost_ret (v := fieldV ⟨16, ⟨1, false, ⟨0, 0⟩⟩, (rByte bs s.next).1 == 1⟩) (by simp [results, Tryd.results140, go_sem, bit_eq, *]) rfl ⟨rfl, ?_, ?_⟩
        · refine Rd.un1 (lb := w.heap.size) (Rd.un1 (lb := w.heap.size + 1) ?_ (by simp; exact .inr h.mem)) h.mem
          repeat (first | (with_reducible assumption) | (with_reducible refine Rd.setLoc ?_ (by simp) (by omega) _ _) | (with_reducible apply Rd.alloc) | (with_reducible apply Rd.drewN))
        · repeat (first | (with_reducible exact Fr.refl _ _) | (with_reducible assumption) | (with_reducible apply Fr.alloc) | (with_reducible apply Fr.drew) | (with_reducible apply Fr.drewN) | (with_reducible refine Fr.setCell ?_ (by first | (left; simp; done) | (right; simp; done) | (right; simp; omega)) _))

    · skip
      have hst : rStore bs s = ((0, (rVal bs s).1), (rVal bs s).2) := by unfold rStore; rw [if_neg hp1, if_neg hp2]
      have q1 : (((rPeek bs s : Nat) : Int) == 120) = false := by simp; omega
      have q2 : (((rPeek bs s : Nat) : Int) == 119) = false := by simp; omega
      by_cases hq : 1 < (rByte bs (rVal bs s).2).1
      · have hqi : (1 : Int) < (((rByte bs (rVal bs s).2).1 : Nat) : Int) := by omega
        have hf : rField bs s = (⟨0, (rVal bs s).1, (rByte bs (rVal bs s).2).1 == 1⟩, (rByte bs (rVal bs s).2).2.form (rVal bs s).2.at_) := by unfold rField rBit; rw [hst]; simp only [if_pos hq]
        rw [hf]
        clear hst hf hq
        go_enter Tryd.func140, Tryd.ntmps140
        go_wp2_with first | ((go_at_call 46; refine (rd_peek hR).mono ?_; rintro e w' ⟨rfl, nq, rfl⟩); have hR0 := hR.drewN nq; have hB0 := hB.drewN nq; have hA0 := hA.drewN nq; have hLC0 := hB0.cell; have hLF0 := hB0.frz; have hLT0 := hB0.lt) | ((go_at_call 19; refine (rd_val (hR.drewN nq)).mono ?_; rintro e w2 ⟨rfl, hR2, hF2⟩); have hB2 := (hB.drewN nq).fr hF2 (by simp; omega); have hA2 := (hA.drewN nq).fr hF2 (by simp; omega); have hLC2 := hB2.cell; have hLF2 := hB2.frz; have hLT2 := hB2.lt) | fail
        have hRX := fun v1 v2 v3 v4 => (((hR2.setLoc (lb := w.heap.size + 1) (by simp) (by omega) 1 v1).setLoc (lb := w.heap.size + 1) (by simp) (by omega) 2 v2).setLoc (lb := w.heap.size + 1) (by simp) (by omega) 3 v3).setLoc (lb := w.heap.size + 1) (by simp) (by omega) 4 v4
        have hBX := fun v1 v2 v3 v4 => ((((hB2.set 1 v1).set 2 v2).set 3 v3).set 4 v4)
        have hAX := fun v1 v2 v3 v4 => ((((hA2.set' (p := ⟨w.heap.size + 1, 1, none⟩) (by simp) v1).set' (p := ⟨w.heap.size + 1, 2, none⟩) (by simp) v2).set' (p := ⟨w.heap.size + 1, 3, none⟩) (by simp) v3).set' (p := ⟨w.heap.size + 1, 4, none⟩) (by simp) v4)
        have hle2 := hR2.le
        go_wp2_with first | (go_at_call 22; refine (rd_at (hRX _ _ _ _)).mono ?_; rintro e w' ⟨rfl, rfl⟩) | ((go_at_call 12; refine (rd_byte (hRX _ _ _ _)).mono ?_; rintro e w5 ⟨rfl, hR5, hF5⟩); have hB5 := (hBX _ _ _ _).fr hF5 (by simp; omega); have hA5 := (hAX _ _ _ _).fr hF5 (by simp; omega); have hLC5 := hB5.cell; have hLF5 := hB5.frz; have hLT5 := hB5.lt; have hLC7 := hA5.cell; have hLF7 := hA5.frz; have hLT7 := hA5.lt) | ((go_at_call 60; refine (rd_form hR5 _ hle2).mono ?_; rintro e w6 ⟨rfl, hR6, hF6⟩); have hB6 := hB5.fr hF6 (by simp; omega); have hA6 := hA5.fr hF6 (by simp; omega); have hLC6 := hB6.cell; have hLF6 := hB6.frz; have hLT6 := hB6.lt; have hLC8 := hA6.cell; have hLF8 := hA6.frz; have hLT8 := hA6.lt)
        have f2 : Fr [rb] w w2 := Fr.trans (by repeat (first | (with_reducible exact Fr.refl _ _) | (with_reducible assumption) | (with_reducible apply Fr.alloc) | (with_reducible apply Fr.drew) | (with_reducible apply Fr.drewN) | (with_reducible refine Fr.setCell ?_ (by first | (left; simp; done) | (right; simp; done) | (right; simp; omega)) _))) hF2
        have f5 : Fr [rb] w w5 := Fr.trans (by repeat (first | (with_reducible exact Fr.refl _ _) | (with_reducible assumption) | (with_reducible apply Fr.alloc) | (with_reducible apply Fr.drew) | (with_reducible apply Fr.drewN) | (with_reducible refine Fr.setCell ?_ (by first | (left; simp; done) | (right; simp; done) | (right; simp; omega)) _))) hF5
        have f6 : Fr [rb] w w6 := f5.trans hF6
        refine bodyPost_ret (v := fieldV ⟨0, (rVal bs s).1, (rByte bs (rVal bs s).2).1 == 1⟩) (by simp [results, Tryd.results140, go_sem, bit_eq, *]) rfl ⟨rfl, ?_, ?_⟩
        · refine Rd.un1 (lb := w.heap.size) (Rd.un1 (lb := w.heap.size + 1) ?_ (by simp; exact .inr h.mem)) h.mem
          repeat (first | (with_reducible assumption) | (with_reducible refine Rd.setLoc ?_ (by simp) (by omega) _ _) | (with_reducible apply Rd.alloc) | (with_reducible apply Rd.drewN))
        · repeat (first | (with_reducible exact Fr.refl _ _) | (with_reducible assumption) | (with_reducible apply Fr.alloc) | (with_reducible apply Fr.drew) | (with_reducible apply Fr.drewN) | (with_reducible refine Fr.setCell ?_ (by first | (left; simp; done) | (right; simp; done) | (right; simp; omega)) _))
      · have hqi : ¬ (1 : Int) < (((rByte bs (rVal bs s).2).1 : Nat) : Int) := by omega
        have hf : rField bs s = (⟨0, (rVal bs s).1, (rByte bs (rVal bs s).2).1 == 1⟩, (rByte bs (rVal bs s).2).2) := by unfold rField rBit; rw [hst]; simp only [if_neg hq]
        rw [hf]
        clear hst hf hq
        go_enter Tryd.func140, Tryd.ntmps140
        go_wp2_with first | ((go_at_call 46; refine (rd_peek hR).mono ?_; rintro e w' ⟨rfl, nq, rfl⟩); have hR0 := hR.drewN nq; have hB0 := hB.drewN nq; have hA0 := hA.drewN nq; have hLC0 := hB0.cell; have hLF0 := hB0.frz; have hLT0 := hB0.lt) | ((go_at_call 19; refine (rd_val (hR.drewN nq)).mono ?_; rintro e w2 ⟨rfl, hR2, hF2⟩); have hB2 := (hB.drewN nq).fr hF2 (by simp; omega); have hA2 := (hA.drewN nq).fr hF2 (by simp; omega); have hLC2 := hB2.cell; have hLF2 := hB2.frz; have hLT2 := hB2.lt) | fail
        have hRX := fun v1 v2 v3 v4 => (((hR2.setLoc (lb := w.heap.size + 1) (by simp) (by omega) 1 v1).setLoc (lb := w.heap.size + 1) (by simp) (by omega) 2 v2).setLoc (lb := w.heap.size + 1) (by simp) (by omega) 3 v3).setLoc (lb := w.heap.size + 1) (by simp) (by omega) 4 v4
        have hBX := fun v1 v2 v3 v4 => ((((hB2.set 1 v1).set 2 v2).set 3 v3).set 4 v4)
        have hAX := fun v1 v2 v3 v4 => ((((hA2.set' (p := ⟨w.heap.size + 1, 1, none⟩) (by simp) v1).set' (p := ⟨w.heap.size + 1, 2, none⟩) (by simp) v2).set' (p := ⟨w.heap.size + 1, 3, none⟩) (by simp) v3).set' (p := ⟨w.heap.size + 1, 4, none⟩) (by simp) v4)
        have hle2 := hR2.le
        go_wp2_with first | (go_at_call 22; refine (rd_at (hRX _ _ _ _)).mono ?_; rintro e w' ⟨rfl, rfl⟩) | ((go_at_call 12; refine (rd_byte (hRX _ _ _ _)).mono ?_; rintro e w5 ⟨rfl, hR5, hF5⟩); have hB5 := (hBX _ _ _ _).fr hF5 (by simp; omega); have hA5 := (hAX _ _ _ _).fr hF5 (by simp; omega); have hLC5 := hB5.cell; have hLF5 := hB5.frz; have hLT5 := hB5.lt; have hLC7 := hA5.cell; have hLF7 := hA5.frz; have hLT7 := hA5.lt)
        have f2 : Fr [rb] w w2 := Fr.trans (by repeat (first | (with_reducible exact Fr.refl _ _) | (with_reducible assumption) | (with_reducible apply Fr.alloc) | (with_reducible apply Fr.drew) | (with_reducible apply Fr.drewN) | (with_reducible refine Fr.setCell ?_ (by first | (left; simp; done) | (right; simp; done) | (right; simp; omega)) _))) hF2
        have f5 : Fr [rb] w w5 := Fr.trans (by repeat (first | (with_reducible exact Fr.refl _ _) | (with_reducible assumption) | (with_reducible apply Fr.alloc) | (with_reducible apply Fr.drew) | (with_reducible apply Fr.drewN) | (with_reducible refine Fr.setCell ?_ (by first | (left; simp; done) | (right; simp; done) | (right; simp; omega)) _))) hF5
        refine bodyPost_ret (v := fieldV ⟨0, (rVal bs s).1, (rByte bs (rVal bs s).2).1 == 1⟩) (by simp [results, Tryd.results140, go_sem, bit_eq, *]) rfl ⟨rfl, ?_, ?_⟩
        · refine Rd.un1 (lb := w.heap.size) (Rd.un1 (lb := w.heap.size + 1) ?_ (by simp; exact .inr h.mem)) h.mem
          repeat (first | (with_reducible assumption) | (with_reducible refine Rd.setLoc ?_ (by simp) (by omega) _ _) | (with_reducible apply Rd.alloc) | (with_reducible apply Rd.drewN))
        · repeat (first | (with_reducible exact Fr.refl _ _) | (with_reducible assumption) | (with_reducible apply Fr.alloc) | (with_reducible apply Fr.drew) | (with_reducible apply Fr.drewN) | (with_reducible refine Fr.setCell ?_ (by first | (left; simp; done) | (right; simp; done) | (right; simp; omega)) _))


theorem info_field : (Tryd.prog.info? 155).map (fun i => (i.zero, i.size, i.bytes)) = some (some (.agg #[.int .i64 0, .int .i64 0, .bool false, .int .i64 0, .int .i64 0, .bool false]), 6, 48) := by kernel_rfl
theorem und_fields : Tryd.prog.underlying 56 = some (.slice 155) := by kernel_rfl
/-- append on such a slice of the call's own. -/
theorem app_field {w : World} {ops : Array Oper} {rest : List Oper} {o : Oper} {a : Act} {Q : Exit → Act → World → Prop} (hgd : o.guard = none) (s x : Operand) (tx : TypeId)
    (ho : o.op = .call { callee := .builtin .append, args := #[s, x], argTypes := #[56, tx] })
    (v : Value) (n : Nat) (xs : List Value) (hs : a.eval s = v) (hown : Own [] w 155 6 v n xs) (xv : Value) (m : Nat) (news : List Value) (hx : a.eval x = xv) (hsrc : Src Tryd.prog 6 tx xv m news w)
    (hb : n + m ≤ 1099511627776)
    (h : ∀ v' w', Own [] w' 155 6 v' (n + m) (xs ++ news) → Fr (Value.blk v) w w' → (Value.blk v' = Value.blk v ∨ Value.blk v' = [w.heap.size]) → wpList Tryd.prog ops Q rest (a.put o.dst v') w') :
    wpList Tryd.prog ops Q (o :: rest) a w := by
  obtain ⟨i0, hi, hz0, hz1, hz2⟩ := info_parts info_field
  exact wpList_app hgd s x _ tx ho _ i0 _ 6 48 und_fields hi hz0 hz1 hz2 rfl (by decide) [] (by simp) v n xs hs hown xv m news hx hsrc (by omega) (by unfold maxLen; omega) h

set_option maxRecDepth 100000 in
set_option maxHeartbeats 400000 in
theorem told_fields {S : List Nat} {w : World} {rb : Nat} {bv : Value} {bs : List UInt8} {s : RdS} (h : Rd S w rb bv bs s) (v : Value) :
    Calls Tryd.prog 147 #[.pointer (some ⟨rb, 0, none⟩), v] w fun e w' => e = .returned (if s.err = 0 then v else .slice none 0 0) ∧ w = w' := by
  by_cases he : s.err = 0
  · have g1 : (s.err == 0) = true := by simp [he]
    rw [if_pos he]
    clear he
    go_enter Tryd.func147, Tryd.ntmps147
    go_wp2_with (go_at_call 45; refine (rd_reads h).mono ?_; rintro e w' ⟨rfl, rfl⟩)
    go_ret
    exact ⟨rfl, rfl⟩
  · have g1 : (s.err == 0) = false := by simp [he]
    rw [if_neg he]
    clear he
    go_enter Tryd.func147, Tryd.ntmps147
    go_wp2_with (go_at_call 45; refine (rd_reads h).mono ?_; rintro e w' ⟨rfl, rfl⟩)
    go_ret
    exact ⟨rfl, rfl⟩

set_option maxRecDepth 100000 in
set_option maxHeartbeats 1600000 in
theorem list_field {S : List Nat} {w : World} {rb : Nat} {bv : Value} {bs : List UInt8} {s : RdS} (h : Rd S w rb bv bs s) :
    Calls Tryd.prog 139 #[.pointer (some ⟨rb, 0, none⟩), .func (.func 140) #[.pointer (some ⟨rb, 0, none⟩)] #[]] w fun e w' =>
      ∃ v, e = .returned v ∧ Sl S w' 6 v (rList bs (rField bs) s).1.length ((rList bs (rField bs) s).1.flatMap fieldC) ∧ Rd S w' rb bv bs (rList bs (rField bs) s).2 ∧ Fr [rb] w w' := by
  have hrb := h.loc.lt
  have hsm := h.small
  have hN := rCount_le bs s
  have hl : rList bs (rField bs) s = ((rMany (rField bs) (rCount bs s).1 (rCount bs s).2).2.told [] (rMany (rField bs) (rCount bs s).1 (rCount bs s).2).1, (rMany (rField bs) (rCount bs s).1 (rCount bs s).2).2) := rfl
  rw [hl]
  clear hl
  go_enter Tryd.func139, Tryd.ntmps139
  go_wp2_with (go_at_call 16; refine (rd_count h).mono ?_; rintro e w1 ⟨rfl, hR1, hF1⟩)
  go_loopw [5, 6] (fun v n wr => ∃ (k : Nat) (xs : List FieldT) (t : RdS), n = .int .i64 k ∧ Own [] wr 155 6 v xs.length (xs.flatMap fieldC) ∧ New w v ∧ Rd S wr rb bv bs t ∧ Fr [rb] w wr ∧ k + xs.length = (rCount bs s).1 ∧ Hid (rMany (rField bs) (rCount bs s).1 (rCount bs s).2 = (xs ++ (rMany (rField bs) k t).1, (rMany (rField bs) k t).2))) (fun _ n _ => (intOf n).toNat)
  case atStart => exact ⟨(rCount bs s).1, [], _, rfl, Own.nil _ _ _ _, New.nil _, hR1, hF1, by simp, Lib.hid rfl⟩
  case round =>
    obtain ⟨k, xs, t, rfl, hown, hnew, hR, hF, hks, hg⟩ := hrel
    have Hks := Lib.hid hks
    have hbnd : xs.length + 1 ≤ 1099511627776 ∨ k = 0 := by omega
    clear hks
    have hexit : (k = 0 ∨ t.err ≠ 0) → rMany (rField bs) (rCount bs s).1 (rCount bs s).2 = (xs, t) := by
      intro hh
      rw [hg.out]
      cases k with
      | zero => simp [rMany]
      | succ k => simp [rMany, hh.resolve_left (by omega)]
    by_cases hk : k = 0
    · have hE := Lib.hid (hexit (.inl hk))
      subst hk
      clear hexit hbnd
      by_cases he : t.err = 0
      · have g1 : (t.err == 0) = true := by simp [he]
        go_wp2_with first | (go_at_call 147; refine (told_fields hR _).mono ?_; rintro e w' ⟨rfl, rfl⟩) | (go_at_call 45; refine (rd_reads hR).mono ?_; rintro e w' ⟨rfl, rfl⟩)
        go_ret
        refine ⟨_, rfl, ?_, by rw [hE.out]; exact hR, hF⟩
        rw [hE.out]
        simp only [RdS.told, if_pos he]
        exact hown.slN hnew h.lt
      · have g1 : (t.err == 0) = false := by simp [he]
        go_wp2_with first | (go_at_call 147; refine (told_fields hR _).mono ?_; rintro e w' ⟨rfl, rfl⟩) | (go_at_call 45; refine (rd_reads hR).mono ?_; rintro e w' ⟨rfl, rfl⟩)
        go_ret
        refine ⟨_, rfl, ?_, by rw [hE.out]; exact hR, hF⟩
        rw [hE.out]
        simp only [RdS.told, if_neg he]
        exact Sl.nil _ _ _
    · by_cases he : t.err = 0
      · have g1 : (t.err == 0) = true := by simp [he]
        have hx : rMany (rField bs) k t = ((rField bs t).1 :: (rMany (rField bs) (k - 1) (rField bs t).2).1, (rMany (rField bs) (k - 1) (rField bs t).2).2) := by
          obtain ⟨j, rfl⟩ : ∃ j, k = j + 1 := ⟨k - 1, by omega⟩
          simp [rMany, he]
        have HX := Lib.hid hx
        have hkp : 0 < k := by omega
        have hb2 : xs.length + 1 ≤ 1099511627776 := by omega
        have hk40 : k ≤ 1099511627776 := by have := Hks.out; omega
        clear hx he hexit hbnd
        have hone : ∀ u ∈ fieldC (rField bs t).1, u.oneCell' = true := (by intro u hu; simp [fieldC] at hu; rcases hu with rfl | rfl | rfl | rfl | rfl | rfl <;> rfl)
        have hrv := hnew.not hrb
        go_wp2_with first | (go_at_call 45; refine (rd_reads hR).mono ?_; rintro e w' ⟨rfl, rfl⟩) | ((go_at_call 140; refine (rd_field hR).mono ?_; rintro e w2 ⟨rfl, hR2, hF2⟩); have hown2 := hown.fr hF2 (by intro b hb; simp at hb; subst hb; exact hrv)) | (at_builtin; refine app_field rfl (.tmp 17) (.tmp 20) _ rfl _ _ _ rfl (hown2.alloc _) _ _ _ rfl (src_alloc und_fields _ (fieldC (rField bs t).1) _ _ _ rfl hone) hb2 ?_; intro v' w3 hown3 hf3 hb3)
        have hF3 : Fr [rb] w w3 := ((hF.trans hF2).alloc _).app hf3 hnew
        go_roundw
        case rel =>
          refine ⟨k - 1, xs ++ [(rField bs t).1], _, by go_num, ?_, hnew.app hb3 (by have := hF.size; have := hF2.size; first | omega | (simp only [World.size_alloc]; omega)), h.step hF3 ((hR2.loc.alloc _).fr hf3 hrv) hR2.le, hF3, by have := Hks.out; simp; omega, Lib.hid ?_⟩
          · simpa using hown3
          · rw [hg.out, HX.out]; simp
        case measure => simp [intOf]; omega
      · have g1 : (t.err == 0) = false := by simp [he]
        have hE := Lib.hid (hexit (.inr he))
        have hkp : 0 < k := by omega
        clear hexit hbnd
        go_wp2_with first | (go_at_call 147; refine (told_fields hR _).mono ?_; rintro e w' ⟨rfl, rfl⟩) | (go_at_call 45; refine (rd_reads hR).mono ?_; rintro e w' ⟨rfl, rfl⟩)
        go_ret
        refine ⟨_, rfl, ?_, by rw [hE.out]; exact hR, hF⟩
        rw [hE.out]
        simp only [RdS.told, if_neg he]
        exact Sl.nil _ _ _

end Go.Proofs.YtokneepfknepaaaDoor
