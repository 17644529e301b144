/- The walks of layer 6, the second part: bytes, numbers, how many. -/
import Derived.Test.YtokneepfknepaaaDoorRdW
import Derived.Test.YtokneepfknepaaaDoorTbinL
set_option linter.unusedSimpArgs false
set_option linter.unusedVariables false
namespace Go.Proofs.YtokneepfknepaaaDoor
open Go.RowKit

theorem Rd.cellAt {S : List Nat} {w : World} {rb : Nat} {bv : Value} {bs : List UInt8} {s : RdS} (h : Rd S w rb bv bs s) (hlt : s.at_ < bs.length) :
    ∃ b off cap, bv = .slice (some ⟨b, off, none⟩) bs.length cap ∧ w.cell? ⟨b, off + s.at_, none⟩ = some (.int .u8 ((bs.getD s.at_ 0).toNat : Int)) := by
  obtain ⟨_, _, a, cap, hbv, _, _, _, h6⟩ := h.sl
  rcases h6 with h0 | ⟨b, off, rfl, _, _, hc⟩
  · omega
  · refine ⟨b, off, cap, hbv, ?_⟩
    rw [hc _ (by omega)]
    simp [B, hlt]

theorem drewN_two (w : World) (a b : Nat) : (w.drewN a).drewN b = w.drewN (a + b) := by simp [World.drewN, Nat.add_assoc]
def peekV (bs : List UInt8) (s : RdS) : Bool := decide (s.err = 0 ∧ s.at_ < bs.length)
set_option maxRecDepth 100000 in
set_option maxHeartbeats 800000 in
theorem rd_peek {S : List Nat} {w : World} {rb : Nat} {bv : Value} {bs : List UInt8} {s : RdS} (h : Rd S w rb bv bs s) :
    Calls Tryd.prog 46 #[.pointer (some ⟨rb, 0, none⟩)] w fun e w' => e = .returned (.tuple #[.int .u8 (rPeek bs s : Nat), .bool (peekV bs s)]) ∧ DrewN w w' := by
  have hC := h.loc.cell; have hF := h.loc.frz; simp only [rdCells] at hC
  have hle := h.le
  have hsm := h.small
  by_cases h1 : s.err = 0
  · have g1 : (s.err == 0) = true := by simp [h1]
    by_cases h2 : s.at_ < bs.length
    · obtain ⟨b, off, cap, hbv, hc⟩ := h.cellAt h2
      have hp : rPeek bs s = (bs.getD s.at_ 0).toNat := by unfold rPeek; rw [if_pos ⟨h1, h2⟩]
      have hv : peekV bs s = true := by simp [peekV, h1, h2]
      have g2 : decide (bs.length ≤ s.at_) = false := by simp; omega
      rw [hv, hp]
      clear h1 hp hv
      generalize (bs.getD s.at_ 0).toNat = c at hc ⊢
      subst hbv
      go_enter Tryd.func46, Tryd.ntmps46
      go_wp2_with fail
      go_quiet ((go_at_call 45; exact Calls.quiet_of_same ((rd_reads (h.drewN _)).mono fun e w' hh => ⟨hh.1, hh.2.symm⟩)))
      go_wp2
      go_quiet (fail)
      go_wp2
      go_ret2
      exact ⟨rfl, _, drewN_two _ _ _⟩
    · have hp : rPeek bs s = 0 := by unfold rPeek; rw [if_neg (fun hh => h2 hh.2)]
      have hv : peekV bs s = false := by simp [peekV, h2]
      have g2 : decide (bs.length ≤ s.at_) = true := by simp; omega
      rw [hv, hp]
      clear h1 hp hv h2
      obtain ⟨a, cap, hbv, _⟩ := h.sl.2.2
      subst hbv
      go_enter Tryd.func46, Tryd.ntmps46
      go_wp2_with fail
      go_quiet ((go_at_call 45; exact Calls.quiet_of_same ((rd_reads (h.drewN _)).mono fun e w' hh => ⟨hh.1, hh.2.symm⟩)))
      go_wp2
      go_ret2
      exact ⟨rfl, _, rfl⟩
  · have g1 : (s.err == 0) = false := by simp [h1]
    have hp : rPeek bs s = 0 := by unfold rPeek; rw [if_neg (fun hh => h1 hh.1)]
    have hv : peekV bs s = false := by simp [peekV, h1]
    rw [hv, hp]
    clear h1 hp hv
    go_enter Tryd.func46, Tryd.ntmps46
    go_wp2_with fail
    go_quiet ((go_at_call 45; exact Calls.quiet_of_same ((rd_reads (h.drewN _)).mono fun e w' hh => ⟨hh.1, hh.2.symm⟩)))
    go_wp2
    go_ret2
    exact ⟨rfl, _, rfl⟩

theorem Fr.of_drewN (S : List Nat) (w : World) (n : Nat) : Fr S w (w.drewN n) := (Fr.refl S w).drewN n
set_option maxRecDepth 100000 in
set_option maxHeartbeats 800000 in
theorem rd_byte {S : List Nat} {w : World} {rb : Nat} {bv : Value} {bs : List UInt8} {s : RdS} (h : Rd S w rb bv bs s) :
    Calls Tryd.prog 12 #[.pointer (some ⟨rb, 0, none⟩)] w fun e w' => e = .returned (.int .u8 ((rByte bs s).1 : Nat)) ∧ Rd S w' rb bv bs (rByte bs s).2 ∧ Fr [rb] w w' := by
  have hC := h.loc.cell; have hF := h.loc.frz; simp only [rdCells] at hC
  have hle := h.le
  have hsm := h.small
  by_cases h1 : s.err = 0 ∧ s.at_ < bs.length
  · have hv : peekV bs s = true := by simp [peekV, h1]
    have hp : rByte bs s = (rPeek bs s, s.next) := by unfold rByte rPeek; rw [if_pos h1, if_pos h1]
    have hs : s.next.at_ ≤ bs.length := by simp [RdS.next]; omega
    rw [hp]
    clear hp h1
    go_enter Tryd.func12, Tryd.ntmps12
    go_wp2_with (go_at_call 46; refine (rd_peek (by assumption)).mono ?_; rintro e w' ⟨rfl, nq, rfl⟩)
    go_ret
    have hf : Fr [rb] w ((w.drewN nq).setCell ⟨rb, 0, none⟩ (.int .i64 (s.at_ + 1))) := (Fr.of_drewN _ _ _).setCell (by simp) _
    exact ⟨rfl, h.step hf ((h.loc.drewN nq).set 0 _) hs, hf⟩
  · have hv : peekV bs s = false := by simp [peekV]; omega
    have hp : rByte bs s = (0, s.fail 10 s.at_) := by unfold rByte; rw [if_neg h1]
    have hr := h.drewN
    rw [hp]
    clear hp h1
    go_enter Tryd.func12, Tryd.ntmps12
    go_wp2_with first | (go_at_call 46; refine (rd_peek (by assumption)).mono ?_; rintro e w' ⟨rfl, nq, rfl⟩) | (go_at_call 22; refine (rd_at (hr _)).mono ?_; rintro e w' ⟨rfl, rfl⟩) | (go_at_call 11; refine (rd_fail (hr _) _ _).mono ?_; rintro e w1 ⟨rfl, hR1, hF1⟩)
    go_ret
    exact ⟨rfl, hR1, (Fr.of_drewN _ _ _).trans hF1⟩

set_option maxRecDepth 100000 in
set_option maxHeartbeats 400000 in
theorem rd_form {S : List Nat} {w : World} {rb : Nat} {bv : Value} {bs : List UInt8} {s : RdS} (h : Rd S w rb bv bs s) (a0 : Nat) (ha : a0 ≤ bs.length) :
    Calls Tryd.prog 60 #[.pointer (some ⟨rb, 0, none⟩), .int .i64 a0] w fun e w' => e = .returned (.tuple #[]) ∧ Rd S w' rb bv bs (s.form a0) ∧ Fr [rb] w w' := by
  by_cases h1 : s.err = 0
  · have g1 : (s.err == 0) = true := by simp [h1]
    have hh : s.form a0 = s.refuse 60 a0 := by simp [RdS.form, h1]
    rw [hh]
    clear h1 hh
    go_enter Tryd.func60, Tryd.ntmps60
    go_wp2_with first | (go_at_call 45; refine (rd_reads (by assumption)).mono ?_; rintro e w' ⟨rfl, rfl⟩) | (go_at_call 55; refine (rd_refuse (by assumption) _ _ ha).mono ?_; rintro e w1 ⟨rfl, hR1, hF1⟩)
    go_end0
    exact ⟨rfl, hR1, hF1⟩
  · have g1 : (s.err == 0) = false := by simp [h1]
    have hh : s.form a0 = s := by simp [RdS.form, h1]
    rw [hh]
    clear h1 hh
    go_enter Tryd.func60, Tryd.ntmps60
    go_wp2_with (go_at_call 45; refine (rd_reads (by assumption)).mono ?_; rintro e w' ⟨rfl, rfl⟩)
    go_end0
    exact ⟨rfl, h, Fr.refl _ _⟩

end Go.Proofs.YtokneepfknepaaaDoor
