/- The walks of layer 6, the third part: numbers, how many, the heap type of a byte. -/
import Derived.Test.YtokneepfknepaaaDoorRdW2
set_option linter.unusedSimpArgs false
set_option linter.unusedVariables false
namespace Go.Proofs.YtokneepfknepaaaDoor
open Go.RowKit

set_option maxRecDepth 100000 in
set_option maxHeartbeats 400000 in
theorem u1_any (S : List Nat) (bv : Value) (bs : List UInt8) (at_ nb cb : Nat) (w : World) (hb : Sl S w 1 bv bs.length (bs.map B)) (hlen : bs.length ≤ 1099511627776) (hat : at_ ≤ bs.length) (h1 : 1 ≤ nb) (h2 : nb ≤ 64)
    (hc : w.cell? ⟨cb, 0, none⟩ = some (.int .i64 nb)) :
    Calls Tryd.prog 48 #[bv, .int .i64 at_, .pointer (some ⟨cb, 0, none⟩)] w fun e w' =>
      e = .returned (.tuple #[.int .u64 (lebRead bs at_ nb false).1, .int .i64 (lebRead bs at_ nb false).2.1, .int .i64 (lebRead bs at_ nb false).2.2]) ∧ w = w' := by
  go_enter Tryd.func48, Tryd.ntmps48
  go_wp2_with (go_at_call 49; refine (lebU_any S _ bs _ _ _ hb hlen hat h1 h2).mono ?_; rintro e w' ⟨rfl, rfl⟩)
  go_ret3
  exact ⟨rfl, rfl⟩
set_option maxRecDepth 100000 in
set_option maxHeartbeats 400000 in
theorem s1_any (S : List Nat) (bv : Value) (bs : List UInt8) (at_ nb cb : Nat) (w : World) (hb : Sl S w 1 bv bs.length (bs.map B)) (hlen : bs.length ≤ 1099511627776) (hat : at_ ≤ bs.length) (h1 : 1 ≤ nb) (h2 : nb ≤ 64)
    (hc : w.cell? ⟨cb, 0, none⟩ = some (.int .i64 nb)) :
    Calls Tryd.prog 51 #[bv, .int .i64 at_, .pointer (some ⟨cb, 0, none⟩)] w fun e w' =>
      e = .returned (.tuple #[.int .i64 (toI64 (lebRead bs at_ nb true).1), .int .i64 (lebRead bs at_ nb true).2.1, .int .i64 (lebRead bs at_ nb true).2.2]) ∧ w = w' := by
  go_enter Tryd.func51, Tryd.ntmps51
  go_wp2_with (go_at_call 52; refine (lebS_any S _ bs _ _ _ hb hlen hat h1 h2).mono ?_; rintro e w' ⟨rfl, rfl⟩)
  go_ret3
  exact ⟨rfl, rfl⟩

theorem lebRead_le {bs : List UInt8} {at_ nb : Nat} {sg : Bool} (ha : at_ ≤ bs.length) (h0 : (lebRead bs at_ nb sg).2.2 = 0) : (lebRead bs at_ nb sg).2.1 ≤ bs.length := by
  rw [lebRead_eq ha] at h0 ⊢
  generalize hq : lebGo sg nb (bs.drop at_) at_ 0 0 = q at h0 ⊢
  obtain ⟨v, nx, er⟩ := q
  simp only at h0 ⊢
  subst h0
  have := lebGo_ok _ _ _ _ _ _ _ _ hq
  simp only [List.length_drop] at this
  omega

set_option maxRecDepth 100000 in
set_option maxHeartbeats 800000 in
theorem item_u {S : List Nat} {w : World} {rb : Nat} {bv : Value} {bs : List UInt8} {s : RdS} (h : Rd S w rb bv bs s) (cb nb : Nat) (h1 : 1 ≤ nb) (h2 : nb ≤ 64) (hc : w.cell? ⟨cb, 0, none⟩ = some (.int .i64 nb)) :
    Calls Tryd.prog 47 #[.pointer (some ⟨rb, 0, none⟩), .func (.func 48) #[] #[.pointer (some ⟨cb, 0, none⟩)]] w fun e w' =>
      e = .returned (.int .u64 ((rU bs nb s).1 : Nat)) ∧ Rd S w' rb bv bs (rU bs nb s).2 ∧ Fr [rb] w w' := by
  have hC := h.loc.cell; have hF := h.loc.frz; simp only [rdCells] at hC
  have hle := h.le
  have hsm := h.small
  by_cases he : s.err = 0
  · have g1 : (s.err == 0) = true := by simp [he]
    by_cases hr : (lebRead bs s.at_ nb false).2.2 = 0
    · have hp : rU bs nb s = ((lebRead bs s.at_ nb false).1, { s with at_ := (lebRead bs s.at_ nb false).2.1 }) := by unfold rU; rw [if_pos he, if_pos hr]
      have hnx := lebRead_le hle hr
      have hcon := fun n => u1_any S bv bs s.at_ nb cb (w.drewN n) (h.drewN n).sl hsm hle h1 h2 hc
      rw [hp]
      generalize lebRead bs s.at_ nb false = q at hcon hr hnx ⊢
      obtain ⟨v, nx, er⟩ := q
      simp only at hcon hr hnx ⊢
      subst hr
      have Hcon := Lib.hid hcon
      clear hp hcon
      go_enter Tryd.func47, Tryd.ntmps47
      go_wp2_with (go_at_call 45; refine (rd_reads (by assumption)).mono ?_; rintro e w' ⟨rfl, rfl⟩)
      go_quiet ((go_at_call 48; exact Calls.quiet_of_same ((Hcon.out _).mono fun e w' hh => ⟨hh.1, hh.2.symm⟩)))
      go_wp2
      go_ret
      have hf : Fr [rb] w ((w.drewN nq).setCell ⟨rb, 0, none⟩ (.int .i64 nx)) := (Fr.of_drewN _ _ _).setCell (by simp) _
      exact ⟨rfl, h.step hf ((h.loc.drewN nq).set 0 _) hnx, hf⟩
    · have hp : rU bs nb s = (0, s.fail (lebRead bs s.at_ nb false).2.2 s.at_) := by unfold rU; rw [if_pos he, if_neg hr]
      have hcon := fun n => u1_any S bv bs s.at_ nb cb (w.drewN n) (h.drewN n).sl hsm hle h1 h2 hc
      rw [hp]
      generalize lebRead bs s.at_ nb false = q at hcon hr ⊢
      obtain ⟨v, nx, er⟩ := q
      simp only at hcon hr ⊢
      have hr2 : ((er : Int) != 0) = true := by simp; omega
      have hr3 : ((er : Int) == 0) = false := by simp; omega
      have Hcon := Lib.hid hcon
      have Hd := h.drewN
      clear hp hcon hr
      go_enter Tryd.func47, Tryd.ntmps47
      go_wp2_with (go_at_call 45; refine (rd_reads (by assumption)).mono ?_; rintro e w' ⟨rfl, rfl⟩)
      go_quiet ((go_at_call 48; exact Calls.quiet_of_same ((Hcon.out _).mono fun e w' hh => ⟨hh.1, hh.2.symm⟩)))
      go_wp2_with (go_at_call 11; refine (rd_fail (Hd _) _ _).mono ?_; rintro e w1 ⟨rfl, hR1, hF1⟩)
      go_ret
      exact ⟨rfl, hR1, (Fr.of_drewN _ _ _).trans hF1⟩
  · have g1 : (s.err == 0) = false := by simp [he]
    have hp : rU bs nb s = (0, s) := by unfold rU; rw [if_neg he]
    rw [hp]
    clear hp he
    go_enter Tryd.func47, Tryd.ntmps47
    go_wp2_with (go_at_call 45; refine (rd_reads (by assumption)).mono ?_; rintro e w' ⟨rfl, rfl⟩)
    go_ret
    exact ⟨rfl, h, Fr.refl _ _⟩

set_option maxRecDepth 100000 in
set_option maxHeartbeats 800000 in
theorem item_s {S : List Nat} {w : World} {rb : Nat} {bv : Value} {bs : List UInt8} {s : RdS} (h : Rd S w rb bv bs s) (cb nb : Nat) (h1 : 1 ≤ nb) (h2 : nb ≤ 64) (hc : w.cell? ⟨cb, 0, none⟩ = some (.int .i64 nb)) :
    Calls Tryd.prog 50 #[.pointer (some ⟨rb, 0, none⟩), .func (.func 51) #[] #[.pointer (some ⟨cb, 0, none⟩)]] w fun e w' =>
      e = .returned (.int .i64 (rS bs nb s).1) ∧ Rd S w' rb bv bs (rS bs nb s).2 ∧ Fr [rb] w w' := by
  have hC := h.loc.cell; have hF := h.loc.frz; simp only [rdCells] at hC
  have hle := h.le
  have hsm := h.small
  by_cases he : s.err = 0
  · have g1 : (s.err == 0) = true := by simp [he]
    by_cases hr : (lebRead bs s.at_ nb true).2.2 = 0
    · have hp : rS bs nb s = (toI64 (lebRead bs s.at_ nb true).1, { s with at_ := (lebRead bs s.at_ nb true).2.1 }) := by unfold rS; rw [if_pos he, if_pos hr]
      have hnx := lebRead_le hle hr
      have hcon := fun n => s1_any S bv bs s.at_ nb cb (w.drewN n) (h.drewN n).sl hsm hle h1 h2 hc
      rw [hp]
      generalize lebRead bs s.at_ nb true = q at hcon hr hnx ⊢
      obtain ⟨v, nx, er⟩ := q
      simp only at hcon hr hnx ⊢
      subst hr
      have Hcon := Lib.hid hcon
      clear hp hcon
      go_enter Tryd.func50, Tryd.ntmps50
      go_wp2_with (go_at_call 45; refine (rd_reads (by assumption)).mono ?_; rintro e w' ⟨rfl, rfl⟩)
      go_quiet ((go_at_call 51; exact Calls.quiet_of_same ((Hcon.out _).mono fun e w' hh => ⟨hh.1, hh.2.symm⟩)))
      go_wp2
      go_ret
      have hf : Fr [rb] w ((w.drewN nq).setCell ⟨rb, 0, none⟩ (.int .i64 nx)) := (Fr.of_drewN _ _ _).setCell (by simp) _
      exact ⟨rfl, h.step hf ((h.loc.drewN nq).set 0 _) hnx, hf⟩
    · have hp : rS bs nb s = (0, s.fail (lebRead bs s.at_ nb true).2.2 s.at_) := by unfold rS; rw [if_pos he, if_neg hr]
      have hcon := fun n => s1_any S bv bs s.at_ nb cb (w.drewN n) (h.drewN n).sl hsm hle h1 h2 hc
      rw [hp]
      generalize lebRead bs s.at_ nb true = q at hcon hr ⊢
      obtain ⟨v, nx, er⟩ := q
      simp only at hcon hr ⊢
      have hr2 : ((er : Int) != 0) = true := by simp; omega
      have hr3 : ((er : Int) == 0) = false := by simp; omega
      have Hcon := Lib.hid hcon
      have Hd := h.drewN
      clear hp hcon hr
      go_enter Tryd.func50, Tryd.ntmps50
      go_wp2_with (go_at_call 45; refine (rd_reads (by assumption)).mono ?_; rintro e w' ⟨rfl, rfl⟩)
      go_quiet ((go_at_call 51; exact Calls.quiet_of_same ((Hcon.out _).mono fun e w' hh => ⟨hh.1, hh.2.symm⟩)))
      go_wp2_with (go_at_call 11; refine (rd_fail (Hd _) _ _).mono ?_; rintro e w1 ⟨rfl, hR1, hF1⟩)
      go_ret
      exact ⟨rfl, hR1, (Fr.of_drewN _ _ _).trans hF1⟩
  · have g1 : (s.err == 0) = false := by simp [he]
    have hp : rS bs nb s = (0, s) := by unfold rS; rw [if_neg he]
    rw [hp]
    clear hp he
    go_enter Tryd.func50, Tryd.ntmps50
    go_wp2_with (go_at_call 45; refine (rd_reads (by assumption)).mono ?_; rintro e w' ⟨rfl, rfl⟩)
    go_ret
    exact ⟨rfl, h, Fr.refl _ _⟩


set_option maxRecDepth 100000 in
set_option maxHeartbeats 400000 in
theorem rd_u {S : List Nat} {w : World} {rb : Nat} {bv : Value} {bs : List UInt8} {s : RdS} (h : Rd S w rb bv bs s) (nb : Nat) (h1 : 1 ≤ nb) (h2 : nb ≤ 64) :
    Calls Tryd.prog 13 #[.pointer (some ⟨rb, 0, none⟩), .int .i64 nb] w fun e w' => e = .returned (.int .u64 ((rU bs nb s).1 : Nat)) ∧ Rd S w' rb bv bs (rU bs nb s).2 ∧ Fr [rb] w w' := by
  have hmf : ∀ (fn : Fn) (first cap : Array Value) (w : World), (Instr.makeFunc fn first cap).run Tryd.prog w = .ok (.func fn first cap) w := fun _ _ _ _ => rfl
  have hc : (w.alloc (.cells #[.int .i64 nb] 3)).cell? ⟨w.heap.size, 0, none⟩ = some (.int .i64 nb) := by simp
  have hH := h.alloc (.cells #[.int .i64 nb] 3)
  go_enter Tryd.func13, Tryd.ntmps13
  go_wp2_with (go_at_call 47; refine (item_u hH w.heap.size nb h1 h2 hc).mono ?_; rintro e w' ⟨rfl, hR1, hF1⟩)
  go_ret
  exact ⟨rfl, hR1, ((Fr.refl _ _).alloc _).trans hF1⟩
set_option maxRecDepth 100000 in
set_option maxHeartbeats 400000 in
theorem rd_s {S : List Nat} {w : World} {rb : Nat} {bv : Value} {bs : List UInt8} {s : RdS} (h : Rd S w rb bv bs s) (nb : Nat) (h1 : 1 ≤ nb) (h2 : nb ≤ 64) :
    Calls Tryd.prog 14 #[.pointer (some ⟨rb, 0, none⟩), .int .i64 nb] w fun e w' => e = .returned (.int .i64 (rS bs nb s).1) ∧ Rd S w' rb bv bs (rS bs nb s).2 ∧ Fr [rb] w w' := by
  have hmf : ∀ (fn : Fn) (first cap : Array Value) (w : World), (Instr.makeFunc fn first cap).run Tryd.prog w = .ok (.func fn first cap) w := fun _ _ _ _ => rfl
  have hc : (w.alloc (.cells #[.int .i64 nb] 3)).cell? ⟨w.heap.size, 0, none⟩ = some (.int .i64 nb) := by simp
  have hH := h.alloc (.cells #[.int .i64 nb] 3)
  go_enter Tryd.func14, Tryd.ntmps14
  go_wp2_with (go_at_call 50; refine (item_s hH w.heap.size nb h1 h2 hc).mono ?_; rintro e w' ⟨rfl, hR1, hF1⟩)
  go_ret
  exact ⟨rfl, hR1, ((Fr.refl _ _).alloc _).trans hF1⟩

theorem rU_lt (bs : List UInt8) (nb : Nat) (s : RdS) : (rU bs nb s).1 < 18446744073709551616 := by
  unfold rU
  split
  · split
    · exact lebRead_lt _ _ _ _
    · simp
  · simp

set_option maxRecDepth 100000 in
set_option maxHeartbeats 800000 in
theorem rd_count {S : List Nat} {w : World} {rb : Nat} {bv : Value} {bs : List UInt8} {s : RdS} (h : Rd S w rb bv bs s) :
    Calls Tryd.prog 16 #[.pointer (some ⟨rb, 0, none⟩)] w fun e w' => e = .returned (.int .i64 ((rCount bs s).1 : Nat)) ∧ Rd S w' rb bv bs (rCount bs s).2 ∧ Fr [rb] w w' := by
  have ha0 := h.le
  have hlt := rU_lt bs 32 s
  by_cases hg : bs.length - (rU bs 32 s).2.at_ < (rU bs 32 s).1
  · have hp : rCount bs s = (0, (rU bs 32 s).2.refuse 10 s.at_) := by unfold rCount; rw [if_pos hg]
    rw [hp]
    clear hp
    go_enter Tryd.func16, Tryd.ntmps16
    go_wp2_with first | (go_at_call 22; refine (rd_at (by assumption)).mono ?_; rintro e w' ⟨rfl, rfl⟩) | (go_at_call 13; refine (rd_u h 32 (by decide) (by decide)).mono ?_; rintro e w1 ⟨rfl, hR1, hF1⟩) | fail
    have hd := hR1.drewN
    have hle1 := hR1.le
    have hsm := hR1.small
    have hg2 : ((bs.length : Int) - ((rU bs 32 s).2.at_ : Int) < ((rU bs 32 s).1 : Int)) := by omega
    go_wp2_with first | (go_at_call 23; refine (rd_left (by assumption)).mono ?_; rintro e w' ⟨rfl, nq, rfl⟩) | (go_at_call 55; refine (rd_refuse (hd _) _ _ ha0).mono ?_; rintro e w2 ⟨rfl, hR2, hF2⟩)
    go_ret
    exact ⟨rfl, hR2, (hF1.drewN _).trans hF2⟩
  · have hp : rCount bs s = rU bs 32 s := by unfold rCount; rw [if_neg hg]
    rw [hp]
    clear hp
    go_enter Tryd.func16, Tryd.ntmps16
    go_wp2_with first | (go_at_call 22; refine (rd_at (by assumption)).mono ?_; rintro e w' ⟨rfl, rfl⟩) | (go_at_call 13; refine (rd_u h 32 (by decide) (by decide)).mono ?_; rintro e w1 ⟨rfl, hR1, hF1⟩) | fail
    have hd := hR1.drewN
    have hle1 := hR1.le
    have hsm := hR1.small
    have hg2 : ¬ ((bs.length : Int) - ((rU bs 32 s).2.at_ : Int) < ((rU bs 32 s).1 : Int)) := by omega
    have hg3 : ((rU bs 32 s).1 : Int) ≤ 1099511627776 := by omega
    go_wp2_with (go_at_call 23; refine (rd_left (by assumption)).mono ?_; rintro e w' ⟨rfl, nq, rfl⟩)
    go_ret
    exact ⟨rfl, hd _, hF1.drewN _⟩

end Go.Proofs.YtokneepfknepaaaDoor
