/- The walks of layer 6, the twelfth part: recursive types. -/
import Derived.Test.YtokneepfknepaaaDoorRdWB
set_option linter.unusedSimpArgs false
set_option linter.unusedVariables false
namespace Go.Proofs.YtokneepfknepaaaDoor
open Go.RowKit

set_option maxRecDepth 100000 in
set_option maxHeartbeats 1600000 in
theorem rd_rec {S : List Nat} {w : World} {rb : Nat} {bv : Value} {bs : List UInt8} {s : RdS} (h : Rd S w rb bv bs s) :
    Calls Tryd.prog 21 #[.pointer (some ⟨rb, 0, none⟩)] w fun e w' => ∃ v cs, e = .returned v ∧ Sl S w' 6 v (rRec bs s).1.length cs ∧ SubsR S w' (rRec bs s).1 cs ∧ Rd S w' rb bv bs (rRec bs s).2 ∧ Fr [rb] w w' := by
  have hmf : ∀ (fn : Fn) (first cap : Array Value) (w : World), (Instr.makeFunc fn first cap).run Tryd.prog w = .ok (.func fn first cap) w := fun _ _ _ _ => rfl
  have hle := h.le
  have hsm := h.small
  have hrb := h.loc.lt
  have hcl := rPeek_lt bs s
  have hR := h
  by_cases q78 : rPeek bs s = 78
  · have hlt := (peek_pos (s := s) (bs := bs) (by omega)).2.1
    have g78 : (((rPeek bs s : Nat) : Int) == 78) = true := by simp; omega
    have hp : rRec bs s = rList bs (rSub bs) s.next := by unfold rRec; rw [if_pos q78]
    rw [hp]
    clear hp q78
    go_enter Tryd.func21, Tryd.ntmps21
    go_wp2_with first | ((go_at_call 46; refine (rd_peek hR).mono ?_; rintro e w' ⟨rfl, nq, rfl⟩); have hR0 := hR.drewN nq; have hC0 := hR0.loc.cell; have hG0 := hR0.loc.frz; have hT0 := hR0.loc.lt; simp only [rdCells] at hC0) | fail
    have hE := rd_next (hR.drewN nq) hlt
    go_wp2_with (go_at_call 62; refine (list_sub hE).mono ?_; rintro e w2 ⟨v2, cs2, rfl, hS2, hB2, hR2, hF2⟩)
    have f2 : Fr [rb] w w2 := Fr.trans (by repeat (first | (with_reducible exact Fr.refl _ _) | (with_reducible assumption) | (with_reducible apply Fr.alloc) | (with_reducible apply Fr.drew) | (with_reducible apply Fr.drewN) | (with_reducible refine Fr.setCell ?_ (by first | (left; simp; done) | (right; simp; done) | (right; simp; omega)) _))) hF2
    go_ret
    exact ⟨v2, cs2, rfl, hS2, hB2, hR2, f2⟩
  · have g78 : (((rPeek bs s : Nat) : Int) == 78) = false := by simp; omega
    have hp : rRec bs s = ((rSub bs s).2.told [] [(rSub bs s).1], (rSub bs s).2) := by unfold rRec; rw [if_neg q78]
    rw [hp]
    clear hp q78
    by_cases he : (rSub bs s).2.err = 0
    · go_enter Tryd.func21, Tryd.ntmps21
      go_wp2_with first | (go_at_call 46; refine (rd_peek hR).mono ?_; rintro e w' ⟨rfl, nq, rfl⟩) | ((go_at_call 63; refine (rd_sub (hR.drewN nq)).mono ?_; rintro e w2 ⟨h2, p2, r2, v2, rfl, hC2, hR2, hF2⟩; obtain ⟨ha, hc, rfl⟩ := hC2.1.shape; obtain ⟨pa, pc, rfl⟩ := hC2.2.1.shape; obtain ⟨ra, rc, rfl⟩ := hC2.2.2.1.shape; obtain ⟨fa, fc, rfl⟩ := hC2.2.2.2.shape); have hR2o := fun o => hR2.alloc o) | (go_at_call 64; refine (told_subs (hR2o _) _).mono ?_; rintro e w' ⟨e1, rfl⟩; rw [if_pos he] at e1; subst e1)
      have f2 : Fr [rb] w w2 := Fr.trans (by repeat (first | (with_reducible exact Fr.refl _ _) | (with_reducible assumption) | (with_reducible apply Fr.alloc) | (with_reducible apply Fr.drew) | (with_reducible apply Fr.drewN) | (with_reducible refine Fr.setCell ?_ (by first | (left; simp; done) | (right; simp; done) | (right; simp; omega)) _))) hF2
      go_ret
      simp only [RdS.told, if_pos he]
      refine ⟨_, _, rfl, sl_made (e := 60) (cs := [.bool (rSub bs s).1.final_, .slice ha (rSub bs s).1.supers.length hc, .int .i64 (rSub bs s).1.comp.kind, .slice pa (rSub bs s).1.comp.params.length pc, .slice ra (rSub bs s).1.comp.results.length rc, .slice fa (rSub bs s).1.comp.fields.length fc]) w2.heap.size rfl rfl ?_ hR2.lt, ⟨_, _, _, _, [], rfl, hC2.fr ((Fr.refl [] _).alloc _) (by simp), rfl⟩, hR2.alloc _, f2.alloc _⟩
      intro u hu; simp at hu; rcases hu with rfl | rfl | rfl | rfl | rfl | rfl <;> rfl
    · go_enter Tryd.func21, Tryd.ntmps21
      go_wp2_with first | (go_at_call 46; refine (rd_peek hR).mono ?_; rintro e w' ⟨rfl, nq, rfl⟩) | ((go_at_call 63; refine (rd_sub (hR.drewN nq)).mono ?_; rintro e w2 ⟨h2, p2, r2, v2, rfl, hC2, hR2, hF2⟩; obtain ⟨ha, hc, rfl⟩ := hC2.1.shape; obtain ⟨pa, pc, rfl⟩ := hC2.2.1.shape; obtain ⟨ra, rc, rfl⟩ := hC2.2.2.1.shape; obtain ⟨fa, fc, rfl⟩ := hC2.2.2.2.shape); have hR2o := fun o => hR2.alloc o) | (go_at_call 64; refine (told_subs (hR2o _) _).mono ?_; rintro e w' ⟨e1, rfl⟩; rw [if_neg he] at e1; subst e1)
      have f2 : Fr [rb] w w2 := Fr.trans (by repeat (first | (with_reducible exact Fr.refl _ _) | (with_reducible assumption) | (with_reducible apply Fr.alloc) | (with_reducible apply Fr.drew) | (with_reducible apply Fr.drewN) | (with_reducible refine Fr.setCell ?_ (by first | (left; simp; done) | (right; simp; done) | (right; simp; omega)) _))) hF2
      go_ret
      simp only [RdS.told, if_neg he]
      exact ⟨_, _, rfl, Sl.nil _ _ _, rfl, hR2.alloc _, f2.alloc _⟩

end Go.Proofs.YtokneepfknepaaaDoor
