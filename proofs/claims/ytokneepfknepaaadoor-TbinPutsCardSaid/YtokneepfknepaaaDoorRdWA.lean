/- The walks of layer 6, the tenth part: sub types. -/
import Derived.Test.YtokneepfknepaaaDoorRdW9
set_option linter.unusedSimpArgs false
set_option linter.unusedVariables false
namespace Go.Proofs.YtokneepfknepaaaDoor
open Go.RowKit

theorem und_sub : Tryd.prog.underlying 60 = some ((Tryd.prog.underlying 60).get (by kernel_rfl)) := by kernel_rfl
theorem size_sub : (Tryd.prog.info? 60).map (·.size) = some 6 := by kernel_rfl

set_option maxRecDepth 100000 in
set_option maxHeartbeats 400000 in
theorem told_sub_ok {S : List Nat} {w : World} {rb : Nat} {bv : Value} {bs : List UInt8} {s : RdS} (h : Rd S w rb bv bs s) (he : s.err = 0) (fb : Bool) (k : Int) (a1 : Option Addr) (n1 c1 : Nat) (a2 : Option Addr) (n2 c2 : Nat) (a3 : Option Addr) (n3 c3 : Nat) (a4 : Option Addr) (n4 c4 : Nat) :
    Calls Tryd.prog 103 #[.pointer (some ⟨rb, 0, none⟩), .agg #[.bool fb, .slice a1 n1 c1, .int .i64 k, .slice a2 n2 c2, .slice a3 n3 c3, .slice a4 n4 c4]] w fun e w' =>
      e = .returned (.agg #[.bool fb, .slice a1 n1 c1, .int .i64 k, .slice a2 n2 c2, .slice a3 n3 c3, .slice a4 n4 c4]) ∧ Fr [] w w' := by
  have hR := fun o1 o2 => (h.alloc o1).alloc o2
  have g1 : (s.err == 0) = true := by simp [he]
  clear he
  go_enter Tryd.func103, Tryd.ntmps103
  go_wp2_with (go_at_call 45; refine (rd_reads (hR _ _)).mono ?_; rintro e w' ⟨rfl, rfl⟩)
  refine bodyPost_ret (v := .agg #[.bool fb, .slice a1 n1 c1, .int .i64 k, .slice a2 n2 c2, .slice a3 n3 c3, .slice a4 n4 c4]) (by simp [results, Tryd.results103, go_sem]) rfl ⟨rfl, ?_⟩
  repeat (first | (with_reducible exact Fr.refl _ _) | (with_reducible assumption) | (with_reducible apply Fr.alloc) | (with_reducible apply Fr.drew) | (with_reducible apply Fr.drewN) | (with_reducible refine Fr.setCell ?_ (by first | (left; simp; done) | (right; simp; done) | (right; simp; omega)) _))

set_option maxRecDepth 100000 in
set_option maxHeartbeats 400000 in
theorem told_sub_no {S : List Nat} {w : World} {rb : Nat} {bv : Value} {bs : List UInt8} {s : RdS} (h : Rd S w rb bv bs s) (he : s.err ≠ 0) (fb : Bool) (k : Int) (a1 : Option Addr) (n1 c1 : Nat) (a2 : Option Addr) (n2 c2 : Nat) (a3 : Option Addr) (n3 c3 : Nat) (a4 : Option Addr) (n4 c4 : Nat) :
    Calls Tryd.prog 103 #[.pointer (some ⟨rb, 0, none⟩), .agg #[.bool fb, .slice a1 n1 c1, .int .i64 k, .slice a2 n2 c2, .slice a3 n3 c3, .slice a4 n4 c4]] w fun e w' =>
      e = .returned (.agg #[.bool false, .slice none 0 0, .int .i64 0, .slice none 0 0, .slice none 0 0, .slice none 0 0]) ∧ Fr [] w w' := by
  have hR := fun o1 o2 => (h.alloc o1).alloc o2
  have g1 : (s.err == 0) = false := by simp [he]
  clear he
  go_enter Tryd.func103, Tryd.ntmps103
  go_wp2_with (go_at_call 45; refine (rd_reads (hR _ _)).mono ?_; rintro e w' ⟨rfl, rfl⟩)
  refine bodyPost_ret (v := .agg #[.bool false, .slice none 0 0, .int .i64 0, .slice none 0 0, .slice none 0 0, .slice none 0 0]) (by simp [results, Tryd.results103, go_sem]) rfl ⟨rfl, ?_⟩
  repeat (first | (with_reducible exact Fr.refl _ _) | (with_reducible assumption) | (with_reducible apply Fr.alloc) | (with_reducible apply Fr.drew) | (with_reducible apply Fr.drewN) | (with_reducible refine Fr.setCell ?_ (by first | (left; simp; done) | (right; simp; done) | (right; simp; omega)) _))

theorem Sl.out2 {S : List Nat} {w w' : World} {rb l1 l2 k n : Nat} {v : Value} {cs : List Value} (h : Sl (l1 :: l2 :: S) w k v n cs) (hf : Fr [rb, l1, l2] w w') (hm : rb ∈ S) : Sl S w' k v n cs :=
  (h.fr hf (by intro b _ hb; simp at hb; rcases hb with rfl | rfl | rfl <;> simp [hm])).sub fun b _ hb => List.mem_cons_of_mem _ (List.mem_cons_of_mem _ hb)
theorem CompR.out2 {S : List Nat} {w w' : World} {rb l1 l2 : Nat} {c : CompT} {pv rv fv : Value} (h : CompR (l1 :: l2 :: S) w c pv rv fv) (hf : Fr [rb, l1, l2] w w') (hm : rb ∈ S) : CompR S w' c pv rv fv :=
  ⟨h.1.out2 hf hm, h.2.1.out2 hf hm, h.2.2.out2 hf hm⟩
theorem SubR.zero (S : List Nat) (w : World) : SubR S w SubT.zero (.slice none 0 0) (.slice none 0 0) (.slice none 0 0) (.slice none 0 0) := ⟨Sl.nil _ _ _, Sl.nil _ _ _, Sl.nil _ _ _, Sl.nil _ _ _⟩

set_option maxRecDepth 100000 in
set_option maxHeartbeats 3200000 in
theorem rd_sub {S : List Nat} {w : World} {rb : Nat} {bv : Value} {bs : List UInt8} {s : RdS} (h : Rd S w rb bv bs s) :
    Calls Tryd.prog 63 #[.pointer (some ⟨rb, 0, none⟩)] w fun e w' => ∃ hv pv rv fv, e = .returned (.agg #[.bool (rSub bs s).1.final_, hv, .int .i64 (rSub bs s).1.comp.kind, pv, rv, fv]) ∧ SubR S w' (rSub bs s).1 hv pv rv fv ∧ Rd S w' rb bv bs (rSub bs s).2 ∧ Fr [rb] w w' := by
  have hmf : ∀ (fn : Fn) (first cap : Array Value) (w : World), (Instr.makeFunc fn first cap).run Tryd.prog w = .ok (.func fn first cap) w := fun _ _ _ _ => rfl
  have hle := h.le
  have hsm := h.small
  have hrb := h.loc.lt
  have hcl := rPeek_lt bs s
  have hR := (h.loc1 (.cells #[.bool false, .slice none 0 0, .int .i64 0, .slice none 0 0, .slice none 0 0, .slice none 0 0] 60)).loc1 (.cells #[.bool true, .slice none 0 0, .int .i64 0, .slice none 0 0, .slice none 0 0, .slice none 0 0] 60)
  rw [World.size_alloc] at hR
  have hA : Loc ((w.alloc (.cells #[.bool false, .slice none 0 0, .int .i64 0, .slice none 0 0, .slice none 0 0, .slice none 0 0] 60)).alloc (.cells #[.bool true, .slice none 0 0, .int .i64 0, .slice none 0 0, .slice none 0 0, .slice none 0 0] 60)) w.heap.size [.bool false, .slice none 0 0, .int .i64 0, .slice none 0 0, .slice none 0 0, .slice none 0 0] 60 := (Loc.new _ _ _).alloc _
  have hB : Loc ((w.alloc (.cells #[.bool false, .slice none 0 0, .int .i64 0, .slice none 0 0, .slice none 0 0, .slice none 0 0] 60)).alloc (.cells #[.bool true, .slice none 0 0, .int .i64 0, .slice none 0 0, .slice none 0 0, .slice none 0 0] 60)) (w.heap.size + 1) [.bool true, .slice none 0 0, .int .i64 0, .slice none 0 0, .slice none 0 0, .slice none 0 0] 60 := by
    have h1 := Loc.new (w.alloc (.cells #[.bool false, .slice none 0 0, .int .i64 0, .slice none 0 0, .slice none 0 0, .slice none 0 0] 60)) [.bool true, .slice none 0 0, .int .i64 0, .slice none 0 0, .slice none 0 0, .slice none 0 0] 60
    rw [World.size_alloc] at h1
    exact h1
  have f0 : Fr [rb] w ((w.alloc (.cells #[.bool false, .slice none 0 0, .int .i64 0, .slice none 0 0, .slice none 0 0, .slice none 0 0] 60)).alloc (.cells #[.bool true, .slice none 0 0, .int .i64 0, .slice none 0 0, .slice none 0 0, .slice none 0 0] 60)) := ((Fr.refl _ _).alloc _).alloc _
  by_cases q80 : rPeek bs s = 80
  · skip
    have g80 : (((rPeek bs s : Nat) : Int) == 80) = true := by simp; omega
    have g79 : (((rPeek bs s : Nat) : Int) == 79) = false := by simp; omega
    have hq : (rPeek bs s == 79) = false := by simp; omega
    have hh : rHead bs s = ((false, (rList bs (rSuper bs) s.next).1), (rList bs (rSuper bs) s.next).2) := by unfold rHead; rw [if_pos (by omega), hq]
    have hlt := (peek_pos (s := s) (bs := bs) (by omega)).2.1
    by_cases he : (rComp bs (rList bs (rSuper bs) s.next).2).2.err = 0
    · have hs : rSub bs s = (⟨false, (rList bs (rSuper bs) s.next).1, (rComp bs (rList bs (rSuper bs) s.next).2).1⟩, (rComp bs (rList bs (rSuper bs) s.next).2).2) := by unfold rSub; rw [hh]; simp only [RdS.told, if_pos he]
      rw [hs]
      clear hh hs hq
      go_enter Tryd.func63, Tryd.ntmps63
      go_wp2_with first | ((go_at_call 46; refine (rd_peek hR).mono ?_; rintro e w' ⟨rfl, nq, rfl⟩); have hR0 := hR.drewN nq; have hB0 := hB.drewN nq; have hC0 := hR0.loc.cell; have hG0 := hR0.loc.frz; have hT0 := hR0.loc.lt; simp only [rdCells] at hC0; have hLC0 := hB0.cell; have hLF0 := hB0.frz; have hLT0 := hB0.lt) | fail
      have hE := rd_next (hR.drewN nq) hlt
      have hRX := fun v0 => (hE.setLoc (lb := w.heap.size + 1) (by simp) (by omega) 0 v0)
      have hBX := fun v0 => (((hB.drewN nq).set' (p := ⟨rb, 0, none⟩) (by simp; omega) (.int .i64 ((s.at_ : Int) + 1))).set 0 v0)
      have hAX := fun v0 => (((hA.drewN nq).set' (p := ⟨rb, 0, none⟩) (by simp; omega) (.int .i64 ((s.at_ : Int) + 1))).set' (p := ⟨w.heap.size + 1, 0, none⟩) (by simp) v0)
      go_wp2_with first | ((go_at_call 100; refine (list_heap (hRX _)).mono ?_; rintro e w2 ⟨v2, rfl, hS2, hR2, hF2⟩; obtain ⟨a2, c2, rfl⟩ := hS2.shape); have hB2 := (hBX _).fr hF2 (by simp; omega); have hA2 := (hAX _).fr hF2 (by simp; omega); have hLC2 := hB2.cell; have hLF2 := hB2.frz; have hLT2 := hB2.lt) | fail
      have f2 : Fr [rb] w w2 := Fr.trans (by repeat (first | (with_reducible exact Fr.refl _ _) | (with_reducible assumption) | (with_reducible apply Fr.alloc) | (with_reducible apply Fr.drew) | (with_reducible apply Fr.drewN) | (with_reducible refine Fr.setCell ?_ (by first | (left; simp; done) | (right; simp; done) | (right; simp; omega)) _))) hF2
      have hR2X := fun v1 => (hR2.setLoc (lb := w.heap.size + 1) (by simp) (by omega) 1 v1)
      have hB2X := fun v1 => (hB2.set 1 v1)
      have hA2X := fun v1 => (hA2.set' (p := ⟨w.heap.size + 1, 1, none⟩) (by simp) v1)
      go_wp2_with first | ((go_at_call 102; refine (rd_comp (hR2X _)).mono ?_; rintro e w3 ⟨p3, r3, v3, rfl, hC3, hR3, hF3⟩; obtain ⟨pa, pc, rfl⟩ := hC3.1.shape; obtain ⟨ra, rc, rfl⟩ := hC3.2.1.shape; obtain ⟨fa, fc, rfl⟩ := hC3.2.2.shape); have hB3 := (hB2X _).fr hF3 (by simp; omega); have hA3 := (hA2X _).fr hF3 (by simp; omega); have hLC3 := hB3.cell; have hLF3 := hB3.frz; have hLT3 := hB3.lt) | fail
      have f3 : Fr [rb] w w3 := Fr.trans (by repeat (first | (with_reducible exact Fr.refl _ _) | (with_reducible assumption) | (with_reducible apply Fr.alloc) | (with_reducible apply Fr.drew) | (with_reducible apply Fr.drewN) | (with_reducible refine Fr.setCell ?_ (by first | (left; simp; done) | (right; simp; done) | (right; simp; omega)) _))) hF3
      have hR3X := fun v2 v3 v4 v5 => ((((hR3.setLoc (lb := w.heap.size + 1) (by simp) (by omega) 2 v2).setLoc (lb := w.heap.size + 1) (by simp) (by omega) 3 v3).setLoc (lb := w.heap.size + 1) (by simp) (by omega) 4 v4).setLoc (lb := w.heap.size + 1) (by simp) (by omega) 5 v5)
      have hB3X := fun v2 v3 v4 v5 => ((((hB3.set 2 v2).set 3 v3).set 4 v4).set 5 v5)
      have hA3X := fun v2 v3 v4 v5 => ((((hA3.set' (p := ⟨w.heap.size + 1, 2, none⟩) (by simp) v2).set' (p := ⟨w.heap.size + 1, 3, none⟩) (by simp) v3).set' (p := ⟨w.heap.size + 1, 4, none⟩) (by simp) v4).set' (p := ⟨w.heap.size + 1, 5, none⟩) (by simp) v5)
      go_wp2_with ((go_at_call 103; refine (told_sub_ok (hR3X _ _ _ _) he _ _ _ _ _ _ _ _ _ _ _ _ _ _).mono ?_; rintro e w4 ⟨rfl, hF4⟩); have hA4 := (hA3X _ _ _ _).fr hF4 (by simp); have hR4 := (hR3X _ _ _ _).fr hF4 (by simp) (by simp); have hLC4 := hA4.cell; have hLF4 := hA4.frz; have hLT4 := hA4.lt)
      have f4 : Fr [rb] w w4 := Fr.trans (by repeat (first | (with_reducible exact Fr.refl _ _) | (with_reducible assumption) | (with_reducible apply Fr.alloc) | (with_reducible apply Fr.drew) | (with_reducible apply Fr.drewN) | (with_reducible refine Fr.setCell ?_ (by first | (left; simp; done) | (right; simp; done) | (right; simp; omega)) _))) (hF4.mono (by simp))
      have k3 : Fr [rb, w.heap.size + 1, w.heap.size] w2 w3 := Fr.trans (by repeat (first | (with_reducible exact Fr.refl _ _) | (with_reducible assumption) | (with_reducible apply Fr.alloc) | (with_reducible apply Fr.drew) | (with_reducible apply Fr.drewN) | (with_reducible refine Fr.setCell ?_ (by first | (left; simp; done) | (right; simp; done) | (right; simp; omega)) _))) (hF3.mono (by simp))
      have k4 : Fr [rb, w.heap.size + 1, w.heap.size] w2 w4 := Fr.trans (by repeat (first | (with_reducible exact Fr.refl _ _) | (with_reducible assumption) | (with_reducible apply Fr.alloc) | (with_reducible apply Fr.drew) | (with_reducible apply Fr.drewN) | (with_reducible refine Fr.setCell ?_ (by first | (left; simp; done) | (right; simp; done) | (right; simp; omega)) _))) (hF4.mono (by simp))
      have j4 : Fr [rb, w.heap.size + 1, w.heap.size] w3 w4 := Fr.trans (by repeat (first | (with_reducible exact Fr.refl _ _) | (with_reducible assumption) | (with_reducible apply Fr.alloc) | (with_reducible apply Fr.drew) | (with_reducible apply Fr.drewN) | (with_reducible refine Fr.setCell ?_ (by first | (left; simp; done) | (right; simp; done) | (right; simp; omega)) _))) (hF4.mono (by simp))
      refine ret_cell rfl rfl ((((((hA4.set 0 _).set 1 _).set 2 _).set 3 _).set 4 _).set 5 _) und_sub rfl size_sub rfl ⟨_, _, _, _, rfl, ⟨?_, ?_⟩, ?_, ?_⟩
      · exact hS2.out2 (by repeat (first | (with_reducible exact Fr.refl _ _) | (with_reducible assumption) | (with_reducible apply Fr.alloc) | (with_reducible apply Fr.drew) | (with_reducible apply Fr.drewN) | (with_reducible refine Fr.setCell ?_ (by first | (left; simp; done) | (right; simp; done) | (right; simp; omega)) _))) h.mem
      · exact hC3.out2 (by repeat (first | (with_reducible exact Fr.refl _ _) | (with_reducible assumption) | (with_reducible apply Fr.alloc) | (with_reducible apply Fr.drew) | (with_reducible apply Fr.drewN) | (with_reducible refine Fr.setCell ?_ (by first | (left; simp; done) | (right; simp; done) | (right; simp; omega)) _))) h.mem
      · refine Rd.un1 (lb := w.heap.size) (Rd.un1 (lb := w.heap.size + 1) ?_ (by simp; exact .inr h.mem)) h.mem
        repeat (first | (with_reducible assumption) | (with_reducible refine Rd.setLoc ?_ (by simp) (by omega) _ _) | (with_reducible apply Rd.alloc) | (with_reducible apply Rd.drewN))
      · repeat (first | (with_reducible exact Fr.refl _ _) | (with_reducible assumption) | (with_reducible apply Fr.alloc) | (with_reducible apply Fr.drew) | (with_reducible apply Fr.drewN) | (with_reducible refine Fr.setCell ?_ (by first | (left; simp; done) | (right; simp; done) | (right; simp; omega)) _))
    · have hs : rSub bs s = (SubT.zero, (rComp bs (rList bs (rSuper bs) s.next).2).2) := by unfold rSub; rw [hh]; simp only [RdS.told, if_neg he]
      rw [hs]
      clear hh hs hq
      go_enter Tryd.func63, Tryd.ntmps63
      go_wp2_with first | ((go_at_call 46; refine (rd_peek hR).mono ?_; rintro e w' ⟨rfl, nq, rfl⟩); have hR0 := hR.drewN nq; have hB0 := hB.drewN nq; have hC0 := hR0.loc.cell; have hG0 := hR0.loc.frz; have hT0 := hR0.loc.lt; simp only [rdCells] at hC0; have hLC0 := hB0.cell; have hLF0 := hB0.frz; have hLT0 := hB0.lt) | fail
      have hE := rd_next (hR.drewN nq) hlt
      have hRX := fun v0 => (hE.setLoc (lb := w.heap.size + 1) (by simp) (by omega) 0 v0)
      have hBX := fun v0 => (((hB.drewN nq).set' (p := ⟨rb, 0, none⟩) (by simp; omega) (.int .i64 ((s.at_ : Int) + 1))).set 0 v0)
      have hAX := fun v0 => (((hA.drewN nq).set' (p := ⟨rb, 0, none⟩) (by simp; omega) (.int .i64 ((s.at_ : Int) + 1))).set' (p := ⟨w.heap.size + 1, 0, none⟩) (by simp) v0)
      go_wp2_with first | ((go_at_call 100; refine (list_heap (hRX _)).mono ?_; rintro e w2 ⟨v2, rfl, hS2, hR2, hF2⟩; obtain ⟨a2, c2, rfl⟩ := hS2.shape); have hB2 := (hBX _).fr hF2 (by simp; omega); have hA2 := (hAX _).fr hF2 (by simp; omega); have hLC2 := hB2.cell; have hLF2 := hB2.frz; have hLT2 := hB2.lt) | fail
      have f2 : Fr [rb] w w2 := Fr.trans (by repeat (first | (with_reducible exact Fr.refl _ _) | (with_reducible assumption) | (with_reducible apply Fr.alloc) | (with_reducible apply Fr.drew) | (with_reducible apply Fr.drewN) | (with_reducible refine Fr.setCell ?_ (by first | (left; simp; done) | (right; simp; done) | (right; simp; omega)) _))) hF2
      have hR2X := fun v1 => (hR2.setLoc (lb := w.heap.size + 1) (by simp) (by omega) 1 v1)
      have hB2X := fun v1 => (hB2.set 1 v1)
      have hA2X := fun v1 => (hA2.set' (p := ⟨w.heap.size + 1, 1, none⟩) (by simp) v1)
      go_wp2_with first | ((go_at_call 102; refine (rd_comp (hR2X _)).mono ?_; rintro e w3 ⟨p3, r3, v3, rfl, hC3, hR3, hF3⟩; obtain ⟨pa, pc, rfl⟩ := hC3.1.shape; obtain ⟨ra, rc, rfl⟩ := hC3.2.1.shape; obtain ⟨fa, fc, rfl⟩ := hC3.2.2.shape); have hB3 := (hB2X _).fr hF3 (by simp; omega); have hA3 := (hA2X _).fr hF3 (by simp; omega); have hLC3 := hB3.cell; have hLF3 := hB3.frz; have hLT3 := hB3.lt) | fail
      have f3 : Fr [rb] w w3 := Fr.trans (by repeat (first | (with_reducible exact Fr.refl _ _) | (with_reducible assumption) | (with_reducible apply Fr.alloc) | (with_reducible apply Fr.drew) | (with_reducible apply Fr.drewN) | (with_reducible refine Fr.setCell ?_ (by first | (left; simp; done) | (right; simp; done) | (right; simp; omega)) _))) hF3
      have hR3X := fun v2 v3 v4 v5 => ((((hR3.setLoc (lb := w.heap.size + 1) (by simp) (by omega) 2 v2).setLoc (lb := w.heap.size + 1) (by simp) (by omega) 3 v3).setLoc (lb := w.heap.size + 1) (by simp) (by omega) 4 v4).setLoc (lb := w.heap.size + 1) (by simp) (by omega) 5 v5)
      have hB3X := fun v2 v3 v4 v5 => ((((hB3.set 2 v2).set 3 v3).set 4 v4).set 5 v5)
      have hA3X := fun v2 v3 v4 v5 => ((((hA3.set' (p := ⟨w.heap.size + 1, 2, none⟩) (by simp) v2).set' (p := ⟨w.heap.size + 1, 3, none⟩) (by simp) v3).set' (p := ⟨w.heap.size + 1, 4, none⟩) (by simp) v4).set' (p := ⟨w.heap.size + 1, 5, none⟩) (by simp) v5)
      go_wp2_with ((go_at_call 103; refine (told_sub_no (hR3X _ _ _ _) he _ _ _ _ _ _ _ _ _ _ _ _ _ _).mono ?_; rintro e w4 ⟨rfl, hF4⟩); have hA4 := (hA3X _ _ _ _).fr hF4 (by simp); have hR4 := (hR3X _ _ _ _).fr hF4 (by simp) (by simp); have hLC4 := hA4.cell; have hLF4 := hA4.frz; have hLT4 := hA4.lt)
      have f4 : Fr [rb] w w4 := Fr.trans (by repeat (first | (with_reducible exact Fr.refl _ _) | (with_reducible assumption) | (with_reducible apply Fr.alloc) | (with_reducible apply Fr.drew) | (with_reducible apply Fr.drewN) | (with_reducible refine Fr.setCell ?_ (by first | (left; simp; done) | (right; simp; done) | (right; simp; omega)) _))) (hF4.mono (by simp))
      refine ret_cell rfl rfl ((((((hA4.set 0 _).set 1 _).set 2 _).set 3 _).set 4 _).set 5 _) und_sub rfl size_sub rfl ⟨_, _, _, _, rfl, SubR.zero _ _, ?_, ?_⟩
      · refine Rd.un1 (lb := w.heap.size) (Rd.un1 (lb := w.heap.size + 1) ?_ (by simp; exact .inr h.mem)) h.mem
        repeat (first | (with_reducible assumption) | (with_reducible refine Rd.setLoc ?_ (by simp) (by omega) _ _) | (with_reducible apply Rd.alloc) | (with_reducible apply Rd.drewN))
      · repeat (first | (with_reducible exact Fr.refl _ _) | (with_reducible assumption) | (with_reducible apply Fr.alloc) | (with_reducible apply Fr.drew) | (with_reducible apply Fr.drewN) | (with_reducible refine Fr.setCell ?_ (by first | (left; simp; done) | (right; simp; done) | (right; simp; omega)) _))
  · by_cases q79 : rPeek bs s = 79
    · skip
      have g80 : (((rPeek bs s : Nat) : Int) == 80) = false := by simp; omega
      have g79 : (((rPeek bs s : Nat) : Int) == 79) = true := by simp; omega
      have hq : (rPeek bs s == 79) = true := by simp; omega
      have hh : rHead bs s = ((true, (rList bs (rSuper bs) s.next).1), (rList bs (rSuper bs) s.next).2) := by unfold rHead; rw [if_pos (by omega), hq]
      have hlt := (peek_pos (s := s) (bs := bs) (by omega)).2.1
      by_cases he : (rComp bs (rList bs (rSuper bs) s.next).2).2.err = 0
      · have hs : rSub bs s = (⟨true, (rList bs (rSuper bs) s.next).1, (rComp bs (rList bs (rSuper bs) s.next).2).1⟩, (rComp bs (rList bs (rSuper bs) s.next).2).2) := by unfold rSub; rw [hh]; simp only [RdS.told, if_pos he]
        rw [hs]
        clear hh hs hq
        go_enter Tryd.func63, Tryd.ntmps63
        go_wp2_with first | ((go_at_call 46; refine (rd_peek hR).mono ?_; rintro e w' ⟨rfl, nq, rfl⟩); have hR0 := hR.drewN nq; have hB0 := hB.drewN nq; have hC0 := hR0.loc.cell; have hG0 := hR0.loc.frz; have hT0 := hR0.loc.lt; simp only [rdCells] at hC0; have hLC0 := hB0.cell; have hLF0 := hB0.frz; have hLT0 := hB0.lt) | fail
        have hE := rd_next (hR.drewN nq) hlt
        have hRX := fun v0 => (hE.setLoc (lb := w.heap.size + 1) (by simp) (by omega) 0 v0)
        have hBX := fun v0 => (((hB.drewN nq).set' (p := ⟨rb, 0, none⟩) (by simp; omega) (.int .i64 ((s.at_ : Int) + 1))).set 0 v0)
        have hAX := fun v0 => (((hA.drewN nq).set' (p := ⟨rb, 0, none⟩) (by simp; omega) (.int .i64 ((s.at_ : Int) + 1))).set' (p := ⟨w.heap.size + 1, 0, none⟩) (by simp) v0)
        go_wp2_with first | ((go_at_call 100; refine (list_heap (hRX _)).mono ?_; rintro e w2 ⟨v2, rfl, hS2, hR2, hF2⟩; obtain ⟨a2, c2, rfl⟩ := hS2.shape); have hB2 := (hBX _).fr hF2 (by simp; omega); have hA2 := (hAX _).fr hF2 (by simp; omega); have hLC2 := hB2.cell; have hLF2 := hB2.frz; have hLT2 := hB2.lt) | fail
        have f2 : Fr [rb] w w2 := Fr.trans (by repeat (first | (with_reducible exact Fr.refl _ _) | (with_reducible assumption) | (with_reducible apply Fr.alloc) | (with_reducible apply Fr.drew) | (with_reducible apply Fr.drewN) | (with_reducible refine Fr.setCell ?_ (by first | (left; simp; done) | (right; simp; done) | (right; simp; omega)) _))) hF2
        have hR2X := fun v1 => (hR2.setLoc (lb := w.heap.size + 1) (by simp) (by omega) 1 v1)
        have hB2X := fun v1 => (hB2.set 1 v1)
        have hA2X := fun v1 => (hA2.set' (p := ⟨w.heap.size + 1, 1, none⟩) (by simp) v1)
        go_wp2_with first | ((go_at_call 102; refine (rd_comp (hR2X _)).mono ?_; rintro e w3 ⟨p3, r3, v3, rfl, hC3, hR3, hF3⟩; obtain ⟨pa, pc, rfl⟩ := hC3.1.shape; obtain ⟨ra, rc, rfl⟩ := hC3.2.1.shape; obtain ⟨fa, fc, rfl⟩ := hC3.2.2.shape); have hB3 := (hB2X _).fr hF3 (by simp; omega); have hA3 := (hA2X _).fr hF3 (by simp; omega); have hLC3 := hB3.cell; have hLF3 := hB3.frz; have hLT3 := hB3.lt) | fail
        have f3 : Fr [rb] w w3 := Fr.trans (by repeat (first | (with_reducible exact Fr.refl _ _) | (with_reducible assumption) | (with_reducible apply Fr.alloc) | (with_reducible apply Fr.drew) | (with_reducible apply Fr.drewN) | (with_reducible refine Fr.setCell ?_ (by first | (left; simp; done) | (right; simp; done) | (right; simp; omega)) _))) hF3
        have hR3X := fun v2 v3 v4 v5 => ((((hR3.setLoc (lb := w.heap.size + 1) (by simp) (by omega) 2 v2).setLoc (lb := w.heap.size + 1) (by simp) (by omega) 3 v3).setLoc (lb := w.heap.size + 1) (by simp) (by omega) 4 v4).setLoc (lb := w.heap.size + 1) (by simp) (by omega) 5 v5)
        have hB3X := fun v2 v3 v4 v5 => ((((hB3.set 2 v2).set 3 v3).set 4 v4).set 5 v5)
        have hA3X := fun v2 v3 v4 v5 => ((((hA3.set' (p := ⟨w.heap.size + 1, 2, none⟩) (by simp) v2).set' (p := ⟨w.heap.size + 1, 3, none⟩) (by simp) v3).set' (p := ⟨w.heap.size + 1, 4, none⟩) (by simp) v4).set' (p := ⟨w.heap.size + 1, 5, none⟩) (by simp) v5)
        go_wp2_with ((go_at_call 103; refine (told_sub_ok (hR3X _ _ _ _) he _ _ _ _ _ _ _ _ _ _ _ _ _ _).mono ?_; rintro e w4 ⟨rfl, hF4⟩); have hA4 := (hA3X _ _ _ _).fr hF4 (by simp); have hR4 := (hR3X _ _ _ _).fr hF4 (by simp) (by simp); have hLC4 := hA4.cell; have hLF4 := hA4.frz; have hLT4 := hA4.lt)
        have f4 : Fr [rb] w w4 := Fr.trans (by repeat (first | (with_reducible exact Fr.refl _ _) | (with_reducible assumption) | (with_reducible apply Fr.alloc) | (with_reducible apply Fr.drew) | (with_reducible apply Fr.drewN) | (with_reducible refine Fr.setCell ?_ (by first | (left; simp; done) | (right; simp; done) | (right; simp; omega)) _))) (hF4.mono (by simp))
        have k3 : Fr [rb, w.heap.size + 1, w.heap.size] w2 w3 := Fr.trans (by repeat (first | (with_reducible exact Fr.refl _ _) | (with_reducible assumption) | (with_reducible apply Fr.alloc) | (with_reducible apply Fr.drew) | (with_reducible apply Fr.drewN) | (with_reducible refine Fr.setCell ?_ (by first | (left; simp; done) | (right; simp; done) | (right; simp; omega)) _))) (hF3.mono (by simp))
        have k4 : Fr [rb, w.heap.size + 1, w.heap.size] w2 w4 := Fr.trans (by repeat (first | (with_reducible exact Fr.refl _ _) | (with_reducible assumption) | (with_reducible apply Fr.alloc) | (with_reducible apply Fr.drew) | (with_reducible apply Fr.drewN) | (with_reducible refine Fr.setCell ?_ (by first | (left; simp; done) | (right; simp; done) | (right; simp; omega)) _))) (hF4.mono (by simp))
        have j4 : Fr [rb, w.heap.size + 1, w.heap.size] w3 w4 := Fr.trans (by repeat (first | (with_reducible exact Fr.refl _ _) | (with_reducible assumption) | (with_reducible apply Fr.alloc) | (with_reducible apply Fr.drew) | (with_reducible apply Fr.drewN) | (with_reducible refine Fr.setCell ?_ (by first | (left; simp; done) | (right; simp; done) | (right; simp; omega)) _))) (hF4.mono (by simp))
        refine ret_cell rfl rfl ((((((hA4.set 0 _).set 1 _).set 2 _).set 3 _).set 4 _).set 5 _) und_sub rfl size_sub rfl ⟨_, _, _, _, rfl, ⟨?_, ?_⟩, ?_, ?_⟩
        · exact hS2.out2 (by repeat (first | (with_reducible exact Fr.refl _ _) | (with_reducible assumption) | (with_reducible apply Fr.alloc) | (with_reducible apply Fr.drew) | (with_reducible apply Fr.drewN) | (with_reducible refine Fr.setCell ?_ (by first | (left; simp; done) | (right; simp; done) | (right; simp; omega)) _))) h.mem
        · exact hC3.out2 (by repeat (first | (with_reducible exact Fr.refl _ _) | (with_reducible assumption) | (with_reducible apply Fr.alloc) | (with_reducible apply Fr.drew) | (with_reducible apply Fr.drewN) | (with_reducible refine Fr.setCell ?_ (by first | (left; simp; done) | (right; simp; done) | (right; simp; omega)) _))) h.mem
        · refine Rd.un1 (lb := w.heap.size) (Rd.un1 (lb := w.heap.size + 1) ?_ (by simp; exact .inr h.mem)) h.mem
          repeat (first | (with_reducible assumption) | (with_reducible refine Rd.setLoc ?_ (by simp) (by omega) _ _) | (with_reducible apply Rd.alloc) | (with_reducible apply Rd.drewN))
        · repeat (first | (with_reducible exact Fr.refl _ _) | (with_reducible assumption) | (with_reducible apply Fr.alloc) | (with_reducible apply Fr.drew) | (with_reducible apply Fr.drewN) | (with_reducible refine Fr.setCell ?_ (by first | (left; simp; done) | (right; simp; done) | (right; simp; omega)) _))
      · have hs : rSub bs s = (SubT.zero, (rComp bs (rList bs (rSuper bs) s.next).2).2) := by unfold rSub; rw [hh]; simp only [RdS.told, if_neg he]
        rw [hs]
        clear hh hs hq
        go_enter Tryd.func63, Tryd.ntmps63
        go_wp2_with first | ((go_at_call 46; refine (rd_peek hR).mono ?_; rintro e w' ⟨rfl, nq, rfl⟩); have hR0 := hR.drewN nq; have hB0 := hB.drewN nq; have hC0 := hR0.loc.cell; have hG0 := hR0.loc.frz; have hT0 := hR0.loc.lt; simp only [rdCells] at hC0; have hLC0 := hB0.cell; have hLF0 := hB0.frz; have hLT0 := hB0.lt) | fail
        have hE := rd_next (hR.drewN nq) hlt
        have hRX := fun v0 => (hE.setLoc (lb := w.heap.size + 1) (by simp) (by omega) 0 v0)
        have hBX := fun v0 => (((hB.drewN nq).set' (p := ⟨rb, 0, none⟩) (by simp; omega) (.int .i64 ((s.at_ : Int) + 1))).set 0 v0)
        have hAX := fun v0 => (((hA.drewN nq).set' (p := ⟨rb, 0, none⟩) (by simp; omega) (.int .i64 ((s.at_ : Int) + 1))).set' (p := ⟨w.heap.size + 1, 0, none⟩) (by simp) v0)
        go_wp2_with first | ((go_at_call 100; refine (list_heap (hRX _)).mono ?_; rintro e w2 ⟨v2, rfl, hS2, hR2, hF2⟩; obtain ⟨a2, c2, rfl⟩ := hS2.shape); have hB2 := (hBX _).fr hF2 (by simp; omega); have hA2 := (hAX _).fr hF2 (by simp; omega); have hLC2 := hB2.cell; have hLF2 := hB2.frz; have hLT2 := hB2.lt) | fail
        have f2 : Fr [rb] w w2 := Fr.trans (by repeat (first | (with_reducible exact Fr.refl _ _) | (with_reducible assumption) | (with_reducible apply Fr.alloc) | (with_reducible apply Fr.drew) | (with_reducible apply Fr.drewN) | (with_reducible refine Fr.setCell ?_ (by first | (left; simp; done) | (right; simp; done) | (right; simp; omega)) _))) hF2
        have hR2X := fun v1 => (hR2.setLoc (lb := w.heap.size + 1) (by simp) (by omega) 1 v1)
        have hB2X := fun v1 => (hB2.set 1 v1)
        have hA2X := fun v1 => (hA2.set' (p := ⟨w.heap.size + 1, 1, none⟩) (by simp) v1)
        go_wp2_with first | ((go_at_call 102; refine (rd_comp (hR2X _)).mono ?_; rintro e w3 ⟨p3, r3, v3, rfl, hC3, hR3, hF3⟩; obtain ⟨pa, pc, rfl⟩ := hC3.1.shape; obtain ⟨ra, rc, rfl⟩ := hC3.2.1.shape; obtain ⟨fa, fc, rfl⟩ := hC3.2.2.shape); have hB3 := (hB2X _).fr hF3 (by simp; omega); have hA3 := (hA2X _).fr hF3 (by simp; omega); have hLC3 := hB3.cell; have hLF3 := hB3.frz; have hLT3 := hB3.lt) | fail
        have f3 : Fr [rb] w w3 := Fr.trans (by repeat (first | (with_reducible exact Fr.refl _ _) | (with_reducible assumption) | (with_reducible apply Fr.alloc) | (with_reducible apply Fr.drew) | (with_reducible apply Fr.drewN) | (with_reducible refine Fr.setCell ?_ (by first | (left; simp; done) | (right; simp; done) | (right; simp; omega)) _))) hF3
        have hR3X := fun v2 v3 v4 v5 => ((((hR3.setLoc (lb := w.heap.size + 1) (by simp) (by omega) 2 v2).setLoc (lb := w.heap.size + 1) (by simp) (by omega) 3 v3).setLoc (lb := w.heap.size + 1) (by simp) (by omega) 4 v4).setLoc (lb := w.heap.size + 1) (by simp) (by omega) 5 v5)
        have hB3X := fun v2 v3 v4 v5 => ((((hB3.set 2 v2).set 3 v3).set 4 v4).set 5 v5)
        have hA3X := fun v2 v3 v4 v5 => ((((hA3.set' (p := ⟨w.heap.size + 1, 2, none⟩) (by simp) v2).set' (p := ⟨w.heap.size + 1, 3, none⟩) (by simp) v3).set' (p := ⟨w.heap.size + 1, 4, none⟩) (by simp) v4).set' (p := ⟨w.heap.size + 1, 5, none⟩) (by simp) v5)
        go_wp2_with ((go_at_call 103; refine (told_sub_no (hR3X _ _ _ _) he _ _ _ _ _ _ _ _ _ _ _ _ _ _).mono ?_; rintro e w4 ⟨rfl, hF4⟩); have hA4 := (hA3X _ _ _ _).fr hF4 (by simp); have hR4 := (hR3X _ _ _ _).fr hF4 (by simp) (by simp); have hLC4 := hA4.cell; have hLF4 := hA4.frz; have hLT4 := hA4.lt)
        have f4 : Fr [rb] w w4 := Fr.trans (by repeat (first | (with_reducible exact Fr.refl _ _) | (with_reducible assumption) | (with_reducible apply Fr.alloc) | (with_reducible apply Fr.drew) | (with_reducible apply Fr.drewN) | (with_reducible refine Fr.setCell ?_ (by first | (left; simp; done) | (right; simp; done) | (right; simp; omega)) _))) (hF4.mono (by simp))
        refine ret_cell rfl rfl ((((((hA4.set 0 _).set 1 _).set 2 _).set 3 _).set 4 _).set 5 _) und_sub rfl size_sub rfl ⟨_, _, _, _, rfl, SubR.zero _ _, ?_, ?_⟩
        · refine Rd.un1 (lb := w.heap.size) (Rd.un1 (lb := w.heap.size + 1) ?_ (by simp; exact .inr h.mem)) h.mem
          repeat (first | (with_reducible assumption) | (with_reducible refine Rd.setLoc ?_ (by simp) (by omega) _ _) | (with_reducible apply Rd.alloc) | (with_reducible apply Rd.drewN))
        · repeat (first | (with_reducible exact Fr.refl _ _) | (with_reducible assumption) | (with_reducible apply Fr.alloc) | (with_reducible apply Fr.drew) | (with_reducible apply Fr.drewN) | (with_reducible refine Fr.setCell ?_ (by first | (left; simp; done) | (right; simp; done) | (right; simp; omega)) _))
    · skip
      have g80 : (((rPeek bs s : Nat) : Int) == 80) = false := by simp; omega
      have g79 : (((rPeek bs s : Nat) : Int) == 79) = false := by simp; omega
      have hh : rHead bs s = ((true, []), s) := by unfold rHead; rw [if_neg (by omega)]
      by_cases he : (rComp bs s).2.err = 0
      · have hs : rSub bs s = (⟨true, [], (rComp bs s).1⟩, (rComp bs s).2) := by unfold rSub; rw [hh]; simp only [RdS.told, if_pos he]
        rw [hs]
        clear hh hs
        go_enter Tryd.func63, Tryd.ntmps63
        go_wp2_with first | (go_at_call 46; refine (rd_peek hR).mono ?_; rintro e w' ⟨rfl, nq, rfl⟩) | fail
        have hBd := hB.drewN nq
        have hAd := hA.drewN nq
        go_wp2_with first | ((go_at_call 102; refine (rd_comp (hR.drewN nq)).mono ?_; rintro e w3 ⟨p3, r3, v3, rfl, hC3, hR3, hF3⟩; obtain ⟨pa, pc, rfl⟩ := hC3.1.shape; obtain ⟨ra, rc, rfl⟩ := hC3.2.1.shape; obtain ⟨fa, fc, rfl⟩ := hC3.2.2.shape); have hB3 := hBd.fr hF3 (by simp; omega); have hA3 := hAd.fr hF3 (by simp; omega); have hLC3 := hB3.cell; have hLF3 := hB3.frz; have hLT3 := hB3.lt) | fail
        have f3 : Fr [rb] w w3 := Fr.trans (by repeat (first | (with_reducible exact Fr.refl _ _) | (with_reducible assumption) | (with_reducible apply Fr.alloc) | (with_reducible apply Fr.drew) | (with_reducible apply Fr.drewN) | (with_reducible refine Fr.setCell ?_ (by first | (left; simp; done) | (right; simp; done) | (right; simp; omega)) _))) hF3
        have hR3X := fun v2 v3 v4 v5 => ((((hR3.setLoc (lb := w.heap.size + 1) (by simp) (by omega) 2 v2).setLoc (lb := w.heap.size + 1) (by simp) (by omega) 3 v3).setLoc (lb := w.heap.size + 1) (by simp) (by omega) 4 v4).setLoc (lb := w.heap.size + 1) (by simp) (by omega) 5 v5)
        have hB3X := fun v2 v3 v4 v5 => ((((hB3.set 2 v2).set 3 v3).set 4 v4).set 5 v5)
        have hA3X := fun v2 v3 v4 v5 => ((((hA3.set' (p := ⟨w.heap.size + 1, 2, none⟩) (by simp) v2).set' (p := ⟨w.heap.size + 1, 3, none⟩) (by simp) v3).set' (p := ⟨w.heap.size + 1, 4, none⟩) (by simp) v4).set' (p := ⟨w.heap.size + 1, 5, none⟩) (by simp) v5)
        go_wp2_with ((go_at_call 103; refine (told_sub_ok (hR3X _ _ _ _) he _ _ _ _ _ _ _ _ _ _ _ _ _ _).mono ?_; rintro e w4 ⟨rfl, hF4⟩); have hA4 := (hA3X _ _ _ _).fr hF4 (by simp); have hR4 := (hR3X _ _ _ _).fr hF4 (by simp) (by simp); have hLC4 := hA4.cell; have hLF4 := hA4.frz; have hLT4 := hA4.lt)
        have f4 : Fr [rb] w w4 := Fr.trans (by repeat (first | (with_reducible exact Fr.refl _ _) | (with_reducible assumption) | (with_reducible apply Fr.alloc) | (with_reducible apply Fr.drew) | (with_reducible apply Fr.drewN) | (with_reducible refine Fr.setCell ?_ (by first | (left; simp; done) | (right; simp; done) | (right; simp; omega)) _))) (hF4.mono (by simp))
        have j4 : Fr [rb, w.heap.size + 1, w.heap.size] w3 w4 := Fr.trans (by repeat (first | (with_reducible exact Fr.refl _ _) | (with_reducible assumption) | (with_reducible apply Fr.alloc) | (with_reducible apply Fr.drew) | (with_reducible apply Fr.drewN) | (with_reducible refine Fr.setCell ?_ (by first | (left; simp; done) | (right; simp; done) | (right; simp; omega)) _))) (hF4.mono (by simp))
        refine ret_cell rfl rfl ((((((hA4.set 0 _).set 1 _).set 2 _).set 3 _).set 4 _).set 5 _) und_sub rfl size_sub rfl ⟨_, _, _, _, rfl, ⟨?_, ?_⟩, ?_, ?_⟩
        · exact Sl.nil _ _ _
        · exact hC3.out2 (by repeat (first | (with_reducible exact Fr.refl _ _) | (with_reducible assumption) | (with_reducible apply Fr.alloc) | (with_reducible apply Fr.drew) | (with_reducible apply Fr.drewN) | (with_reducible refine Fr.setCell ?_ (by first | (left; simp; done) | (right; simp; done) | (right; simp; omega)) _))) h.mem
        · refine Rd.un1 (lb := w.heap.size) (Rd.un1 (lb := w.heap.size + 1) ?_ (by simp; exact .inr h.mem)) h.mem
          repeat (first | (with_reducible assumption) | (with_reducible refine Rd.setLoc ?_ (by simp) (by omega) _ _) | (with_reducible apply Rd.alloc) | (with_reducible apply Rd.drewN))
        · repeat (first | (with_reducible exact Fr.refl _ _) | (with_reducible assumption) | (with_reducible apply Fr.alloc) | (with_reducible apply Fr.drew) | (with_reducible apply Fr.drewN) | (with_reducible refine Fr.setCell ?_ (by first | (left; simp; done) | (right; simp; done) | (right; simp; omega)) _))
      · have hs : rSub bs s = (SubT.zero, (rComp bs s).2) := by unfold rSub; rw [hh]; simp only [RdS.told, if_neg he]
        rw [hs]
        clear hh hs
        go_enter Tryd.func63, Tryd.ntmps63
        go_wp2_with first | (go_at_call 46; refine (rd_peek hR).mono ?_; rintro e w' ⟨rfl, nq, rfl⟩) | fail
        have hBd := hB.drewN nq
        have hAd := hA.drewN nq
        go_wp2_with first | ((go_at_call 102; refine (rd_comp (hR.drewN nq)).mono ?_; rintro e w3 ⟨p3, r3, v3, rfl, hC3, hR3, hF3⟩; obtain ⟨pa, pc, rfl⟩ := hC3.1.shape; obtain ⟨ra, rc, rfl⟩ := hC3.2.1.shape; obtain ⟨fa, fc, rfl⟩ := hC3.2.2.shape); have hB3 := hBd.fr hF3 (by simp; omega); have hA3 := hAd.fr hF3 (by simp; omega); have hLC3 := hB3.cell; have hLF3 := hB3.frz; have hLT3 := hB3.lt) | fail
        have f3 : Fr [rb] w w3 := Fr.trans (by repeat (first | (with_reducible exact Fr.refl _ _) | (with_reducible assumption) | (with_reducible apply Fr.alloc) | (with_reducible apply Fr.drew) | (with_reducible apply Fr.drewN) | (with_reducible refine Fr.setCell ?_ (by first | (left; simp; done) | (right; simp; done) | (right; simp; omega)) _))) hF3
        have hR3X := fun v2 v3 v4 v5 => ((((hR3.setLoc (lb := w.heap.size + 1) (by simp) (by omega) 2 v2).setLoc (lb := w.heap.size + 1) (by simp) (by omega) 3 v3).setLoc (lb := w.heap.size + 1) (by simp) (by omega) 4 v4).setLoc (lb := w.heap.size + 1) (by simp) (by omega) 5 v5)
        have hB3X := fun v2 v3 v4 v5 => ((((hB3.set 2 v2).set 3 v3).set 4 v4).set 5 v5)
        have hA3X := fun v2 v3 v4 v5 => ((((hA3.set' (p := ⟨w.heap.size + 1, 2, none⟩) (by simp) v2).set' (p := ⟨w.heap.size + 1, 3, none⟩) (by simp) v3).set' (p := ⟨w.heap.size + 1, 4, none⟩) (by simp) v4).set' (p := ⟨w.heap.size + 1, 5, none⟩) (by simp) v5)
        go_wp2_with ((go_at_call 103; refine (told_sub_no (hR3X _ _ _ _) he _ _ _ _ _ _ _ _ _ _ _ _ _ _).mono ?_; rintro e w4 ⟨rfl, hF4⟩); have hA4 := (hA3X _ _ _ _).fr hF4 (by simp); have hR4 := (hR3X _ _ _ _).fr hF4 (by simp) (by simp); have hLC4 := hA4.cell; have hLF4 := hA4.frz; have hLT4 := hA4.lt)
        have f4 : Fr [rb] w w4 := Fr.trans (by repeat (first | (with_reducible exact Fr.refl _ _) | (with_reducible assumption) | (with_reducible apply Fr.alloc) | (with_reducible apply Fr.drew) | (with_reducible apply Fr.drewN) | (with_reducible refine Fr.setCell ?_ (by first | (left; simp; done) | (right; simp; done) | (right; simp; omega)) _))) (hF4.mono (by simp))
        refine ret_cell rfl rfl ((((((hA4.set 0 _).set 1 _).set 2 _).set 3 _).set 4 _).set 5 _) und_sub rfl size_sub rfl ⟨_, _, _, _, rfl, SubR.zero _ _, ?_, ?_⟩
        · refine Rd.un1 (lb := w.heap.size) (Rd.un1 (lb := w.heap.size + 1) ?_ (by simp; exact .inr h.mem)) h.mem
          repeat (first | (with_reducible assumption) | (with_reducible refine Rd.setLoc ?_ (by simp) (by omega) _ _) | (with_reducible apply Rd.alloc) | (with_reducible apply Rd.drewN))
        · repeat (first | (with_reducible exact Fr.refl _ _) | (with_reducible assumption) | (with_reducible apply Fr.alloc) | (with_reducible apply Fr.drew) | (with_reducible apply Fr.drewN) | (with_reducible refine Fr.setCell ?_ (by first | (left; simp; done) | (right; simp; done) | (right; simp; omega)) _))


end Go.Proofs.YtokneepfknepaaaDoor
