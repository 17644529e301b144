/- The walks of layer 6: the chapter's rows. -/
import Derived.Test.YtokneepfknepaaaDoorOpenW
import Derived.Laws.StructEq
set_option linter.unusedSimpArgs false
set_option linter.unusedVariables false
namespace Go.Proofs.YtokneepfknepaaaDoor
open Go.RowKit

theorem sl_lit (w : World) {g : Nat} (hg : w.heap.size = g) (bs : List UInt8) (S : List Nat) (hS : ∀ b, b ∈ S → b < w.heap.size) (hl : bs.length ≤ maxLen) :
    Sl S (w.alloc (.cells (bs.map B).toArray 5)) 1 (.slice (some ⟨g, 0, none⟩) bs.length bs.length) bs.length (bs.map B) := by
  subst hg
  refine (Own.made 5 1 bs.length (bs.map B) hS (by simp) ?_ hl).sl (S' := S) ?_
  · intro u hu
    obtain ⟨c, _, rfl⟩ := List.mem_map.1 hu
    rfl
  · intro b hb hm
    simp [Value.blk] at hb
    have := hS b hm
    omega
theorem Sl.drewN {S : List Nat} {w : World} {k n : Nat} {v : Value} {cs : List Value} (h : Sl S w k v n cs) (m : Nat) : Sl S (w.drewN m) k v n cs := h.fr ((Fr.refl [] w).drewN m) (by simp)
theorem Gl.drewN {S : List Nat} {w : World} (h : Gl S w) (m : Nat) : Gl S (w.drewN m) := h.fr ((Fr.refl [] w).drewN m) (by simp)
theorem Gl.alloc {S : List Nat} {w : World} (h : Gl S w) (o : Obj) : Gl S (w.alloc o) := h.fr ((Fr.refl [] w).alloc o) (by simp)

theorem k1 : rVal [100, 133, 0] rOpen = (⟨3, false, ⟨13, 5⟩⟩, ⟨3, 0, 0⟩) := by decide
theorem k2 : (rVal [100, 127] rOpen).2 = ⟨1, 60, 1⟩ := by decide
theorem k3 : (rVal [125] rOpen).2 = ⟨0, 61, 0⟩ := by decide
theorem k4 : (rRec [96, 1, 127, 0] rOpen).1 = [⟨true, [], ⟨1, [⟨1, false, ⟨0, 0⟩⟩], [], []⟩⟩] := by decide


set_option maxRecDepth 100000 in set_option maxHeartbeats 800000 in
theorem known6 {w : World} (hg : Gl [] w) : Calls Tryd.prog 25 #[] w fun e w' => e = .returned (.bool true) ∧ Fr [] w w' := by
  have s1 := sl_lit w rfl [100, 133, 0] [] (by simp) (by decide)
  have g1 := hg.alloc (.cells ([100, 133, 0].map B).toArray 5)
  go_enter Tryd.func25, Tryd.ntmps25
  go_wp2_with first | (go_at_call 27; refine (open_any s1 g1 (by decide)).mono ?_; rintro e w1 ⟨rb1, v1, rfl, hR1, hN1, hF1⟩) | fail
  have c2 := rd_val hR1
  rw [k1] at c2
  go_wp2_with first | (go_at_call 19; refine c2.mono ?_; rintro e w2 ⟨rfl, hR2, hF2⟩) | fail
  have hL2 : Loc (w2.alloc (.cells #[.int .i64 3, .bool false, .int .i64 13, .int .i64 5] 44)) w2.heap.size [.int .i64 3, .bool false, .int .i64 13, .int .i64 5] 44 := Loc.new _ _ _
  have hR2a := hR2.alloc
  go_wp2_with first | (go_at_call 24; refine (rd_err (hR2a _)).mono ?_; rintro e w' ⟨rfl, nq, rfl⟩) | fail
  have s3 := fun m => (sl_lit (w2.alloc (.cells #[.int .i64 3, .bool false, .int .i64 13, .int .i64 5] 44)) (World.size_alloc _ _) [100, 127] [] (by simp) (by decide)).drewN m
  have g3 := fun m => (((hR2.gl.sub (S' := []) (by simp)).alloc (.cells #[.int .i64 3, .bool false, .int .i64 13, .int .i64 5] 44)).alloc (.cells ([100, 127].map B).toArray 5)).drewN m
  go_wp2_with first | (go_at_call 27; refine (open_any (s3 _) (g3 _) (by decide)).mono ?_; rintro e w3 ⟨rb3, v3, rfl, hR3, hN3, hF3⟩) | fail
  have c4 := rd_val hR3
  have e2 := k2
  generalize hq : rVal [100, 127] rOpen = q4 at c4 e2
  obtain ⟨x4, s4⟩ := q4
  simp only at e2
  subst e2
  clear hq
  go_wp2_with first | (go_at_call 19; refine c4.mono ?_; rintro e w4 ⟨rfl, hR4, hF4⟩) | fail
  go_wp2_with first | (go_at_call 24; refine (rd_err hR4).mono ?_; rintro e w' ⟨rfl, nq2, rfl⟩) | fail
  have s5 := fun m => (sl_lit w4 rfl [125] [] (by simp) (by decide)).drewN m
  have g5 := fun m => ((hR4.gl.sub (S' := []) (by simp)).alloc (.cells ([125].map B).toArray 5)).drewN m
  go_wp2_with first | (go_at_call 27; refine (open_any (s5 _) (g5 _) (by decide)).mono ?_; rintro e w5 ⟨rb5, v5, rfl, hR5, hN5, hF5⟩) | fail
  have c6 := rd_val hR5
  have e3 := k3
  generalize hq : rVal [125] rOpen = q6 at c6 e3
  obtain ⟨x6, s6⟩ := q6
  simp only at e3
  subst e3
  clear hq
  go_wp2_with first | (go_at_call 19; refine c6.mono ?_; rintro e w6 ⟨rfl, hR6, hF6⟩) | fail
  go_wp2_with first | (go_at_call 24; refine (rd_err hR6).mono ?_; rintro e w' ⟨rfl, nq3, rfl⟩) | fail
  have s7 := fun m => (sl_lit w6 rfl [96, 1, 127, 0] [] (by simp) (by decide)).drewN m
  have g7 := fun m => ((hR6.gl.sub (S' := []) (by simp)).alloc (.cells ([96, 1, 127, 0].map B).toArray 5)).drewN m
  go_wp2_with first | (go_at_call 27; refine (open_any (s7 _) (g7 _) (by decide)).mono ?_; rintro e w7 ⟨rb7, v7, rfl, hR7, hN7, hF7⟩) | fail
  have c8 := rd_rec hR7
  rw [k4] at c8
  go_wp2_with first | (go_at_call 21; refine c8.mono ?_) | fail
  rintro e w8 ⟨v8, cs, rfl, hS8, hB8, hR8, hF8⟩
  obtain ⟨hv, pv, rv, fv, rest, rfl, ⟨_, hP, _⟩, hrest⟩ := hB8
  obtain ⟨pa, pc, rfl⟩ := hP.shape
  obtain ⟨_, _, a8, cap8, rfl, h84, h85, h8N, h86⟩ := hS8
  obtain ⟨b8, o8, rfl, _, hlt8, hc8⟩ := h86.resolve_left (by decide)
  have i0 := hc8 0 (by decide)
  have i3 := hc8 3 (by decide)
  simp only [Nat.add_zero, List.getElem?_cons_zero, List.getElem?_cons_succ, List.length_cons, List.length_nil, Nat.zero_add] at i0 i3
  clear hc8 h8N hrest
  have z1 := hF1.size
  have z2 := hF2.size
  have z3 := hF3.size
  have z4 := hF4.size
  have z5 := hF5.size
  have z6 := hF6.size
  have z7 := hF7.size
  simp at z1 z2 z3 z4 z5 z6 z7 hN1 hN3 hN5 hN7
  have q3 : Fr [] (w2.alloc (.cells #[.int .i64 3, .bool false, .int .i64 13, .int .i64 5] 44)) w3 := Fr.trans (by repeat (first | (with_reducible exact Fr.refl _ _) | (with_reducible assumption) | (with_reducible apply Fr.alloc) | (with_reducible apply Fr.drew) | (with_reducible apply Fr.drewN) | (with_reducible refine Fr.setCell ?_ (by first | (left; simp; done) | (right; simp; done) | (right; simp; omega)) _))) hF3
  have q4 : Fr [] (w2.alloc (.cells #[.int .i64 3, .bool false, .int .i64 13, .int .i64 5] 44)) w4 := q3.then hF4 (by intro k hk; simp at hk; subst hk; right; simp; omega)
  have q5 : Fr [] (w2.alloc (.cells #[.int .i64 3, .bool false, .int .i64 13, .int .i64 5] 44)) w5 := q4.trans (Fr.trans (by repeat (first | (with_reducible exact Fr.refl _ _) | (with_reducible assumption) | (with_reducible apply Fr.alloc) | (with_reducible apply Fr.drew) | (with_reducible apply Fr.drewN) | (with_reducible refine Fr.setCell ?_ (by first | (left; simp; done) | (right; simp; done) | (right; simp; omega)) _))) hF5)
  have q6 : Fr [] (w2.alloc (.cells #[.int .i64 3, .bool false, .int .i64 13, .int .i64 5] 44)) w6 := q5.then hF6 (by intro k hk; simp at hk; subst hk; right; simp; omega)
  have q7 : Fr [] (w2.alloc (.cells #[.int .i64 3, .bool false, .int .i64 13, .int .i64 5] 44)) w7 := q6.trans (Fr.trans (by repeat (first | (with_reducible exact Fr.refl _ _) | (with_reducible assumption) | (with_reducible apply Fr.alloc) | (with_reducible apply Fr.drew) | (with_reducible apply Fr.drewN) | (with_reducible refine Fr.setCell ?_ (by first | (left; simp; done) | (right; simp; done) | (right; simp; omega)) _))) hF7)
  have q8 : Fr [] (w2.alloc (.cells #[.int .i64 3, .bool false, .int .i64 13, .int .i64 5] 44)) w8 := q7.then hF8 (by intro k hk; simp at hk; subst hk; right; simp; omega)
  have p1 : Fr [] w w1 := Fr.trans (by repeat (first | (with_reducible exact Fr.refl _ _) | (with_reducible assumption) | (with_reducible apply Fr.alloc) | (with_reducible apply Fr.drew) | (with_reducible apply Fr.drewN) | (with_reducible refine Fr.setCell ?_ (by first | (left; simp; done) | (right; simp; done) | (right; simp; omega)) _))) hF1
  have p2 : Fr [] w w2 := p1.then hF2 (by intro k hk; simp at hk; subst hk; right; omega)
  have p8 : Fr [] w w8 := p2.trans (Fr.trans (by repeat (first | (with_reducible exact Fr.refl _ _) | (with_reducible assumption) | (with_reducible apply Fr.alloc) | (with_reducible apply Fr.drew) | (with_reducible apply Fr.drewN) | (with_reducible refine Fr.setCell ?_ (by first | (left; simp; done) | (right; simp; done) | (right; simp; omega)) _))) q8)
  have hL8 := hL2.fr q8 (by simp)
  have hRz := (hR2a (.cells #[.int .i64 3, .bool false, .int .i64 13, .int .i64 5] 44)).fr q8 (by simp) (by simp)
  have hLC8 := hL8.cell; have hLF8 := hL8.frz; have hLT8 := hL8.lt
  clear q3 q4 q5 q6 q7 q8 p1 p2 hF1 hF2 hF3 hF4 hF5 hF6 hF7 hF8 z1 z2 z3 z4 z5 z6 z7 hN1 hN3 hN5 hN7
  go_wp2_with (go_at_call 23; refine (rd_left hRz).mono ?_; rintro e w' ⟨rfl, nq4, rfl⟩)
  go_ret
  exact ⟨rfl, by repeat (first | (with_reducible exact Fr.refl _ _) | (with_reducible assumption) | (with_reducible apply Fr.alloc) | (with_reducible apply Fr.drew) | (with_reducible apply Fr.drewN) | (with_reducible refine Fr.setCell ?_ (by first | (left; simp; done) | (right; simp; done) | (right; simp; omega)) _))⟩
end Go.Proofs.YtokneepfknepaaaDoor
