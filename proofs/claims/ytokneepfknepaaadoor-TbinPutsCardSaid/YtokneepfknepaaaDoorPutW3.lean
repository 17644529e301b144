/- The walks of layer 6: what is plain. -/
import Derived.Test.YtokneepfknepaaaDoorPutW2
set_option linter.unusedSimpArgs false
set_option linter.unusedVariables false
namespace Go.Proofs.YtokneepfknepaaaDoor
open Go.RowKit

set_option maxRecDepth 100000 in
set_option maxHeartbeats 800000 in
theorem given_h (w : World) (h : HeapT) : Calls Tryd.prog 116 #[heapV h] w fun e w' => e = .returned (.bool (givenH h)) ∧ Fr [] w w' := by
  obtain ⟨k, n⟩ := h
  unfold heapV givenH
  dsimp only
  by_cases a : 1 ≤ k
  · by_cases b : k ≤ 12
    · by_cases c : n = 0
      · rw [show decide (1 ≤ k ∧ k ≤ 12 ∧ n = 0) = true by simp; omega]
        have g : (n == 0) = true := by simpa using c
        clear c
        go_enter Tryd.func116, Tryd.ntmps116
        go_wp2
        go_ret
        exact ⟨rfl, by repeat (first | (with_reducible exact Fr.refl _ _) | (with_reducible assumption) | (with_reducible apply Fr.alloc) | (with_reducible apply Fr.drew) | (with_reducible apply Fr.drewN) | (with_reducible refine Fr.setCell ?_ (by first | (left; simp; done) | (right; simp; done) | (right; simp; omega)) _))⟩
      · rw [show decide (1 ≤ k ∧ k ≤ 12 ∧ n = 0) = false by simp; omega]
        have g : (n == 0) = false := by simpa using c
        clear c
        go_enter Tryd.func116, Tryd.ntmps116
        go_wp2
        go_ret
        exact ⟨rfl, by repeat (first | (with_reducible exact Fr.refl _ _) | (with_reducible assumption) | (with_reducible apply Fr.alloc) | (with_reducible apply Fr.drew) | (with_reducible apply Fr.drewN) | (with_reducible refine Fr.setCell ?_ (by first | (left; simp; done) | (right; simp; done) | (right; simp; omega)) _))⟩
    · rw [show decide (1 ≤ k ∧ k ≤ 12 ∧ n = 0) = false by simp; omega]
      go_enter Tryd.func116, Tryd.ntmps116
      go_wp2
      go_ret
      exact ⟨rfl, by repeat (first | (with_reducible exact Fr.refl _ _) | (with_reducible assumption) | (with_reducible apply Fr.alloc) | (with_reducible apply Fr.drew) | (with_reducible apply Fr.drewN) | (with_reducible refine Fr.setCell ?_ (by first | (left; simp; done) | (right; simp; done) | (right; simp; omega)) _))⟩
  · rw [show decide (1 ≤ k ∧ k ≤ 12 ∧ n = 0) = false by simp; omega]
    go_enter Tryd.func116, Tryd.ntmps116
    go_wp2
    go_ret
    exact ⟨rfl, by repeat (first | (with_reducible exact Fr.refl _ _) | (with_reducible assumption) | (with_reducible apply Fr.alloc) | (with_reducible apply Fr.drew) | (with_reducible apply Fr.drewN) | (with_reducible refine Fr.setCell ?_ (by first | (left; simp; done) | (right; simp; done) | (right; simp; omega)) _))⟩

set_option maxRecDepth 100000 in
set_option maxHeartbeats 800000 in
theorem indexed_h (w : World) (h : HeapT) : Calls Tryd.prog 105 #[heapV h] w fun e w' => e = .returned (.bool (indexedH h)) ∧ Fr [] w w' := by
  obtain ⟨k, n⟩ := h
  unfold heapV indexedH
  dsimp only
  by_cases a : k = 13
  · have g : (k == 13) = true := by simpa using a
    by_cases b : 0 ≤ n
    · by_cases c : n ≤ 4294967295
      · rw [show decide (k = 13 ∧ 0 ≤ n ∧ n ≤ 4294967295) = true by simp; omega]
        clear a
        go_enter Tryd.func105, Tryd.ntmps105
        go_wp2
        go_ret
        exact ⟨rfl, by repeat (first | (with_reducible exact Fr.refl _ _) | (with_reducible assumption) | (with_reducible apply Fr.alloc) | (with_reducible apply Fr.drew) | (with_reducible apply Fr.drewN) | (with_reducible refine Fr.setCell ?_ (by first | (left; simp; done) | (right; simp; done) | (right; simp; omega)) _))⟩
      · rw [show decide (k = 13 ∧ 0 ≤ n ∧ n ≤ 4294967295) = false by simp; omega]
        clear a
        go_enter Tryd.func105, Tryd.ntmps105
        go_wp2
        go_ret
        exact ⟨rfl, by repeat (first | (with_reducible exact Fr.refl _ _) | (with_reducible assumption) | (with_reducible apply Fr.alloc) | (with_reducible apply Fr.drew) | (with_reducible apply Fr.drewN) | (with_reducible refine Fr.setCell ?_ (by first | (left; simp; done) | (right; simp; done) | (right; simp; omega)) _))⟩
    · rw [show decide (k = 13 ∧ 0 ≤ n ∧ n ≤ 4294967295) = false by simp; omega]
      clear a
      go_enter Tryd.func105, Tryd.ntmps105
      go_wp2
      go_ret
      exact ⟨rfl, by repeat (first | (with_reducible exact Fr.refl _ _) | (with_reducible assumption) | (with_reducible apply Fr.alloc) | (with_reducible apply Fr.drew) | (with_reducible apply Fr.drewN) | (with_reducible refine Fr.setCell ?_ (by first | (left; simp; done) | (right; simp; done) | (right; simp; omega)) _))⟩
  · rw [show decide (k = 13 ∧ 0 ≤ n ∧ n ≤ 4294967295) = false by simp; omega]
    have g : (k == 13) = false := by simpa using a
    clear a
    go_enter Tryd.func105, Tryd.ntmps105
    go_wp2
    go_ret
    exact ⟨rfl, by repeat (first | (with_reducible exact Fr.refl _ _) | (with_reducible assumption) | (with_reducible apply Fr.alloc) | (with_reducible apply Fr.drew) | (with_reducible apply Fr.drewN) | (with_reducible refine Fr.setCell ?_ (by first | (left; simp; done) | (right; simp; done) | (right; simp; omega)) _))⟩

set_option maxRecDepth 100000 in
set_option maxHeartbeats 800000 in
theorem plainVal_any (w : World) (t : ValT) : Calls Tryd.prog 75 #[valV t] w fun e w' => e = .returned (.bool (plainVal t)) ∧ Fr [] w w' := by
  obtain ⟨k, nl, ⟨hk, hn⟩⟩ := t
  unfold valV
  dsimp only
  by_cases q1 : k = 1
  · subst q1
    go_enter Tryd.func75, Tryd.ntmps75
    go_wp2
    all_goals
      go_ret
      refine ⟨?_, by repeat (first | (with_reducible exact Fr.refl _ _) | (with_reducible assumption) | (with_reducible apply Fr.alloc) | (with_reducible apply Fr.drew) | (with_reducible apply Fr.drewN) | (with_reducible refine Fr.setCell ?_ (by first | (left; simp; done) | (right; simp; done) | (right; simp; omega)) _))⟩
      simp_all [plainVal]
  · by_cases q2 : k = 2
    · subst q2
      go_enter Tryd.func75, Tryd.ntmps75
      go_wp2
      all_goals
        go_ret
        refine ⟨?_, by repeat (first | (with_reducible exact Fr.refl _ _) | (with_reducible assumption) | (with_reducible apply Fr.alloc) | (with_reducible apply Fr.drew) | (with_reducible apply Fr.drewN) | (with_reducible refine Fr.setCell ?_ (by first | (left; simp; done) | (right; simp; done) | (right; simp; omega)) _))⟩
        simp_all [plainVal]
    · have g1 : (k == 1) = false := by simpa using q1
      have g2 : (k == 2) = false := by simpa using q2
      by_cases q3 : k = 3
      · subst q3
        cases hq : givenH ⟨hk, hn⟩
        · have hL : Loc (w.alloc (.cells #[.int .i64 3, .bool nl, .int .i64 hk, .int .i64 hn] 44)) w.heap.size [.int .i64 3, .bool nl, .int .i64 hk, .int .i64 hn] 44 := Loc.new _ _ _
          have hp : plainVal ⟨3, nl, ⟨hk, hn⟩⟩ = indexedH ⟨hk, hn⟩ := by simp [plainVal, hq]
          rw [hp]
          go_enter Tryd.func75, Tryd.ntmps75
          go_wp2_with first | (go_at_call 116; refine (given_h _ ⟨hk, hn⟩).mono ?_; rintro e w2 ⟨rfl, hF2⟩; rw [hq]; have hL2 := hL.fr hF2 (by simp); have hLC2 := hL2.cell; have hLF2 := hL2.frz; have hLT2 := hL2.lt) | (go_at_call 105; refine (indexed_h _ ⟨hk, hn⟩).mono ?_; rintro e w3 ⟨rfl, hF3⟩)
          have f2 := ((Fr.refl [] w).alloc (.cells #[.int .i64 3, .bool nl, .int .i64 hk, .int .i64 hn] 44)).trans hF2
          go_ret
          exact ⟨rfl, f2.trans hF3⟩
        · have hp : plainVal ⟨3, nl, ⟨hk, hn⟩⟩ = true := by simp [plainVal, hq]
          rw [hp]
          go_enter Tryd.func75, Tryd.ntmps75
          go_wp2_with (go_at_call 116; refine (given_h _ ⟨hk, hn⟩).mono ?_; rintro e w2 ⟨rfl, hF2⟩; rw [hq])
          go_ret
          exact ⟨rfl, ((Fr.refl [] w).alloc _).trans hF2⟩
      · have g3 : (k == 3) = false := by simpa using q3
        have hp : plainVal ⟨k, nl, ⟨hk, hn⟩⟩ = false := by simp [plainVal, q1, q2, q3]
        rw [hp]
        clear q1 q2 q3 hp
        go_enter Tryd.func75, Tryd.ntmps75
        go_wp2
        go_ret
        exact ⟨rfl, by repeat (first | (with_reducible exact Fr.refl _ _) | (with_reducible assumption) | (with_reducible apply Fr.alloc) | (with_reducible apply Fr.drew) | (with_reducible apply Fr.drewN) | (with_reducible refine Fr.setCell ?_ (by first | (left; simp; done) | (right; simp; done) | (right; simp; omega)) _))⟩

set_option maxRecDepth 100000 in
set_option maxHeartbeats 400000 in
theorem plain_any (w : World) (h : HeapT) : Calls Tryd.prog 73 #[heapV h] w fun e w' => e = .returned (.bool (plainVal ⟨3, false, h⟩)) ∧ Fr [] w w' := by
  obtain ⟨k, n⟩ := h
  unfold heapV
  dsimp only
  go_enter Tryd.func73, Tryd.ntmps73
  go_wp2_with (go_at_call 75; refine (plainVal_any _ ⟨3, false, ⟨k, n⟩⟩).mono ?_; rintro e w2 ⟨rfl, hF2⟩)
  go_ret
  exact ⟨rfl, ((Fr.refl [] w).alloc _).trans hF2⟩

set_option maxRecDepth 100000 in
set_option maxHeartbeats 800000 in
theorem PutHeap_any {w : World} (hg : Gl [] w) (h : HeapT) (hk : h.ok) :
    Calls Tryd.prog 33 #[heapV h] w fun e w' => ∃ v', e = .returned v' ∧ Out w' v' (if plainVal ⟨3, false, h⟩ then pHeap h else []) ∧ New w v' ∧ Fr [] w w' := by
  have hL : Loc (w.alloc (.cells #[.int .i64 h.kind, .int .i64 h.n] 40)) w.heap.size [.int .i64 h.kind, .int .i64 h.n] 40 := Loc.new _ _ _
  have hg1 := fun o => hg.fr ((Fr.refl [] w).alloc o) (by simp)
  have f1 := (Fr.refl [] w).alloc (.cells #[.int .i64 h.kind, .int .i64 h.n] 40)
  obtain ⟨_, hn1, hn2⟩ := hk
  cases hp : plainVal ⟨3, false, h⟩
  · unfold heapV
    go_enter Tryd.func33, Tryd.ntmps33
    go_wp2_with (go_at_call 73; refine (plain_any _ h).mono ?_; rintro e w2 ⟨rfl, hF2⟩; rw [hp])
    go_ret
    exact ⟨_, rfl, Out.nil _, New.nil _, ((Fr.refl [] w).alloc _).trans hF2⟩
  · unfold heapV
    go_enter Tryd.func33, Tryd.ntmps33
    go_wp2_with first | (go_at_call 73; refine (plain_any _ h).mono ?_; rintro e w2 ⟨rfl, hF2⟩; rw [hp]; have hL2 := hL.fr hF2 (by simp); have hg2 := (hg1 _).fr hF2 (by simp); have hLC2 := hL2.cell; have hLF2 := hL2.frz; have hLT2 := hL2.lt) | (go_at_call 74; refine (putHeap_any (.slice none 0 0) hg2 [] h (Out.nil _) hn1 hn2 (Nat.zero_le _)).mono ?_; rintro e w4 ⟨v4, rfl, ho4, hA4⟩)
    have f2 := f1.trans hF2
    go_ret
    refine ⟨v4, rfl, by simpa using ho4, ?_, f2.trans hA4.1⟩
    intro b hb
    rcases hA4.2 b hb with hb | hb
    · cases hb
    · exact Nat.le_trans f2.size hb

set_option maxRecDepth 100000 in
set_option maxHeartbeats 800000 in
theorem PutVal_any {w : World} (hg : Gl [] w) (t : ValT) (hk : t.heap.ok) :
    Calls Tryd.prog 34 #[valV t] w fun e w' => ∃ v', e = .returned v' ∧ Out w' v' (if plainVal t then pVal t else []) ∧ New w v' ∧ Fr [] w w' := by
  have hL : Loc (w.alloc (.cells #[.int .i64 t.kind, .bool t.null, .int .i64 t.heap.kind, .int .i64 t.heap.n] 44)) w.heap.size [.int .i64 t.kind, .bool t.null, .int .i64 t.heap.kind, .int .i64 t.heap.n] 44 := Loc.new _ _ _
  have hg1 := fun o => hg.fr ((Fr.refl [] w).alloc o) (by simp)
  have f1 := (Fr.refl [] w).alloc (.cells #[.int .i64 t.kind, .bool t.null, .int .i64 t.heap.kind, .int .i64 t.heap.n] 44)
  have hx : ([] : List UInt8).length + 16 ≤ 70368744177664 := by simp
  cases hp : plainVal t
  · unfold valV
    go_enter Tryd.func34, Tryd.ntmps34
    go_wp2_with (go_at_call 75; refine (plainVal_any _ t).mono ?_; rintro e w2 ⟨rfl, hF2⟩; rw [hp])
    go_ret
    exact ⟨_, rfl, Out.nil _, New.nil _, ((Fr.refl [] w).alloc _).trans hF2⟩
  · unfold valV
    go_enter Tryd.func34, Tryd.ntmps34
    go_wp2_with first | (go_at_call 75; refine (plainVal_any _ t).mono ?_; rintro e w2 ⟨rfl, hF2⟩; rw [hp]; have hL2 := hL.fr hF2 (by simp); have hg2 := (hg1 _).fr hF2 (by simp); have hLC2 := hL2.cell; have hLF2 := hL2.frz; have hLT2 := hL2.lt) | (go_at_call 76; refine (putVal_any (.slice none 0 0) hg2 [] t (Out.nil _) hk hx).mono ?_; rintro e w4 ⟨v4, rfl, ho4, hA4⟩)
    have f2 := f1.trans hF2
    go_ret
    refine ⟨v4, rfl, by simpa using ho4, ?_, f2.trans hA4.1⟩
    intro b hb
    rcases hA4.2 b hb with hb | hb
    · cases hb
    · exact Nat.le_trans f2.size hb

end Go.Proofs.YtokneepfknepaaaDoor
