/- The walks of layer 6: a reader that is not there, or that was not made: types. -/
import Derived.Test.YtokneepfknepaaaDoorNoneW
import Derived.Test.YtokneepfknepaaaDoorOpenW
namespace Go.Proofs.YtokneepfknepaaaDoor
open Go.RowKit

theorem und_heap : Tryd.prog.underlying 40 = some ((Tryd.prog.underlying 40).get (by kernel_rfl)) := by kernel_rfl
theorem size_heap : (Tryd.prog.info? 40).map (·.size) = some 2 := by kernel_rfl

set_option maxRecDepth 100000 in set_option maxHeartbeats 400000 in
theorem given_zero (w : World) : Calls Tryd.prog 57 #[.int .u8 0] w fun e w' => e = .returned (.tuple #[heapV ⟨0, 0⟩, .bool false]) ∧ Fr [] w w' := by
  go_enter Tryd.func57, Tryd.ntmps57
  go_wp2
  refine bodyPost_ret (v := .tuple #[heapV ⟨0, 0⟩, .bool false]) (by simp [results, Tryd.results57, go_sem]) rfl ⟨rfl, ?_⟩
  repeat (first | (with_reducible exact Fr.refl _ _) | (with_reducible assumption) | (with_reducible apply Fr.alloc) | (with_reducible apply Fr.drew) | (with_reducible apply Fr.drewN) | (with_reducible refine Fr.setCell ?_ (by first | (left; simp; done) | (right; simp; done) | (right; simp; omega)) _))
set_option maxRecDepth 100000 in set_option maxHeartbeats 400000 in
theorem un_heap {w : World} {r : Option Addr} (h : Un w r) : Calls Tryd.prog 18 #[.pointer r] w fun e w' => e = .returned (heapV ⟨0, 0⟩) ∧ Fr [] w w' := by
  have hH := fun o => h.alloc o
  have hL : Loc (w.alloc (.cells #[.int .i64 0, .int .i64 0] 40)) w.heap.size [.int .i64 0, .int .i64 0] 40 := Loc.new _ _ _
  go_enter Tryd.func18, Tryd.ntmps18
  go_wp2_with first | (go_at_call 22; refine (un_at (hH _)).mono ?_; rintro e w' ⟨rfl, rfl⟩) | ((go_at_call 46; refine (un_peek (hH _)).mono ?_; rintro e w' ⟨rfl, nq, rfl⟩); have hU0 := (hH (.cells #[.int .i64 0, .int .i64 0] 40)).drewN nq) | ((go_at_call 57; refine (given_zero _).mono ?_; rintro e w1 ⟨rfl, hF1⟩); have hU1 := hU0.fr hF1; have hA1 := hU1.alloc; have hL1 := ((hL.drewN nq).fr hF1 (by simp))) | ((go_at_call 14; refine (un_s (hA1 _) _).mono ?_; rintro e w2 ⟨rfl, hF2⟩; have hU2 := Un.fr (hA1 _) hF2); have hL2 := (hL1.alloc _).fr hF2 (by simp); have hLC2 := hL2.cell; have hLF2 := hL2.frz; have hLT2 := hL2.lt) | (go_at_call 58; refine (un_told_heap hU2 ⟨13, 0⟩).mono ?_; rintro e w3 ⟨rfl, hF3⟩; have hL3 := hL2.fr hF3 (by simp); have hLC3 := hL3.cell; have hLF3 := hL3.frz; have hLT3 := hL3.lt)
  have f1 := Fr.trans (a := w) (by repeat (first | (with_reducible exact Fr.refl _ _) | (with_reducible assumption) | (with_reducible apply Fr.alloc) | (with_reducible apply Fr.drew) | (with_reducible apply Fr.drewN) | (with_reducible refine Fr.setCell ?_ (by first | (left; simp; done) | (right; simp; done) | (right; simp; omega)) _))) hF1
  have f2 := Fr.trans (a := w) (by repeat (first | (with_reducible exact Fr.refl _ _) | (with_reducible assumption) | (with_reducible apply Fr.alloc) | (with_reducible apply Fr.drew) | (with_reducible apply Fr.drewN) | (with_reducible refine Fr.setCell ?_ (by first | (left; simp; done) | (right; simp; done) | (right; simp; omega)) _))) hF2
  have f3 := f2.trans hF3
  refine ret_cell rfl rfl ((hL3.set 0 _).set 1 _) und_heap rfl size_heap rfl ⟨rfl, ?_⟩
  repeat (first | (with_reducible exact Fr.refl _ _) | (with_reducible assumption) | (with_reducible apply Fr.alloc) | (with_reducible apply Fr.drew) | (with_reducible apply Fr.drewN) | (with_reducible refine Fr.setCell ?_ (by first | (left; simp; done) | (right; simp; done) | (right; simp; omega)) _))
set_option maxRecDepth 100000 in set_option maxHeartbeats 400000 in
theorem un_val {w : World} {r : Option Addr} (h : Un w r) : Calls Tryd.prog 19 #[.pointer r] w fun e w' => e = .returned (valV ⟨0, false, ⟨0, 0⟩⟩) ∧ Fr [] w w' := by
  have hH := fun o => h.alloc o
  have hL : Loc (w.alloc (.cells #[.int .i64 0, .bool false, .int .i64 0, .int .i64 0] 44)) w.heap.size [.int .i64 0, .bool false, .int .i64 0, .int .i64 0] 44 := Loc.new _ _ _
  go_enter Tryd.func19, Tryd.ntmps19
  go_wp2_with first | (go_at_call 22; refine (un_at (hH _)).mono ?_; rintro e w' ⟨rfl, rfl⟩) | (go_at_call 12; refine (un_byte (hH _)).mono ?_; rintro e w0 ⟨rfl, hF0⟩; have hU0 := Un.fr (hH _) hF0) | ((go_at_call 57; refine (given_zero _).mono ?_; rintro e w1 ⟨rfl, hF1⟩); have hU1 := hU0.fr hF1; have hA1 := hU1.alloc; have hL1 := ((hL.fr hF0 (by simp)).fr hF1 (by simp)); have hLC1 := hL1.cell; have hLF1 := hL1.frz; have hLT1 := hL1.lt) | (go_at_call 60; refine (un_form (hA1 _) _).mono ?_; rintro e w' ⟨rfl, rfl⟩)
  have f0 := Fr.trans (a := w) (by repeat (first | (with_reducible exact Fr.refl _ _) | (with_reducible assumption) | (with_reducible apply Fr.alloc) | (with_reducible apply Fr.drew) | (with_reducible apply Fr.drewN) | (with_reducible refine Fr.setCell ?_ (by first | (left; simp; done) | (right; simp; done) | (right; simp; omega)) _))) hF0
  have f1 := f0.trans hF1
  refine ret_cell rfl rfl (((((hL1.set 0 _).set 1 _).set 2 _).set 3 _).alloc _) und_val rfl size_val rfl ⟨rfl, ?_⟩
  repeat (first | (with_reducible exact Fr.refl _ _) | (with_reducible assumption) | (with_reducible apply Fr.alloc) | (with_reducible apply Fr.drew) | (with_reducible apply Fr.drewN) | (with_reducible refine Fr.setCell ?_ (by first | (left; simp; done) | (right; simp; done) | (right; simp; omega)) _))
set_option maxRecDepth 100000 in set_option maxHeartbeats 400000 in
theorem un_comp {w : World} {r : Option Addr} (h : Un w r) : Calls Tryd.prog 102 #[.pointer r] w fun e w' => e = .returned (.agg #[.int .i64 0, .slice none 0 0, .slice none 0 0, .slice none 0 0]) ∧ Fr [] w w' := by
  have hH := fun o => h.alloc o
  have hL : Loc (w.alloc (.cells #[.int .i64 0, .slice none 0 0, .slice none 0 0, .slice none 0 0] 58)) w.heap.size [.int .i64 0, .slice none 0 0, .slice none 0 0, .slice none 0 0] 58 := Loc.new _ _ _
  go_enter Tryd.func102, Tryd.ntmps102
  go_wp2_with first | (go_at_call 22; refine (un_at (hH _)).mono ?_; rintro e w' ⟨rfl, rfl⟩) | ((go_at_call 12; refine (un_byte (hH _)).mono ?_; rintro e w0 ⟨rfl, hF0⟩; have hU0 := Un.fr (hH _) hF0); have hL0 := hL.fr hF0 (by simp); have hLC0 := hL0.cell; have hLF0 := hL0.frz; have hLT0 := hL0.lt) | (go_at_call 60; refine (un_form hU0 _).mono ?_; rintro e w' ⟨rfl, rfl⟩)
  have f0 := Fr.trans (a := w) (by repeat (first | (with_reducible exact Fr.refl _ _) | (with_reducible assumption) | (with_reducible apply Fr.alloc) | (with_reducible apply Fr.drew) | (with_reducible apply Fr.drewN) | (with_reducible refine Fr.setCell ?_ (by first | (left; simp; done) | (right; simp; done) | (right; simp; omega)) _))) hF0
  refine ret_cell rfl rfl ((((hL0.set 0 _).set 1 _).set 2 _).set 3 _) und_comp rfl size_comp rfl ⟨rfl, ?_⟩
  repeat (first | (with_reducible exact Fr.refl _ _) | (with_reducible assumption) | (with_reducible apply Fr.alloc) | (with_reducible apply Fr.drew) | (with_reducible apply Fr.drewN) | (with_reducible refine Fr.setCell ?_ (by first | (left; simp; done) | (right; simp; done) | (right; simp; omega)) _))
set_option maxRecDepth 100000 in set_option maxHeartbeats 400000 in
theorem un_sub {w : World} {r : Option Addr} (h : Un w r) : Calls Tryd.prog 63 #[.pointer r] w fun e w' => e = .returned (.agg #[.bool false, .slice none 0 0, .int .i64 0, .slice none 0 0, .slice none 0 0, .slice none 0 0]) ∧ Fr [] w w' := by
  have hH := fun o o' => (h.alloc o).alloc o'
  have hHD := fun o o' n => ((h.alloc o).alloc o').drewN n
  have hA : Loc ((w.alloc (.cells #[.bool false, .slice none 0 0, .int .i64 0, .slice none 0 0, .slice none 0 0, .slice none 0 0] 60)).alloc (.cells #[.bool true, .slice none 0 0, .int .i64 0, .slice none 0 0, .slice none 0 0, .slice none 0 0] 60)) w.heap.size [.bool false, .slice none 0 0, .int .i64 0, .slice none 0 0, .slice none 0 0, .slice none 0 0] 60 := (Loc.new _ _ _).alloc _
  have hB : Loc ((w.alloc (.cells #[.bool false, .slice none 0 0, .int .i64 0, .slice none 0 0, .slice none 0 0, .slice none 0 0] 60)).alloc (.cells #[.bool true, .slice none 0 0, .int .i64 0, .slice none 0 0, .slice none 0 0, .slice none 0 0] 60)) (w.heap.size + 1) [.bool true, .slice none 0 0, .int .i64 0, .slice none 0 0, .slice none 0 0, .slice none 0 0] 60 := by
    have h1 := Loc.new (w.alloc (.cells #[.bool false, .slice none 0 0, .int .i64 0, .slice none 0 0, .slice none 0 0, .slice none 0 0] 60)) [.bool true, .slice none 0 0, .int .i64 0, .slice none 0 0, .slice none 0 0, .slice none 0 0] 60
    rw [World.size_alloc] at h1
    exact h1
  go_enter Tryd.func63, Tryd.ntmps63
  go_wp2_with first | (go_at_call 46; refine (un_peek (hH _ _)).mono ?_; rintro e w' ⟨rfl, nq, rfl⟩) | (go_at_call 102; refine (un_comp (hHD _ _ _)).mono ?_; rintro e w1 ⟨rfl, hF1⟩; have hU1 := (hHD (.cells #[.bool false, .slice none 0 0, .int .i64 0, .slice none 0 0, .slice none 0 0, .slice none 0 0] 60) (.cells #[.bool true, .slice none 0 0, .int .i64 0, .slice none 0 0, .slice none 0 0, .slice none 0 0] 60) nq).fr hF1; have hA1 := (hA.drewN nq).fr hF1 (by simp); have hB1 := (hB.drewN nq).fr hF1 (by simp); have hLC1 := hA1.cell; have hLF1 := hA1.frz; have hLT1 := hA1.lt; have hLC2 := hB1.cell; have hLF2 := hB1.frz; have hLT2 := hB1.lt) | fail
  have f1 := Fr.trans (a := w) (by repeat (first | (with_reducible exact Fr.refl _ _) | (with_reducible assumption) | (with_reducible apply Fr.alloc) | (with_reducible apply Fr.drew) | (with_reducible apply Fr.drewN) | (with_reducible refine Fr.setCell ?_ (by first | (left; simp; done) | (right; simp; done) | (right; simp; omega)) _))) hF1
  have hUs : ∀ v2 v3 v4 v5, Un ((((w1.setCell ⟨w.heap.size + 1, 2, none⟩ v2).setCell ⟨w.heap.size + 1, 3, none⟩ v3).setCell ⟨w.heap.size + 1, 4, none⟩ v4).setCell ⟨w.heap.size + 1, 5, none⟩ v5) r := fun v2 v3 v4 v5 => h.fr (by repeat (first | (with_reducible exact Fr.refl _ _) | (with_reducible assumption) | (with_reducible apply Fr.alloc) | (with_reducible apply Fr.drew) | (with_reducible apply Fr.drewN) | (with_reducible refine Fr.setCell ?_ (by first | (left; simp; done) | (right; simp; done) | (right; simp; omega)) _)))
  have hA2 : ∀ v2 v3 v4 v5, Loc ((((w1.setCell ⟨w.heap.size + 1, 2, none⟩ v2).setCell ⟨w.heap.size + 1, 3, none⟩ v3).setCell ⟨w.heap.size + 1, 4, none⟩ v4).setCell ⟨w.heap.size + 1, 5, none⟩ v5) w.heap.size _ _ := fun v2 v3 v4 v5 => (((hA1.set' (by simp) v2).set' (by simp) v3).set' (by simp) v4).set' (by simp) v5
  go_wp2_with (go_at_call 103; refine (un_told_sub (hUs _ _ _ _) _ _ _ _ _ _).mono ?_; rintro e w3 ⟨rfl, hF3⟩; have hA3 := (hA2 _ _ _ _).fr hF3 (by simp); have hLC3 := hA3.cell; have hLF3 := hA3.frz; have hLT3 := hA3.lt)
  have f3 := Fr.trans (a := w) (by repeat (first | (with_reducible exact Fr.refl _ _) | (with_reducible assumption) | (with_reducible apply Fr.alloc) | (with_reducible apply Fr.drew) | (with_reducible apply Fr.drewN) | (with_reducible refine Fr.setCell ?_ (by first | (left; simp; done) | (right; simp; done) | (right; simp; omega)) _))) hF3
  refine ret_cell rfl rfl ((((((hA3.set 0 _).set 1 _).set 2 _).set 3 _).set 4 _).set 5 _) und_sub rfl size_sub rfl ⟨rfl, ?_⟩
  repeat (first | (with_reducible exact Fr.refl _ _) | (with_reducible assumption) | (with_reducible apply Fr.alloc) | (with_reducible apply Fr.drew) | (with_reducible apply Fr.drewN) | (with_reducible refine Fr.setCell ?_ (by first | (left; simp; done) | (right; simp; done) | (right; simp; omega)) _))
set_option maxRecDepth 100000 in set_option maxHeartbeats 400000 in
theorem un_rec {w : World} {r : Option Addr} (h : Un w r) : Calls Tryd.prog 21 #[.pointer r] w fun e w' => e = .returned (.slice none 0 0) ∧ Fr [] w w' := by
  go_enter Tryd.func21, Tryd.ntmps21
  go_wp2_with first | (go_at_call 46; refine (un_peek h).mono ?_; rintro e w' ⟨rfl, nq, rfl⟩) | (go_at_call 63; refine (un_sub (h.drewN nq)).mono ?_; rintro e w1 ⟨rfl, hF1⟩; have hU1 := (h.drewN nq).fr hF1; have hUA := hU1.alloc) | (go_at_call 64; refine (un_told_subs (hUA _) _).mono ?_; rintro e w' ⟨rfl, rfl⟩)
  have f1 := Fr.trans (a := w) (by repeat (first | (with_reducible exact Fr.refl _ _) | (with_reducible assumption) | (with_reducible apply Fr.alloc) | (with_reducible apply Fr.drew) | (with_reducible apply Fr.drewN) | (with_reducible refine Fr.setCell ?_ (by first | (left; simp; done) | (right; simp; done) | (right; simp; omega)) _))) hF1
  go_ret
  exact ⟨rfl, by repeat (first | (with_reducible exact Fr.refl _ _) | (with_reducible assumption) | (with_reducible apply Fr.alloc) | (with_reducible apply Fr.drew) | (with_reducible apply Fr.drewN) | (with_reducible refine Fr.setCell ?_ (by first | (left; simp; done) | (right; simp; done) | (right; simp; omega)) _))⟩
end Go.Proofs.YtokneepfknepaaaDoor
