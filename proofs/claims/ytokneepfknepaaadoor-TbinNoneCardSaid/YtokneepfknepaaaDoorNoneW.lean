/- The walks of layer 6: a reader that is not there, or that was not made. -/
import Derived.Test.YtokneepfknepaaaDoorRdWC
namespace Go.Proofs.YtokneepfknepaaaDoor
open Go.RowKit

def unCells : List Value := [.int .i64 0, .int .i64 0, .int .i64 0, .slice none 0 0, .pointer none]
def Un (w : World) (r : Option Addr) : Prop := r = none ∨ ∃ rb, r = some ⟨rb, 0, none⟩ ∧ Loc w rb unCells 28
theorem Un.fr {w w' : World} {r : Option Addr} (h : Un w r) (hf : Fr [] w w') : Un w' r := by
  rcases h with rfl | ⟨rb, rfl, hL⟩
  · exact .inl rfl
  · exact .inr ⟨rb, rfl, hL.fr hf (by simp)⟩
theorem Un.alloc {w : World} {r : Option Addr} (h : Un w r) (o : Obj) : Un (w.alloc o) r := h.fr ((Fr.refl _ _).alloc o)
theorem Un.drewN {w : World} {r : Option Addr} (h : Un w r) (n : Nat) : Un (w.drewN n) r := h.fr ((Fr.refl _ _).drewN n)

theorem eql_nil_rd (a : Addr) (w : World) : (binOp .eql 23 (.pointer none) (.pointer (some a))).run Tryd.prog w = .ok (.bool false) w := by kernel_rfl
theorem neq_nil_rd (a : Option Addr) (w : World) : (binOp .neq 23 (.pointer a) (.pointer none)).run Tryd.prog w = .ok (.bool a.isSome) w := by
  cases a <;> kernel_rfl
attribute [go_sem] eql_nil_rd


set_option maxRecDepth 100000 in set_option maxHeartbeats 400000 in
theorem un_made {w : World} {r : Option Addr} (h : Un w r) : Calls Tryd.prog 65 #[.pointer r] w fun e w' => e = .returned (.bool false) ∧ w = w' := by
  rcases h with rfl | ⟨rb, rfl, hL⟩
  · go_enter Tryd.func65, Tryd.ntmps65
    go_wp2
    go_ret
    exact ⟨rfl, rfl⟩
  · have hLC0 := hL.cell; have hLF0 := hL.frz; have hLT0 := hL.lt
    simp only [unCells] at hLC0
    go_enter Tryd.func65, Tryd.ntmps65
    go_wp2
    go_ret
    exact ⟨rfl, rfl⟩
set_option maxRecDepth 100000 in set_option maxHeartbeats 400000 in
theorem un_reads {w : World} {r : Option Addr} (h : Un w r) : Calls Tryd.prog 45 #[.pointer r] w fun e w' => e = .returned (.bool false) ∧ w = w' := by
  go_enter Tryd.func45, Tryd.ntmps45
  go_wp2_with (go_at_call 65; refine (un_made (by assumption)).mono ?_; rintro e w' ⟨rfl, rfl⟩)
  go_ret
  exact ⟨rfl, rfl⟩
set_option maxRecDepth 100000 in set_option maxHeartbeats 400000 in
theorem un_at {w : World} {r : Option Addr} (h : Un w r) : Calls Tryd.prog 22 #[.pointer r] w fun e w' => e = .returned (.int .i64 0) ∧ w = w' := by
  go_enter Tryd.func22, Tryd.ntmps22
  go_wp2_with (go_at_call 65; refine (un_made (by assumption)).mono ?_; rintro e w' ⟨rfl, rfl⟩)
  go_ret
  exact ⟨rfl, rfl⟩
set_option maxRecDepth 100000 in set_option maxHeartbeats 400000 in
theorem un_left {w : World} {r : Option Addr} (h : Un w r) : Calls Tryd.prog 23 #[.pointer r] w fun e w' => e = .returned (.int .i64 0) ∧ w = w' := by
  go_enter Tryd.func23, Tryd.ntmps23
  go_wp2_with (go_at_call 65; refine (un_made (by assumption)).mono ?_; rintro e w' ⟨rfl, rfl⟩)
  go_ret
  exact ⟨rfl, rfl⟩
set_option maxRecDepth 100000 in set_option maxHeartbeats 400000 in
theorem un_err {w : World} {r : Option Addr} (h : Un w r) : Calls Tryd.prog 24 #[.pointer r] w fun e w' => e = .returned (.tuple #[.int .i64 1, .int .i64 0]) ∧ w = w' := by
  go_enter Tryd.func24, Tryd.ntmps24
  go_wp2_with (go_at_call 65; refine (un_made (by assumption)).mono ?_; rintro e w' ⟨rfl, rfl⟩)
  go_ret2
  exact ⟨rfl, rfl⟩
set_option maxRecDepth 100000 in set_option maxHeartbeats 400000 in
theorem un_fail {w : World} {r : Option Addr} (h : Un w r) (e0 a0 : Int) : Calls Tryd.prog 11 #[.pointer r, .int .i64 e0, .int .i64 a0] w fun e w' => e = .returned (.tuple #[]) ∧ w = w' := by
  go_enter Tryd.func11, Tryd.ntmps11
  go_wp2_with (go_at_call 45; refine (un_reads h).mono ?_; rintro e w' ⟨rfl, rfl⟩)
  go_end0
  exact ⟨rfl, rfl⟩
set_option maxRecDepth 100000 in set_option maxHeartbeats 400000 in
theorem un_form {w : World} {r : Option Addr} (h : Un w r) (a0 : Int) : Calls Tryd.prog 60 #[.pointer r, .int .i64 a0] w fun e w' => e = .returned (.tuple #[]) ∧ w = w' := by
  go_enter Tryd.func60, Tryd.ntmps60
  go_wp2_with (go_at_call 45; refine (un_reads h).mono ?_; rintro e w' ⟨rfl, rfl⟩)
  go_end0
  exact ⟨rfl, rfl⟩
set_option maxRecDepth 100000 in set_option maxHeartbeats 400000 in
theorem un_peek {w : World} {r : Option Addr} (h : Un w r) : Calls Tryd.prog 46 #[.pointer r] w fun e w' => e = .returned (.tuple #[.int .u8 0, .bool false]) ∧ DrewN w w' := by
  go_enter Tryd.func46, Tryd.ntmps46
  go_wp2_with fail
  go_quiet ((go_at_call 45; exact Calls.quiet_of_same ((un_reads (h.drewN _)).mono fun e w' hh => ⟨hh.1, hh.2.symm⟩)))
  go_wp2
  go_ret2
  exact ⟨rfl, _, rfl⟩
set_option maxRecDepth 100000 in set_option maxHeartbeats 400000 in
theorem un_byte {w : World} {r : Option Addr} (h : Un w r) : Calls Tryd.prog 12 #[.pointer r] w fun e w' => e = .returned (.int .u8 0) ∧ Fr [] w w' := by
  have hd := h.drewN
  go_enter Tryd.func12, Tryd.ntmps12
  go_wp2_with first | (go_at_call 46; refine (un_peek h).mono ?_; rintro e w' ⟨rfl, nq, rfl⟩) | (go_at_call 22; refine (un_at (hd _)).mono ?_; rintro e w' ⟨rfl, rfl⟩) | (go_at_call 11; refine (un_fail (hd _) _ _).mono ?_; rintro e w' ⟨rfl, rfl⟩)
  go_ret
  exact ⟨rfl, by repeat (first | (with_reducible exact Fr.refl _ _) | (with_reducible assumption) | (with_reducible apply Fr.alloc) | (with_reducible apply Fr.drew) | (with_reducible apply Fr.drewN) | (with_reducible refine Fr.setCell ?_ (by first | (left; simp; done) | (right; simp; done) | (right; simp; omega)) _))⟩
set_option maxRecDepth 100000 in set_option maxHeartbeats 400000 in
theorem un_item_u {w : World} {r : Option Addr} (h : Un w r) (f : Value) : Calls Tryd.prog 47 #[.pointer r, f] w fun e w' => e = .returned (.int .u64 0) ∧ w = w' := by
  go_enter Tryd.func47, Tryd.ntmps47
  go_wp2_with (go_at_call 45; refine (un_reads h).mono ?_; rintro e w' ⟨rfl, rfl⟩)
  go_ret
  exact ⟨rfl, rfl⟩
set_option maxRecDepth 100000 in set_option maxHeartbeats 400000 in
theorem un_item_s {w : World} {r : Option Addr} (h : Un w r) (f : Value) : Calls Tryd.prog 50 #[.pointer r, f] w fun e w' => e = .returned (.int .i64 0) ∧ w = w' := by
  go_enter Tryd.func50, Tryd.ntmps50
  go_wp2_with (go_at_call 45; refine (un_reads h).mono ?_; rintro e w' ⟨rfl, rfl⟩)
  go_ret
  exact ⟨rfl, rfl⟩
set_option maxRecDepth 100000 in set_option maxHeartbeats 400000 in
theorem un_item_n {w : World} {r : Option Addr} (h : Un w r) (f : Value) : Calls Tryd.prog 53 #[.pointer r, f] w fun e w' => e = .returned (.string ⟨#[]⟩) ∧ w = w' := by
  go_enter Tryd.func53, Tryd.ntmps53
  go_wp2_with (go_at_call 45; refine (un_reads h).mono ?_; rintro e w' ⟨rfl, rfl⟩)
  go_ret
  exact ⟨rfl, rfl⟩
set_option maxRecDepth 100000 in set_option maxHeartbeats 400000 in
theorem un_u {w : World} {r : Option Addr} (h : Un w r) (nb : Int) : Calls Tryd.prog 13 #[.pointer r, .int .i64 nb] w fun e w' => e = .returned (.int .u64 0) ∧ Fr [] w w' := by
  have hmf : ∀ (fn : Fn) (first cap : Array Value) (w : World), (Instr.makeFunc fn first cap).run Tryd.prog w = .ok (.func fn first cap) w := fun _ _ _ _ => rfl
  have hH := h.alloc
  go_enter Tryd.func13, Tryd.ntmps13
  go_wp2_with (go_at_call 47; refine (un_item_u (hH _) _).mono ?_; rintro e w' ⟨rfl, rfl⟩)
  go_ret
  exact ⟨rfl, by repeat (first | (with_reducible exact Fr.refl _ _) | (with_reducible assumption) | (with_reducible apply Fr.alloc) | (with_reducible apply Fr.drew) | (with_reducible apply Fr.drewN) | (with_reducible refine Fr.setCell ?_ (by first | (left; simp; done) | (right; simp; done) | (right; simp; omega)) _))⟩
set_option maxRecDepth 100000 in set_option maxHeartbeats 400000 in
theorem un_s {w : World} {r : Option Addr} (h : Un w r) (nb : Int) : Calls Tryd.prog 14 #[.pointer r, .int .i64 nb] w fun e w' => e = .returned (.int .i64 0) ∧ Fr [] w w' := by
  have hmf : ∀ (fn : Fn) (first cap : Array Value) (w : World), (Instr.makeFunc fn first cap).run Tryd.prog w = .ok (.func fn first cap) w := fun _ _ _ _ => rfl
  have hH := h.alloc
  go_enter Tryd.func14, Tryd.ntmps14
  go_wp2_with (go_at_call 50; refine (un_item_s (hH _) _).mono ?_; rintro e w' ⟨rfl, rfl⟩)
  go_ret
  exact ⟨rfl, by repeat (first | (with_reducible exact Fr.refl _ _) | (with_reducible assumption) | (with_reducible apply Fr.alloc) | (with_reducible apply Fr.drew) | (with_reducible apply Fr.drewN) | (with_reducible refine Fr.setCell ?_ (by first | (left; simp; done) | (right; simp; done) | (right; simp; omega)) _))⟩
set_option maxRecDepth 100000 in set_option maxHeartbeats 400000 in
theorem un_name {w : World} {r : Option Addr} (h : Un w r) : Calls Tryd.prog 15 #[.pointer r] w fun e w' => e = .returned (.string ⟨#[]⟩) ∧ w = w' := by
  go_enter Tryd.func15, Tryd.ntmps15
  go_wp2_with (go_at_call 53; refine (un_item_n h _).mono ?_; rintro e w' ⟨rfl, rfl⟩)
  go_ret
  exact ⟨rfl, rfl⟩
set_option maxRecDepth 100000 in set_option maxHeartbeats 400000 in
theorem un_count {w : World} {r : Option Addr} (h : Un w r) : Calls Tryd.prog 16 #[.pointer r] w fun e w' => e = .returned (.int .i64 0) ∧ Fr [] w w' := by
  go_enter Tryd.func16, Tryd.ntmps16
  go_wp2_with first | (go_at_call 22; refine (un_at h).mono ?_; rintro e w' ⟨rfl, rfl⟩) | (go_at_call 13; refine (un_u h _).mono ?_; rintro e w1 ⟨rfl, hF1⟩; have hU1 := Un.fr h hF1) | (go_at_call 23; refine (un_left hU1).mono ?_; rintro e w' ⟨rfl, rfl⟩)
  go_ret
  exact ⟨rfl, hF1⟩
set_option maxRecDepth 100000 in set_option maxHeartbeats 400000 in
theorem un_take {w : World} {r : Option Addr} (h : Un w r) (n : Int) : Calls Tryd.prog 17 #[.pointer r, .int .i64 n] w fun e w' => e = .returned (.slice none 0 0) ∧ w = w' := by
  go_enter Tryd.func17, Tryd.ntmps17
  go_wp2_with (go_at_call 45; refine (un_reads h).mono ?_; rintro e w' ⟨rfl, rfl⟩)
  go_ret
  exact ⟨rfl, rfl⟩
set_option maxRecDepth 100000 in set_option maxHeartbeats 400000 in
theorem un_told_vals {w : World} {r : Option Addr} (h : Un w r) (v : Value) : Calls Tryd.prog 99 #[.pointer r, v] w fun e w' => e = .returned (.slice none 0 0) ∧ w = w' := by
  go_enter Tryd.func99, Tryd.ntmps99
  go_wp2_with (go_at_call 45; refine (un_reads h).mono ?_; rintro e w' ⟨rfl, rfl⟩)
  go_ret
  exact ⟨rfl, rfl⟩
set_option maxRecDepth 100000 in set_option maxHeartbeats 400000 in
theorem un_told_subs {w : World} {r : Option Addr} (h : Un w r) (v : Value) : Calls Tryd.prog 64 #[.pointer r, v] w fun e w' => e = .returned (.slice none 0 0) ∧ w = w' := by
  go_enter Tryd.func64, Tryd.ntmps64
  go_wp2_with (go_at_call 45; refine (un_reads h).mono ?_; rintro e w' ⟨rfl, rfl⟩)
  go_ret
  exact ⟨rfl, rfl⟩
set_option maxRecDepth 100000 in set_option maxHeartbeats 400000 in
theorem un_told_heap {w : World} {r : Option Addr} (h : Un w r) (x : HeapT) : Calls Tryd.prog 58 #[.pointer r, heapV x] w fun e w' => e = .returned (heapV ⟨0, 0⟩) ∧ Fr [] w w' := by
  have hR := fun o1 o2 => (h.alloc o1).alloc o2
  unfold heapV
  go_enter Tryd.func58, Tryd.ntmps58
  go_wp2_with (go_at_call 45; refine (un_reads (hR _ _)).mono ?_; rintro e w' ⟨rfl, rfl⟩)
  refine bodyPost_ret (v := heapV ⟨0, 0⟩) (by simp [results, Tryd.results58, go_sem]) rfl ⟨rfl, ?_⟩
  repeat (first | (with_reducible exact Fr.refl _ _) | (with_reducible assumption) | (with_reducible apply Fr.alloc) | (with_reducible apply Fr.drew) | (with_reducible apply Fr.drewN) | (with_reducible refine Fr.setCell ?_ (by first | (left; simp; done) | (right; simp; done) | (right; simp; omega)) _))
set_option maxRecDepth 100000 in set_option maxHeartbeats 400000 in
theorem un_told_sub {w : World} {r : Option Addr} (h : Un w r) (c0 c1 c2 c3 c4 c5 : Value) : Calls Tryd.prog 103 #[.pointer r, .agg #[c0, c1, c2, c3, c4, c5]] w fun e w' =>
    e = .returned (.agg #[.bool false, .slice none 0 0, .int .i64 0, .slice none 0 0, .slice none 0 0, .slice none 0 0]) ∧ Fr [] w w' := by
  have hR := fun o1 o2 => (h.alloc o1).alloc o2
  go_enter Tryd.func103, Tryd.ntmps103
  go_wp2_with (go_at_call 45; refine (un_reads (hR _ _)).mono ?_; rintro e w' ⟨rfl, rfl⟩)
  refine bodyPost_ret (v := .agg #[.bool false, .slice none 0 0, .int .i64 0, .slice none 0 0, .slice none 0 0, .slice none 0 0]) (by simp [results, Tryd.results103, go_sem]) rfl ⟨rfl, ?_⟩
  repeat (first | (with_reducible exact Fr.refl _ _) | (with_reducible assumption) | (with_reducible apply Fr.alloc) | (with_reducible apply Fr.drew) | (with_reducible apply Fr.drewN) | (with_reducible refine Fr.setCell ?_ (by first | (left; simp; done) | (right; simp; done) | (right; simp; omega)) _))
set_option maxRecDepth 100000 in set_option maxHeartbeats 400000 in
theorem un_list_val {w : World} {r : Option Addr} (h : Un w r) (f : Value) : Calls Tryd.prog 61 #[.pointer r, f] w fun e w' => e = .returned (.slice none 0 0) ∧ Fr [] w w' := by
  go_enter Tryd.func61, Tryd.ntmps61
  go_wp2_with (go_at_call 16; refine (un_count h).mono ?_; rintro e w1 ⟨rfl, hF1⟩; have hU1 := Un.fr h hF1)
  refine wp_loop_rounds 1 ?_
  rw [rounds_succ]
  go_wp2_with (go_at_call 99; refine (un_told_vals hU1 _).mono ?_; rintro e w' ⟨rfl, rfl⟩)
  go_ret
  exact ⟨rfl, hF1⟩
set_option maxRecDepth 100000 in set_option maxHeartbeats 400000 in
theorem un_vals {w : World} {r : Option Addr} (h : Un w r) : Calls Tryd.prog 20 #[.pointer r] w fun e w' => e = .returned (.slice none 0 0) ∧ Fr [] w w' := by
  have hmf : ∀ (fn : Fn) (first cap : Array Value) (w : World), (Instr.makeFunc fn first cap).run Tryd.prog w = .ok (.func fn first cap) w := fun _ _ _ _ => rfl
  go_enter Tryd.func20, Tryd.ntmps20
  go_wp2_with (go_at_call 61; refine (un_list_val h _).mono ?_; rintro e w1 ⟨rfl, hF1⟩)
  go_ret
  exact ⟨rfl, hF1⟩
end Go.Proofs.YtokneepfknepaaaDoor
