/- The walk of the law TbinNone. -/
import Derived.Test.YtokneepfknepaaaDoorNoneW2
import Derived.Test.YtokneepfknepaaaDoorKnownW
namespace Go.Proofs.YtokneepfknepaaaDoor
open Go.RowKit

set_option maxRecDepth 100000 in set_option maxHeartbeats 1600000 in
theorem tbinNone_any {w : World} (hg : Gl [] w) (n e0 : Int) : Calls Tryd.prog 3 #[.int .i64 n, .int .i64 e0] w fun e w' => e = .returned (.bool true) ∧ Fr [] w w' := by
  have hgl := hg.lt
  go_enter Tryd.func3, Tryd.ntmps3
  go_wp2
  go_loopw [7] (fun i wr => ∃ k : Nat, k ≤ 2 ∧ i = .int .i64 k ∧ Fr [] ((w.alloc (.cells #[.int .i64 0, .int .i64 0, .int .i64 0, .slice none 0 0, .pointer none] 28)).alloc (.cells #[.pointer none, .pointer (some ⟨w.heap.size, 0, none⟩)] 29)) wr) (fun i _ => (2 - intOf i).toNat)
  case atStart => exact ⟨0, by omega, rfl, Fr.refl _ _⟩
  case round =>
    obtain ⟨k, hk, rfl, hF⟩ := hrel
    have hA := Loc.fr (w := (w.alloc (.cells #[.int .i64 0, .int .i64 0, .int .i64 0, .slice none 0 0, .pointer none] 28)).alloc (.cells #[.pointer none, .pointer (some ⟨w.heap.size, 0, none⟩)] 29)) (b := w.heap.size + 1) (c := [.pointer none, .pointer (some ⟨w.heap.size, 0, none⟩)]) (T := 29) (by
      have h1 := Loc.new (w.alloc (.cells #[.int .i64 0, .int .i64 0, .int .i64 0, .slice none 0 0, .pointer none] 28)) [.pointer none, .pointer (some ⟨w.heap.size, 0, none⟩)] 29
      rw [World.size_alloc] at h1
      exact h1) hF (by simp)
    have hB := Loc.fr (w := (w.alloc (.cells #[.int .i64 0, .int .i64 0, .int .i64 0, .slice none 0 0, .pointer none] 28)).alloc (.cells #[.pointer none, .pointer (some ⟨w.heap.size, 0, none⟩)] 29)) (b := w.heap.size) (c := unCells) (T := 28) ((Loc.new _ _ _).alloc _) hF (by simp)
    have hgr := (hg.alloc (.cells #[.int .i64 0, .int .i64 0, .int .i64 0, .slice none 0 0, .pointer none] 28)).alloc (.cells #[.pointer none, .pointer (some ⟨w.heap.size, 0, none⟩)] 29) |>.fr hF (by simp)
    have hf0 : Fr [] w wr := Fr.trans (by repeat (first | (with_reducible exact Fr.refl _ _) | (with_reducible assumption) | (with_reducible apply Fr.alloc) | (with_reducible apply Fr.drew) | (with_reducible apply Fr.drewN) | (with_reducible refine Fr.setCell ?_ (by first | (left; simp; done) | (right; simp; done) | (right; simp; omega)) _))) hF
    by_cases h2 : k < 2
    · have hlt : (k : Int) < 2 := by omega
      rcases (show k = 0 ∨ k = 1 by omega) with rfl | rfl
      · have hU0 : Un wr none := .inl rfl
        have hLC0 := hA.cell; have hLF0 := hA.frz; have hLT0 := hA.lt
        go_wp2_with first | (go_at_call 11; refine (un_fail hU0 _ _).mono ?_; rintro e w' ⟨rfl, rfl⟩) | (go_at_call 12; refine (un_byte hU0).mono ?_; rintro e w1 ⟨rfl, hF1⟩; have hU1 := Un.fr hU0 hF1) | (go_at_call 13; refine (un_u hU1 _).mono ?_; rintro e w2 ⟨rfl, hF2⟩; have hU2 := Un.fr hU1 hF2) | (go_at_call 14; refine (un_s hU2 _).mono ?_; rintro e w3 ⟨rfl, hF3⟩; have hU3 := Un.fr hU2 hF3) | (go_at_call 15; refine (un_name hU3).mono ?_; rintro e w' ⟨rfl, rfl⟩) | (go_at_call 16; refine (un_count hU3).mono ?_; rintro e w4 ⟨rfl, hF4⟩; have hU4 := Un.fr hU3 hF4) | (go_at_call 17; refine (un_take hU4 _).mono ?_; rintro e w' ⟨rfl, rfl⟩) | (go_at_call 18; refine (un_heap hU4).mono ?_; rintro e w5 ⟨rfl, hF5⟩; have hU5 := Un.fr hU4 hF5) | (go_at_call 19; refine (un_val hU5).mono ?_; rintro e w6 ⟨rfl, hF6⟩; have hU6 := Un.fr hU5 hF6) | (go_at_call 20; refine (un_vals hU6).mono ?_; rintro e w7 ⟨rfl, hF7⟩; have hU7 := Un.fr hU6 hF7) | (go_at_call 21; refine (un_rec hU7).mono ?_; rintro e w8 ⟨rfl, hF8⟩; have hU8 := Un.fr hU7 hF8) | (go_at_call 22; refine (un_at hU8).mono ?_; rintro e w' ⟨rfl, rfl⟩) | (go_at_call 23; refine (un_left hU8).mono ?_; rintro e w' ⟨rfl, rfl⟩) | (go_at_call 24; refine (un_err hU8).mono ?_; rintro e w' ⟨rfl, rfl⟩)
        have z : Fr [] ((w.alloc (.cells #[.int .i64 0, .int .i64 0, .int .i64 0, .slice none 0 0, .pointer none] 28)).alloc (.cells #[.pointer none, .pointer (some ⟨w.heap.size, 0, none⟩)] 29)) w8 := by
          have := ((((((hF1.trans hF2).trans hF3).trans hF4).trans hF5).trans hF6).trans hF7).trans hF8
          exact hF.trans this
        go_roundw
        case rel => exact ⟨1, by omega, rfl, z⟩
        case measure => simp [intOf]
      · have hU0 : Un wr (some ⟨w.heap.size, 0, none⟩) := .inr ⟨_, rfl, hB⟩
        have hLC0 := hA.cell; have hLF0 := hA.frz; have hLT0 := hA.lt
        go_wp2_with first | (go_at_call 11; refine (un_fail hU0 _ _).mono ?_; rintro e w' ⟨rfl, rfl⟩) | (go_at_call 12; refine (un_byte hU0).mono ?_; rintro e w1 ⟨rfl, hF1⟩; have hU1 := Un.fr hU0 hF1) | (go_at_call 13; refine (un_u hU1 _).mono ?_; rintro e w2 ⟨rfl, hF2⟩; have hU2 := Un.fr hU1 hF2) | (go_at_call 14; refine (un_s hU2 _).mono ?_; rintro e w3 ⟨rfl, hF3⟩; have hU3 := Un.fr hU2 hF3) | (go_at_call 15; refine (un_name hU3).mono ?_; rintro e w' ⟨rfl, rfl⟩) | (go_at_call 16; refine (un_count hU3).mono ?_; rintro e w4 ⟨rfl, hF4⟩; have hU4 := Un.fr hU3 hF4) | (go_at_call 17; refine (un_take hU4 _).mono ?_; rintro e w' ⟨rfl, rfl⟩) | (go_at_call 18; refine (un_heap hU4).mono ?_; rintro e w5 ⟨rfl, hF5⟩; have hU5 := Un.fr hU4 hF5) | (go_at_call 19; refine (un_val hU5).mono ?_; rintro e w6 ⟨rfl, hF6⟩; have hU6 := Un.fr hU5 hF6) | (go_at_call 20; refine (un_vals hU6).mono ?_; rintro e w7 ⟨rfl, hF7⟩; have hU7 := Un.fr hU6 hF7) | (go_at_call 21; refine (un_rec hU7).mono ?_; rintro e w8 ⟨rfl, hF8⟩; have hU8 := Un.fr hU7 hF8) | (go_at_call 22; refine (un_at hU8).mono ?_; rintro e w' ⟨rfl, rfl⟩) | (go_at_call 23; refine (un_left hU8).mono ?_; rintro e w' ⟨rfl, rfl⟩) | (go_at_call 24; refine (un_err hU8).mono ?_; rintro e w' ⟨rfl, rfl⟩)
        have z : Fr [] ((w.alloc (.cells #[.int .i64 0, .int .i64 0, .int .i64 0, .slice none 0 0, .pointer none] 28)).alloc (.cells #[.pointer none, .pointer (some ⟨w.heap.size, 0, none⟩)] 29)) w8 := by
          have := ((((((hF1.trans hF2).trans hF3).trans hF4).trans hF5).trans hF6).trans hF7).trans hF8
          exact hF.trans this
        go_roundw
        case rel => exact ⟨2, by omega, rfl, z⟩
        case measure => simp [intOf]
    · obtain rfl : k = 2 := by omega
      go_wp2_with (go_at_call 25; refine (known6 hgr).mono ?_; rintro e w1 ⟨rfl, hF1⟩)
      go_ret
      exact ⟨rfl, hf0.trans hF1⟩
end Go.Proofs.YtokneepfknepaaaDoor
