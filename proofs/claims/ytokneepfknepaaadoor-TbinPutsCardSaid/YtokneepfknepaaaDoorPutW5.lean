/- The walks of layer 6: fields are put. -/
import Derived.Test.YtokneepfknepaaaDoorPutW4
set_option linter.unusedSimpArgs false
set_option linter.unusedVariables false
namespace Go.Proofs.YtokneepfknepaaaDoor
open Go.RowKit

theorem pVal_len (t : ValT) (hk : t.heap.ok) : (pVal t).length ≤ 13 := by
  have := pHeap_len t.heap hk.2.1 hk.2.2
  unfold pVal
  split
  · simp
  · split
    · simp
    · split
      · simp; omega
      · split
        · simp; omega
        · omega

set_option maxRecDepth 100000 in
set_option maxHeartbeats 1600000 in
theorem putField_any {w : World} (v : Value) (hg : Gl (Value.blk v) w) (xs : List UInt8) (f : FieldT) (ho : Out w v xs) (hk : f.val.heap.ok) (hx : xs.length + 32 ≤ 70368744177664) :
    Calls Tryd.prog 112 #[v, fieldV f] w fun e w' => ∃ v', e = .returned v' ∧ Out w' v' (xs ++ pField f) ∧ Ap w v w' v' := by
  have hsz := fun o => World.size_alloc w o
  have hvl := pVal_len f.val hk
  obtain ⟨fp, ft, fm⟩ := f
  unfold fieldV
  dsimp only at hk hvl ⊢
  have hL : Loc (w.alloc (.cells #[.int .i64 fp, .int .i64 ft.kind, .bool ft.null, .int .i64 ft.heap.kind, .int .i64 ft.heap.n, .bool fm] 155)) w.heap.size [.int .i64 fp, .int .i64 ft.kind, .bool ft.null, .int .i64 ft.heap.kind, .int .i64 ft.heap.n, .bool fm] 155 := Loc.new _ _ _
  have hblk : w.heap.size ∉ Value.blk v := fun hm => by have := (Own.blk_lt ho _ hm).1; omega
  have hoo := fun o => Out.alloc ho o
  have f1 := fun o => Ap.fr0 (v := v) ((Fr.refl [] w).alloc o)
  have hb1 : xs.length + 1 ≤ 140737488355328 := by omega
  have hx16 : xs.length + 16 ≤ 70368744177664 := by omega
  by_cases q8 : fp = 8
  · have g8 : (fp == 8) = true := by simpa using q8
    rcases fm.eq_false_or_eq_true with rfl | rfl
    · have hp : pField ⟨fp, ft, true⟩ = [120, 1] := by unfold pField; simp [q8]
      rw [hp]
      clear hp q8
      go_enter Tryd.func112, Tryd.ntmps112
      go_wp2_with first | ((at_builtin; refine app_u8 rfl (.tmp 15) (.tmp 16) _ rfl _ _ _ rfl (Out.alloc (hoo _) _) _ _ _ rfl (src_at und_bytes (hsz _) _ _ _ rfl) hb1 ?_; intro v3 w3 hown3 hf3 hb3); have ho3 := Out.app1 (c := 120) hown3; have hA3 := ((f1 _).alloc _).trans (Ap.of hf3 hb3); have hL3 := (hL.alloc _).fr hf3 hblk; have hLC3 := hL3.cell; have hLF3 := hL3.frz; have hLT3 := hL3.lt; have hb2 : (xs ++ [(120 : UInt8)]).length + 1 ≤ 140737488355328 := by simp; omega) | (at_builtin; refine app_u8 rfl (.tmp 25) (.tmp 26) _ rfl _ _ _ rfl (Out.alloc ho3 _) _ _ _ rfl (src_at und_bytes rfl _ _ _ rfl) hb2 ?_; intro v4 w4 hown4 hf4 hb4)
      go_ret
      have ho4 := Out.app1 (c := 1) hown4
      exact ⟨_, rfl, by simpa using ho4, (hA3.alloc _).trans (Ap.of hf4 hb4)⟩
    · have hp : pField ⟨fp, ft, false⟩ = [120, 0] := by unfold pField; simp [q8]
      rw [hp]
      clear hp q8
      go_enter Tryd.func112, Tryd.ntmps112
      go_wp2_with first | ((at_builtin; refine app_u8 rfl (.tmp 15) (.tmp 16) _ rfl _ _ _ rfl (Out.alloc (hoo _) _) _ _ _ rfl (src_at und_bytes (hsz _) _ _ _ rfl) hb1 ?_; intro v3 w3 hown3 hf3 hb3); have ho3 := Out.app1 (c := 120) hown3; have hA3 := ((f1 _).alloc _).trans (Ap.of hf3 hb3); have hL3 := (hL.alloc _).fr hf3 hblk; have hLC3 := hL3.cell; have hLF3 := hL3.frz; have hLT3 := hL3.lt; have hb2 : (xs ++ [(120 : UInt8)]).length + 1 ≤ 140737488355328 := by simp; omega) | (at_builtin; refine app_u8 rfl (.tmp 28) (.tmp 29) _ rfl _ _ _ rfl (Out.alloc ho3 _) _ _ _ rfl (src_at und_bytes rfl _ _ _ rfl) hb2 ?_; intro v4 w4 hown4 hf4 hb4)
      go_ret
      have ho4 := Out.app1 (c := 0) hown4
      exact ⟨_, rfl, by simpa using ho4, (hA3.alloc _).trans (Ap.of hf4 hb4)⟩
  · have g8 : (fp == 8) = false := by simpa using q8
    by_cases q16 : fp = 16
    · have g16 : (fp == 16) = true := by simpa using q16
      rcases fm.eq_false_or_eq_true with rfl | rfl
      · have hp : pField ⟨fp, ft, true⟩ = [119, 1] := by unfold pField; simp [q8, q16]
        rw [hp]
        clear hp q8 q16
        go_enter Tryd.func112, Tryd.ntmps112
        go_wp2_with first | ((at_builtin; refine app_u8 rfl (.tmp 20) (.tmp 21) _ rfl _ _ _ rfl (Out.alloc (hoo _) _) _ _ _ rfl (src_at und_bytes (hsz _) _ _ _ rfl) hb1 ?_; intro v3 w3 hown3 hf3 hb3); have ho3 := Out.app1 (c := 119) hown3; have hA3 := ((f1 _).alloc _).trans (Ap.of hf3 hb3); have hL3 := (hL.alloc _).fr hf3 hblk; have hLC3 := hL3.cell; have hLF3 := hL3.frz; have hLT3 := hL3.lt; have hb2 : (xs ++ [(119 : UInt8)]).length + 1 ≤ 140737488355328 := by simp; omega) | (at_builtin; refine app_u8 rfl (.tmp 25) (.tmp 26) _ rfl _ _ _ rfl (Out.alloc ho3 _) _ _ _ rfl (src_at und_bytes rfl _ _ _ rfl) hb2 ?_; intro v4 w4 hown4 hf4 hb4)
        go_ret
        have ho4 := Out.app1 (c := 1) hown4
        exact ⟨_, rfl, by simpa using ho4, (hA3.alloc _).trans (Ap.of hf4 hb4)⟩
      · have hp : pField ⟨fp, ft, false⟩ = [119, 0] := by unfold pField; simp [q8, q16]
        rw [hp]
        clear hp q8 q16
        go_enter Tryd.func112, Tryd.ntmps112
        go_wp2_with first | ((at_builtin; refine app_u8 rfl (.tmp 20) (.tmp 21) _ rfl _ _ _ rfl (Out.alloc (hoo _) _) _ _ _ rfl (src_at und_bytes (hsz _) _ _ _ rfl) hb1 ?_; intro v3 w3 hown3 hf3 hb3); have ho3 := Out.app1 (c := 119) hown3; have hA3 := ((f1 _).alloc _).trans (Ap.of hf3 hb3); have hL3 := (hL.alloc _).fr hf3 hblk; have hLC3 := hL3.cell; have hLF3 := hL3.frz; have hLT3 := hL3.lt; have hb2 : (xs ++ [(119 : UInt8)]).length + 1 ≤ 140737488355328 := by simp; omega) | (at_builtin; refine app_u8 rfl (.tmp 28) (.tmp 29) _ rfl _ _ _ rfl (Out.alloc ho3 _) _ _ _ rfl (src_at und_bytes rfl _ _ _ rfl) hb2 ?_; intro v4 w4 hown4 hf4 hb4)
        go_ret
        have ho4 := Out.app1 (c := 0) hown4
        exact ⟨_, rfl, by simpa using ho4, (hA3.alloc _).trans (Ap.of hf4 hb4)⟩
    · have g16 : (fp == 16) = false := by simpa using q16
      rcases fm.eq_false_or_eq_true with rfl | rfl
      · have hp : pField ⟨fp, ft, true⟩ = pVal ft ++ [1] := by unfold pField; simp [q8, q16]
        rw [hp]
        clear hp q8 q16
        go_enter Tryd.func112, Tryd.ntmps112
        go_wp2_with first | (go_at_call 76; refine (putVal_any v (hg.ap (f1 _)) xs ft (hoo _) hk hx16).mono ?_; rintro e w3 ⟨v3, rfl, ho3, hA3'⟩; have hA3 := (f1 _).trans hA3'; have hL3 := hL.fr hA3'.1 hblk; have hLC3 := hL3.cell; have hLF3 := hL3.frz; have hLT3 := hL3.lt; have hb2 : (xs ++ pVal ft).length + 1 ≤ 140737488355328 := by simp; omega) | (at_builtin; refine app_u8 rfl (.tmp 25) (.tmp 26) _ rfl _ _ _ rfl (Out.alloc ho3 _) _ _ _ rfl (src_at und_bytes rfl _ _ _ rfl) hb2 ?_; intro v4 w4 hown4 hf4 hb4)
        go_ret
        have ho4 := Out.app1 (c := 1) hown4
        exact ⟨_, rfl, by simpa using ho4, (hA3.alloc _).trans (Ap.of hf4 hb4)⟩
      · have hp : pField ⟨fp, ft, false⟩ = pVal ft ++ [0] := by unfold pField; simp [q8, q16]
        rw [hp]
        clear hp q8 q16
        go_enter Tryd.func112, Tryd.ntmps112
        go_wp2_with first | (go_at_call 76; refine (putVal_any v (hg.ap (f1 _)) xs ft (hoo _) hk hx16).mono ?_; rintro e w3 ⟨v3, rfl, ho3, hA3'⟩; have hA3 := (f1 _).trans hA3'; have hL3 := hL.fr hA3'.1 hblk; have hLC3 := hL3.cell; have hLF3 := hL3.frz; have hLT3 := hL3.lt; have hb2 : (xs ++ pVal ft).length + 1 ≤ 140737488355328 := by simp; omega) | (at_builtin; refine app_u8 rfl (.tmp 28) (.tmp 29) _ rfl _ _ _ rfl (Out.alloc ho3 _) _ _ _ rfl (src_at und_bytes rfl _ _ _ rfl) hb2 ?_; intro v4 w4 hown4 hf4 hb4)
        go_ret
        have ho4 := Out.app1 (c := 0) hown4
        exact ⟨_, rfl, by simpa using ho4, (hA3.alloc _).trans (Ap.of hf4 hb4)⟩

end Go.Proofs.YtokneepfknepaaaDoor
