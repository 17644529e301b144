/- The walks of layer 6: what is put, the second part: value types, and what is plain. -/
import Derived.Test.YtokneepfknepaaaDoorPutW
set_option linter.unusedSimpArgs false
set_option linter.unusedVariables false
namespace Go.Proofs.YtokneepfknepaaaDoor
open Go.RowKit

theorem src_at {P : Program} {tx e' : TypeId} {g : Nat} {w : World} (hk : P.underlying tx = some (.slice e')) (hg : w.heap.size = g) (u : Value) (e : TypeId) (c : Nat) (h1 : u.oneCell' = true) : Src P 1 tx (.slice (some ⟨g, 0, none⟩) 1 c) 1 [u] (w.alloc (.cells #[u] e)) := by
  subst hg
  exact src_new hk w u e c h1
theorem pHeap_len (h : HeapT) (h1 : -9223372036854775808 ≤ h.n) (h2 : h.n < 9223372036854775808) : (pHeap h).length ≤ 12 := by
  unfold pHeap
  split
  · have := putS_len h.n h1 h2; omega
  · exact hb_len h.kind 12

/-- The numbers that a heap type holds are numbers of 64 bits. -/
def HeapT.ok (h : HeapT) : Prop := (-9223372036854775808 ≤ h.kind ∧ h.kind < 9223372036854775808) ∧ (-9223372036854775808 ≤ h.n ∧ h.n < 9223372036854775808)

set_option maxRecDepth 100000 in
set_option maxHeartbeats 1600000 in
theorem putVal_any {w : World} (v : Value) (hg : Gl (Value.blk v) w) (xs : List UInt8) (t : ValT) (ho : Out w v xs) (hk : t.heap.ok) (hx : xs.length + 16 ≤ 70368744177664) :
    Calls Tryd.prog 76 #[v, valV t] w fun e w' => ∃ v', e = .returned v' ∧ Out w' v' (xs ++ pVal t) ∧ Ap w v w' v' := by
  have hsz := fun o => World.size_alloc w o
  have hhk := hk
  obtain ⟨_, hn1, hn2⟩ := hk
  obtain ⟨tk, tn, th⟩ := t
  unfold valV
  dsimp only at hn1 hn2 ⊢
  have hoo := fun o => (Out.alloc ho o)
  have hb1 : xs.length + 1 ≤ 140737488355328 := by omega
  by_cases q1 : tk = 1
  · skip
    have hp : pVal ⟨tk, tn, th⟩ = [127] := by unfold pVal; rw [if_pos q1]
    rw [hp]
    clear hp
    have g1 : (tk == 1) = true := by simp [q1]
    clear q1
    go_enter Tryd.func76, Tryd.ntmps76
    go_wp2_with (at_builtin; refine app_u8 rfl (.tmp 9) (.tmp 10) _ rfl _ _ _ rfl (Out.alloc (hoo _) _) _ _ _ rfl (src_at und_bytes (hsz _) _ _ _ rfl) hb1 ?_; intro v' w3 hown3 hf3 hb3)
    go_ret
    exact ⟨v', rfl, Out.app1 (c := 127) hown3, (Ap.fr0 (((Fr.refl [] _).alloc _).alloc _)).trans (Ap.of hf3 hb3)⟩
  · by_cases q2 : tk = 2
    · skip
      have hp : pVal ⟨tk, tn, th⟩ = [126] := by unfold pVal; rw [if_neg q1, if_pos q2]
      rw [hp]
      clear hp
      have g1 : (tk == 1) = false := by simp [q1]
      have g2 : (tk == 2) = true := by simp [q2]
      clear q1 q2
      go_enter Tryd.func76, Tryd.ntmps76
      go_wp2_with (at_builtin; refine app_u8 rfl (.tmp 16) (.tmp 17) _ rfl _ _ _ rfl (Out.alloc (hoo _) _) _ _ _ rfl (src_at und_bytes (hsz _) _ _ _ rfl) hb1 ?_; intro v' w3 hown3 hf3 hb3)
      go_ret
      exact ⟨v', rfl, Out.app1 (c := 126) hown3, (Ap.fr0 (((Fr.refl [] _).alloc _).alloc _)).trans (Ap.of hf3 hb3)⟩
    · skip
      have hL : Loc (w.alloc (.cells #[.int .i64 tk, .bool tn, .int .i64 th.kind, .int .i64 th.n] 44)) w.heap.size [.int .i64 tk, .bool tn, .int .i64 th.kind, .int .i64 th.n] 44 := Loc.new _ _ _
      have hblk : w.heap.size ∉ Value.blk v := fun hm => by have := (Own.blk_lt ho _ hm).1; omega
      cases tn
      · skip
        have hp : pVal ⟨tk, false, th⟩ = 100 :: pHeap th := by unfold pVal; rw [if_neg q1, if_neg q2, if_pos rfl]
        rw [hp]
        clear hp
        have g1 : (tk == 1) = false := by simp [q1]
        have g2 : (tk == 2) = false := by simp [q2]
        clear q1 q2
        go_enter Tryd.func76, Tryd.ntmps76
        go_wp2_with first | ((at_builtin; refine app_u8 rfl (.tmp 23) (.tmp 24) _ rfl _ _ _ rfl (Out.alloc (hoo _) _) _ _ _ rfl (src_at und_bytes (hsz _) _ _ _ rfl) hb1 ?_; intro v' w3 hown3 hf3 hb3); have ho3 := Out.app1 (c := 100) hown3; have hA3 := ((Ap.fr0 (v := v) (((Fr.refl [] w).alloc _).alloc _)).trans (Ap.of hf3 hb3)); have hg3 := hg.ap hA3; have hL3 := (hL.alloc _).fr hf3 hblk; have hLC3 := hL3.cell; have hLF3 := hL3.frz; have hLT3 := hL3.lt) | (go_at_call 74; refine (putHeap_any _ hg3 _ th ho3 hn1 hn2 (by simp; omega)).mono ?_; rintro e w4 ⟨v4, rfl, ho4, hA4⟩)
        go_ret
        exact ⟨v4, rfl, by simpa using ho4, hA3.trans hA4⟩
      · skip
        by_cases q4 : th.kind = 13
        · skip
          have hp : pVal ⟨tk, true, th⟩ = 99 :: pHeap th := by unfold pVal; rw [if_neg q1, if_neg q2, if_neg (by simp), if_pos q4]
          rw [hp]
          clear hp
          have g1 : (tk == 1) = false := by simp [q1]
          have g2 : (tk == 2) = false := by simp [q2]
          have g4 : (th.kind == 13) = true := by simp [q4]
          clear q1 q2 q4
          go_enter Tryd.func76, Tryd.ntmps76
          go_wp2_with first | ((at_builtin; refine app_u8 rfl (.tmp 31) (.tmp 32) _ rfl _ _ _ rfl (Out.alloc (hoo _) _) _ _ _ rfl (src_at und_bytes (hsz _) _ _ _ rfl) hb1 ?_; intro v' w3 hown3 hf3 hb3); have ho3 := Out.app1 (c := 99) hown3; have hA3 := ((Ap.fr0 (v := v) (((Fr.refl [] w).alloc _).alloc _)).trans (Ap.of hf3 hb3)); have hg3 := hg.ap hA3; have hL3 := (hL.alloc _).fr hf3 hblk; have hLC3 := hL3.cell; have hLF3 := hL3.frz; have hLT3 := hL3.lt) | (go_at_call 74; refine (putHeap_any _ hg3 _ th ho3 hn1 hn2 (by simp; omega)).mono ?_; rintro e w4 ⟨v4, rfl, ho4, hA4⟩)
          go_ret
          exact ⟨v4, rfl, by simpa using ho4, hA3.trans hA4⟩
        · skip
          have hp : pVal ⟨tk, true, th⟩ = pHeap th := by unfold pVal; rw [if_neg q1, if_neg q2, if_neg (by simp), if_neg q4]
          rw [hp]
          clear hp
          have g4 : (th.kind == 13) = false := by simp [q4]
          have g1 : (tk == 1) = false := by simp [q1]
          have g2 : (tk == 2) = false := by simp [q2]
          clear q1 q2 q4
          go_enter Tryd.func76, Tryd.ntmps76
          have hA3 := fun o => Ap.fr0 (v := v) ((Fr.refl [] w).alloc o)
          go_wp2_with (go_at_call 74; refine (putHeap_any _ (hg.ap (hA3 _)) _ th (hoo _) hn1 hn2 (by omega)).mono ?_; rintro e w4 ⟨v4, rfl, ho4, hA4⟩)
          go_ret
          exact ⟨v4, rfl, ho4, (hA3 _).trans hA4⟩

end Go.Proofs.YtokneepfknepaaaDoor
