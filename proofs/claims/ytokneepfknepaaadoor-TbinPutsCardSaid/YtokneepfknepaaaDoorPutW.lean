/- The walks of layer 6: what is put, the first part: heap types, value types. -/
import Derived.Test.YtokneepfknepaaaDoorOpenW
import Derived.Test.YtokneepfknepaaaDoorLebW2
set_option linter.unusedSimpArgs false
set_option linter.unusedVariables false
namespace Go.Proofs.YtokneepfknepaaaDoor
open Go.RowKit

/-- The bytes so far: a slice of the call's own. -/
def Out (w : World) (v : Value) (xs : List UInt8) : Prop := Own [] w 5 1 v xs.length (xs.map B)
/-- What a put does to a world: it writes the given slice's block, and blocks of its own. -/
def Ap (w : World) (v : Value) (w' : World) (v' : Value) : Prop := Fr (Value.blk v) w w' ∧ ∀ b, b ∈ Value.blk v' → b ∈ Value.blk v ∨ w.heap.size ≤ b
theorem Ap.refl (w : World) (v : Value) : Ap w v w v := ⟨Fr.refl _ _, fun _ h => .inl h⟩
theorem Ap.trans {w w1 w2 : World} {v v1 v2 : Value} (h : Ap w v w1 v1) (k : Ap w1 v1 w2 v2) : Ap w v w2 v2 :=
  ⟨h.1.then k.1 h.2, fun b hb => (k.2 b hb).elim (fun hb => h.2 b hb) (fun hs => .inr (Nat.le_trans h.1.size hs))⟩
theorem Ap.of {w w' : World} {v v' : Value} (hf : Fr (Value.blk v) w w') (hb : Value.blk v' = Value.blk v ∨ Value.blk v' = [w.heap.size]) : Ap w v w' v' :=
  ⟨hf, fun b hm => by
    rcases hb with hb | hb
    · rw [hb] at hm; exact .inl hm
    · rw [hb] at hm; simp at hm; exact .inr (by omega)⟩
theorem Ap.fr0 {w w1 : World} {v : Value} (hf : Fr [] w w1) : Ap w v w1 v := ⟨hf.mono (by simp), fun _ h => .inl h⟩
theorem Ap.alloc {w w1 : World} {v v1 : Value} (h : Ap w v w1 v1) (o : Obj) : Ap w v (w1.alloc o) v1 := ⟨h.1.alloc o, h.2⟩
theorem Gl.ap {w w' : World} {v v' : Value} (hg : Gl (Value.blk v) w) (h : Ap w v w' v') : Gl (Value.blk v') w' :=
  ⟨Nat.lt_of_lt_of_le hg.lt h.1.size, fun hm => (h.2 _ hm).elim hg.not (fun hs => by have := hg.lt; omega), fun o ho => by rw [h.1.cell hg.lt hg.not]; exact hg.cell o ho⟩
theorem Out.fr0 {w w' : World} {v : Value} {xs : List UInt8} (h : Out w v xs) (hf : Fr [] w w') : Out w' v xs := Own.fr h hf (by simp)
theorem Out.alloc {w : World} {v : Value} {xs : List UInt8} (h : Out w v xs) (o : Obj) : Out (w.alloc o) v xs := Own.alloc h o
theorem Out.nil (w : World) : Out w (.slice none 0 0) [] := Own.nil _ _ _ _
theorem Out.app {w : World} {v : Value} {xs ys : List UInt8} (h : Own [] w 5 1 v (xs.length + ys.length) (xs.map B ++ ys.map B)) : Out w v (xs ++ ys) := by
  unfold Out
  simpa using h
theorem Out.app1 {w : World} {v : Value} {xs : List UInt8} {c : UInt8} (h : Own [] w 5 1 v (xs.length + 1) (xs.map B ++ [B c])) : Out w v (xs ++ [c]) := by
  unfold Out
  simpa using h

def hb (k : Int) (n : Nat) : List UInt8 := ((List.range n).filter fun i => heapsL.getD i 0 == k).map fun i => UInt8.ofNat (105 + i)
theorem hb_succ (k : Int) (n : Nat) : hb k (n + 1) = hb k n ++ (if heapsL.getD n 0 == k then [UInt8.ofNat (105 + n)] else []) := by
  unfold hb
  rw [List.range_succ, List.filter_append, List.map_append]
  congr 1
  by_cases h : (heapsL.getD n 0 == k) = true
  · rw [List.filter_cons, if_pos h, if_pos h]; rfl
  · rw [List.filter_cons, if_neg h, if_neg h]; rfl
theorem hb_len (k : Int) (n : Nat) : (hb k n).length ≤ n := by
  unfold hb
  rw [List.length_map]
  exact Nat.le_trans (List.length_filter_le _ _) (by simp)


set_option maxRecDepth 100000 in
set_option maxHeartbeats 800000 in
theorem putHeap_any {w : World} (v : Value) (hg : Gl (Value.blk v) w) (xs : List UInt8) (h : HeapT) (ho : Out w v xs) (hn1 : -9223372036854775808 ≤ h.n) (hn2 : h.n < 9223372036854775808) (hx : xs.length ≤ 70368744177664) :
    Calls Tryd.prog 74 #[v, heapV h] w fun e w' => ∃ v', e = .returned v' ∧ Out w' v' (xs ++ pHeap h) ∧ Ap w v w' v' := by
  obtain ⟨va, vc, rfl, _⟩ := Own.shape ho
  unfold heapV
  by_cases h13 : h.kind = 13
  · have hp : pHeap h = putS h.n := by unfold pHeap; rw [if_pos h13]
    have g13 : (h.kind == 13) = true := by simp [h13]
    have hlen := putS_len h.n hn1 hn2
    have hb1 : xs.length + (putS h.n).length ≤ 140737488355328 := by omega
    rw [hp]
    clear hp h13 hlen
    go_enter Tryd.func74, Tryd.ntmps74
    go_wp2_with first | (go_at_call 115; refine (PutS_any h.n _ hn1 hn2).mono ?_; rintro e w2 ⟨v2, rfl, ho2, hN2, hF2⟩; have hoo := Own.fr (Out.alloc ho _) hF2 (by simp); have hs2 := ho2.sl (S' := []) (by simp)) | (at_builtin; refine app_u8 rfl (.tmp 10) (.tmp 13) _ rfl _ _ _ rfl hoo _ _ _ rfl (hs2.src und_bytes) hb1 ?_; intro v' w3 hown3 hf3 hb3)
    go_ret
    exact ⟨v', rfl, Out.app hown3, (Ap.fr0 (((Fr.refl [] _).alloc _).trans hF2)).trans (Ap.of hf3 hb3)⟩
  · have hp : pHeap h = hb h.kind 12 := by unfold pHeap; rw [if_neg h13]; rfl
    have g13 : (h.kind == 13) = false := by simp [h13]
    have hL : Loc (w.alloc (.cells #[.int .i64 h.kind, .int .i64 h.n] 40)) w.heap.size [.int .i64 h.kind, .int .i64 h.n] 40 := Loc.new _ _ _
    have hblk : w.heap.size ∉ Value.blk (.slice va xs.length vc) := fun hm => by have := (Own.blk_lt ho _ hm).1; omega
    rw [hp]
    clear hp h13
    have hc := hg.cell; have hgl := hg.lt; have c0 := hc 0 (by decide); have c1 := hc 1 (by decide); have c2 := hc 2 (by decide); have c3 := hc 3 (by decide); have c4 := hc 4 (by decide); have c5 := hc 5 (by decide); have c6 := hc 6 (by decide); have c7 := hc 7 (by decide); have c8 := hc 8 (by decide); have c9 := hc 9 (by decide); have c10 := hc 10 (by decide); have c11 := hc 11 (by decide); simp only [show heapsL.getD 0 0 = 11 from rfl, show heapsL.getD 1 0 = 5 from rfl, show heapsL.getD 2 0 = 4 from rfl, show heapsL.getD 3 0 = 3 from rfl, show heapsL.getD 4 0 = 2 from rfl, show heapsL.getD 5 0 = 1 from rfl, show heapsL.getD 6 0 = 9 from rfl, show heapsL.getD 7 0 = 7 from rfl, show heapsL.getD 8 0 = 6 from rfl, show heapsL.getD 9 0 = 10 from rfl, show heapsL.getD 10 0 = 8 from rfl, show heapsL.getD 11 0 = 12 from rfl] at c0 c1 c2 c3 c4 c5 c6 c7 c8 c9 c10 c11; clear hc
    have hidx : ∀ (w : World) (k : Nat), k < 12 → (Instr.index 145 (.agg #[.int .i64 11, .int .i64 5, .int .i64 4, .int .i64 3, .int .i64 2, .int .i64 1, .int .i64 9, .int .i64 7, .int .i64 6, .int .i64 10, .int .i64 8, .int .i64 12]) (.int .i64 k)).run Tryd.prog w = .ok (.int .i64 (heapsL.getD k 0)) w := by
      intro w k hk
      have : k = 0 ∨ k = 1 ∨ k = 2 ∨ k = 3 ∨ k = 4 ∨ k = 5 ∨ k = 6 ∨ k = 7 ∨ k = 8 ∨ k = 9 ∨ k = 10 ∨ k = 11 := by omega
      rcases this with rfl | rfl | rfl | rfl | rfl | rfl | rfl | rfl | rfl | rfl | rfl | rfl <;> first | rfl | kernel_rfl | simp [go_sem]
    go_enter Tryd.func74, Tryd.ntmps74
    go_wp2
    go_loopw [0, 16] (fun v n wr => ∃ (k : Nat), n = .int .i64 k ∧ k ≤ 12 ∧ Out wr v (xs ++ hb h.kind k) ∧ Ap (w.alloc (.cells #[.int .i64 h.kind, .int .i64 h.n] 40)) (.slice va xs.length vc) wr v) (fun _ n _ => (12 - intOf n).toNat)
    case atStart => exact ⟨0, rfl, by omega, by simpa [hb] using Out.alloc ho _, Ap.refl _ _⟩
    case round =>
      obtain ⟨k, rfl, hk12, ho1, ha1⟩ := hrel
      have hL1 := hL.fr ha1.1 hblk
      have hlen := hb_len h.kind k
      have hLC1 := hL1.cell; have hLF1 := hL1.frz; have hLT1 := hL1.lt
      have ho1l := ho1
      have hb1 : (xs ++ hb h.kind k).length + 1 ≤ 140737488355328 := by simp; omega
      by_cases hk : k < 12
      · have hs := hb_succ h.kind k
        have hi := hidx wr k hk
        have hkb : (k : Int) < 12 := by omega
        clear hidx
        generalize heapsL.getD k 0 = q at hs hi
        by_cases hq : q = h.kind
        · rw [if_pos (by simpa using hq)] at hs
          have hqb : (q == h.kind) = true := by simpa using hq
          clear hq
          go_wp2_with (at_builtin; refine app_u8 rfl (.tmp 24) (.tmp 28) _ rfl _ _ _ rfl (Out.alloc ho1 _) _ _ _ rfl (src_new und_bytes _ _ _ _ rfl) hb1 ?_; intro v' w3 hown3 hf3 hb3)
          have hB : Value.int .u8 (105 + (k : Int)) = B (UInt8.ofNat (105 + k)) := by rw [B_small _ (by omega)]; simp
          rw [hB] at hown3
          go_roundw
          case rel =>
            refine ⟨k + 1, by go_num, by omega, ?_, ?_⟩
            · rw [hs, ← List.append_assoc]; exact Out.app1 hown3
            · exact (ha1.alloc _).trans (Ap.of hf3 hb3)
          case measure => simp [intOf]; omega
        · rw [if_neg (by simpa using hq)] at hs
          have hqb : (q == h.kind) = false := by simpa using hq
          clear hq
          go_wp2
          go_roundw
          case rel => exact ⟨k + 1, by go_num, by omega, by rw [hs, List.append_nil]; exact ho1, ha1⟩
          case measure => simp [intOf]; omega
      · have hk2 : k = 12 := by omega
        subst hk2
        clear hidx
        go_wp2
        go_ret
        exact ⟨_, rfl, ho1, (Ap.fr0 ((Fr.refl [] _).alloc _)).trans ha1⟩
end Go.Proofs.YtokneepfknepaaaDoor
