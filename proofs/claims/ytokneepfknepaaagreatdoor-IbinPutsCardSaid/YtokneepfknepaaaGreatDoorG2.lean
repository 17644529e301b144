/- The walks of layer 6: a reader is opened. What every law's statement is closed by: the table of heap types out of the condition, and what the statement asks of the world behind the call. The walks of layer 6: what is put, the first part: heap types, value types. The walks of layer 6: what is put, the second part: value types, and what is plain. The walks of layer 6: what is plain. The walks of layer 6: supers and fields are put; plain fields. The walks of layer 6: fields are put. The walks of layer 6: lists of what is plain. The walks of layer 6: lists of heap types and of fields that are plain. The walks of layer 6: lists are put. The walks of layer 6: plain sub types. From the reading of an argument to what the walks ask: numbers, types, lists of them. append at a step of a region that draws its order, on a slice of bytes of the call's own. What a call's own memory is, as one fact: a list of things, apart from each other, all of them new since the call began. A call's own memory as one fact: bytes are appended. What is put of types that may be none (plain). The plain functions of layers 5 and 7 (shapes of opcodes; instructions in bytes), without the program. The walks of layer 5: the shape of an opcode, whether it is known. How instructions lie in memory. What every law's statement of layer 7 is closed by: the tables out of the condition. From the reading of an argument to what the walks ask: instructions. -/
import Derived.Test.YtokneepfknepaaaGreatDoorG1
import Derived.Lib.SliceRun
import Derived.Test.YtokneepfknepaaaGreatDoorCards
import Derived.Test.YtokneepfknepaaaGreatDoorTie
import Derived.WalkKit
import Derived.ProofKit
import Derived.OpenShut
import Derived.Deep.DeepHandedRow
import Derived.Lib.LaidTab
import Derived.Deep.Slices
import Derived.Lib.SmallJoins
import Derived.Deep.RegionHeld3
import Derived.RegionTactic
import Derived.Deep.DeepCutAuto
import Derived.Lib.Bytealg
import Derived.Laws.Externs
import Derived.Laws.StandIn
import Derived.IntWalk
set_option linter.unusedSimpArgs false
set_option linter.unusedVariables false
namespace Go.Proofs.YtokneepfknepaaaGreatDoor
open Go.RowKit

set_option maxRecDepth 100000 in
set_option maxHeartbeats 800000 in
theorem clone_any {S : List Nat} {w : World} {bv : Value} {bs : List UInt8} (h : Sl S w 1 bv bs.length (bs.map B)) (hl : bs.length ≤ 1099511627776) :
    Calls Tryz.prog 47 #[bv] w fun e w' => ∃ v, e = .returned v ∧ Own [] w' 5 1 v bs.length (bs.map B) ∧ New w v ∧ Fr [] w w' := by
  have hs := h
  have hq := fun (w : World) (a : Option Addr) (n c : Nat) => Go.Lib.run_eql_slice_nil (P := Tryz.prog) w 26 5 a n c 0 0 und_bytes
  obtain ⟨_, _, a, cap, rfl, hcap, hmax, hN, hdat⟩ := h
  cases a with
  | none =>
    have hn : bs.length = 0 := by have := hN rfl; omega
    have hbs : bs = [] := List.length_eq_zero_iff.1 hn
    subst hbs
    go_enter Tryz.func47, Tryz.ntmps47
    go_wp2
    go_ret
    exact ⟨_, rfl, Own.nil _ _ _ _, New.nil _, Fr.refl _ _⟩
  | some a =>
    have hq1 := fun (w : World) (n c : Nat) => hq w (some a) n c
    simp only [Option.isNone_some] at hq1
    go_enter Tryz.func47, Tryz.ntmps47
    have hO : Own [] (w.alloc (.cells #[] 5)) 5 1 (.slice (some ⟨w.heap.size, 0, none⟩) 0 0) 0 [] := Own.made (S := []) 5 1 0 [] (by simp) rfl (by simp) (by decide)
    have hs2 := hs.fr ((Fr.refl [] w).alloc (.cells #[] 5)) (by simp)
    have hb : 0 + bs.length ≤ 140737488355328 := by omega
    go_wp2_with (at_builtin; refine app_u8 rfl (.tmp 5) (.tmp 6) _ rfl _ 0 [] rfl hO _ bs.length (bs.map B) rfl (hs2.src und_bytes) hb ?_; intro v' w3 hown hf hb3)
    go_ret
    have hnew : New w (.slice (some ⟨w.heap.size, 0, none⟩) 0 0) := by intro b hb; simp [Value.blk] at hb; omega
    refine ⟨v', rfl, by simpa using hown, hnew.app hb3 (by simp), (((Fr.refl [] w).alloc _).app hf hnew)⟩

set_option maxRecDepth 100000 in
set_option maxHeartbeats 800000 in
theorem open_any {S : List Nat} {w : World} {bv : Value} {bs : List UInt8} (h : Sl S w 1 bv bs.length (bs.map B)) (hg : Gl [] w) (hl : bs.length ≤ 1099511627776) :
    Calls Tryz.prog 17 #[bv] w fun e w' => ∃ rb v, e = .returned (.pointer (some ⟨rb, 0, none⟩)) ∧ Rd [rb] w' rb v bs rOpen ∧ w.heap.size ≤ rb ∧ Fr [] w w' := by
  go_enter Tryz.func17, Tryz.ntmps17
  go_wp2_with (go_at_call 47; refine (clone_any h hl).mono ?_; rintro e w2 ⟨v2, rfl, hO2, hN2, hF2⟩; obtain ⟨a2, c2, rfl, _⟩ := hO2.shape)
  go_ret
  have hsl : Sl [w2.heap.size] w2 1 (.slice a2 bs.length c2) bs.length (bs.map B) := hO2.sl (by
    intro b hb hm
    have := (hO2.blk_lt b hb).1
    simp at hm
    omega)
  refine ⟨w2.heap.size, _, rfl, ⟨by simp, by simp, Loc.new w2 (rdCells w2.heap.size (.slice a2 bs.length c2) rOpen) _, hsl.fr ((Fr.refl [] _).alloc _) (by simp), ?_, by simp [rOpen], hl⟩, hF2.size, hF2.alloc _⟩
  have hg2 := hg.fr hF2 (by simp)
  refine Gl.fr (S := [w2.heap.size]) (S' := []) ⟨hg2.lt, ?_, hg2.cell⟩ ((Fr.refl [] _).alloc _) (by simp)
  have := hg2.lt
  simp
  omega
theorem sl_lit (w : World) {g : Nat} (hg : w.heap.size = g) (bs : List UInt8) (S : List Nat) (hS : ∀ b, b ∈ S → b < w.heap.size) (hl : bs.length ≤ maxLen) :
    Sl S (w.alloc (.cells (bs.map B).toArray 5)) 1 (.slice (some ⟨g, 0, none⟩) bs.length bs.length) bs.length (bs.map B) := by
  subst hg
  refine (Own.made 5 1 bs.length (bs.map B) hS (by simp) ?_ hl).sl (S' := S) ?_
  · intro u hu
    obtain ⟨c, _, rfl⟩ := List.mem_map.1 hu
    rfl
  · intro b hb hm
    simp [Value.blk] at hb
    have := hS b hm
    omega
theorem Sl.drewN {S : List Nat} {w : World} {k n : Nat} {v : Value} {cs : List Value} (h : Sl S w k v n cs) (m : Nat) : Sl S (w.drewN m) k v n cs := h.fr ((Fr.refl [] w).drewN m) (by simp)
theorem Gl.drewN {S : List Nat} {w : World} (h : Gl S w) (m : Nat) : Gl S (w.drewN m) := h.fr ((Fr.refl [] w).drewN m) (by simp)
theorem Gl.alloc {S : List Nat} {w : World} (h : Gl S w) (o : Obj) : Gl S (w.alloc o) := h.fr ((Fr.refl [] w).alloc o) (by simp)
end Go.Proofs.YtokneepfknepaaaGreatDoor

set_option linter.unusedSimpArgs false
set_option linter.unusedVariables false
namespace Go.Proofs.YtokneepfknepaaaGreatDoor
open Go.ChangeShapes Go.WideShapes Go.ChangeAt Go.RowKit

theorem own : ownKnob Tryz.prog.godebug = none := by kernel_rfl
theorem laidOut : laidOutB Tryz.prog = true := by kernel_rfl
theorem gTab : Tryz.prog.globalNamed "geode/tbin.heaps" = some 1 := by kernel_rfl
theorem gTabType : (Tryz.prog.globals[1]?).map (·.type) = some 139 := by kernel_rfl
theorem undTab : Tryz.prog.underlying 139 = some (.array 12 32) := by kernel_rfl
theorem undKind : Tryz.prog.underlying 32 = some (.int .i64) := by kernel_rfl
theorem cellsKind : Tryz.prog.cellsOf 32 = 1 := by kernel_rfl
theorem trodAll_below {H : Type} {enc : TypeId × Value → H} {P : Program} (hl : laidOutB P = true) {W W' : World} (hb : Below W.heap.size W W') : ∀ (ts : List TypeId) (vs : List Value) (ds : List (DataW H)) (ps : List MemPlace),
    (∀ t, t ∈ ts → P.readableRec t = true ∧ t < P.types.size) → (∀ x ∈ ps, x.block < W.heap.size) → DataW.TrodAll enc P W 0 (fun _ => true) true ts vs ds ps →
    DataW.TrodAll enc P W' 0 (fun b => decide (b < W.heap.size)) true ts vs ds ps
  | [], vs, ds, ps, _, _, h => by
    obtain ⟨rfl, rfl, rfl⟩ := trodAll_nil h
    exact trodAll_mk0
  | t :: ts, vs, ds, ps, ht, hlt, h => by
    obtain ⟨v, vs', d, ds', p, q, rfl, rfl, rfl, h1, h2⟩ := trodAll_cons h
    exact trodAll_cons_mk (Below.trod hl (ht t (by simp)).1 (ht t (by simp)).2 h1 hb (fun x hx => hlt x (List.mem_append_left _ hx)))
      (trodAll_below hl hb ts vs' ds' q (fun u hu => ht u (List.mem_cons_of_mem _ hu)) (fun x hx => hlt x (List.mem_append_right _ hx)) h2)

theorem underBool : Tryz.prog.underlying 4 = some .bool := by kernel_rfl

/-- What a law's statement asks of the world behind the call: it has grown, and the law has said yes. -/
theorem law_post {H : Type} {enc : TypeId × Value → H} {fn : Func} {s : ChangeSpec} {W W' : World} {args : Array Value} {ds gs : List (DataW H)} {before : List MemPlace}
    (hW : DataW.Whole enc Tryz.prog fn.params.toList s.vars false W args.toList ds gs before) (hv : s.vars = []) (hr : fn.resultTypes = #[4])
    (hp : ∀ t, t ∈ fn.params.toList → Tryz.prog.readableRec t = true ∧ t < Tryz.prog.types.size) (hs : s.fn H (ds ++ []) = { results := [.lit (.bool true)], args := ds }) (hb : Fr [] W W') :
    s.post enc Tryz.prog fn false true false false W args (.bool true) W' := by
  have hW' := hW
  obtain ⟨p, q, hA, hV, rfl, hfz, hnd⟩ := hW
  rw [hv] at hV
  obtain ⟨rfl, rfl⟩ := trodVars_none hV
  have hbl := hb.below
  refine ⟨ds, [], p ++ [], [], p, [], hW', ?_, ?_, ?_, hbl.frame _, fun h => by cases h⟩
  · rw [hs, hr]
    exact trodAll_mk1 (shut_bool underBool true)
  · rw [hs]
    exact trodAll_below laidOut hbl _ _ _ _ hp (fun x hx => by simpa using hW'.lt x (by simpa using hx)) hA
  · rw [hs, hv]
    rfl

end Go.Proofs.YtokneepfknepaaaGreatDoor

set_option linter.unusedSimpArgs false
set_option linter.unusedVariables false
namespace Go.Proofs.YtokneepfknepaaaGreatDoor
open Go.RowKit

/-- The bytes so far: a slice of the call's own. -/
def Out (w : World) (v : Value) (xs : List UInt8) : Prop := Own [] w 5 1 v xs.length (xs.map B)
/-- What a put does to a world: it writes the given slice's block, and blocks of its own. -/
def Ap (w : World) (v : Value) (w' : World) (v' : Value) : Prop := Fr (Value.blk v) w w' ∧ ∀ b, b ∈ Value.blk v' → b ∈ Value.blk v ∨ w.heap.size ≤ b
theorem Ap.refl (w : World) (v : Value) : Ap w v w v := ⟨Fr.refl _ _, fun _ h => .inl h⟩
theorem Ap.trans {w w1 w2 : World} {v v1 v2 : Value} (h : Ap w v w1 v1) (k : Ap w1 v1 w2 v2) : Ap w v w2 v2 :=
  ⟨h.1.then k.1 h.2, fun b hb => (k.2 b hb).elim (fun hb => h.2 b hb) (fun hs => .inr (Nat.le_trans h.1.size hs))⟩
theorem Ap.of {w w' : World} {v v' : Value} (hf : Fr (Value.blk v) w w') (hb : Value.blk v' = Value.blk v ∨ Value.blk v' = [w.heap.size]) : Ap w v w' v' :=
  ⟨hf, fun b hm => by
    rcases hb with hb | hb
    · rw [hb] at hm; exact .inl hm
    · rw [hb] at hm; simp at hm; exact .inr (by omega)⟩
theorem Ap.fr0 {w w1 : World} {v : Value} (hf : Fr [] w w1) : Ap w v w1 v := ⟨hf.mono (by simp), fun _ h => .inl h⟩
theorem Ap.alloc {w w1 : World} {v v1 : Value} (h : Ap w v w1 v1) (o : Obj) : Ap w v (w1.alloc o) v1 := ⟨h.1.alloc o, h.2⟩
theorem Gl.ap {w w' : World} {v v' : Value} (hg : Gl (Value.blk v) w) (h : Ap w v w' v') : Gl (Value.blk v') w' :=
  ⟨Nat.lt_of_lt_of_le hg.lt h.1.size, fun hm => (h.2 _ hm).elim hg.not (fun hs => by have := hg.lt; omega), fun o ho => by rw [h.1.cell hg.lt hg.not]; exact hg.cell o ho⟩
theorem Out.fr0 {w w' : World} {v : Value} {xs : List UInt8} (h : Out w v xs) (hf : Fr [] w w') : Out w' v xs := Own.fr h hf (by simp)
theorem Out.alloc {w : World} {v : Value} {xs : List UInt8} (h : Out w v xs) (o : Obj) : Out (w.alloc o) v xs := Own.alloc h o
theorem Out.nil (w : World) : Out w (.slice none 0 0) [] := Own.nil _ _ _ _
theorem Out.app {w : World} {v : Value} {xs ys : List UInt8} (h : Own [] w 5 1 v (xs.length + ys.length) (xs.map B ++ ys.map B)) : Out w v (xs ++ ys) := by
  unfold Out
  simpa using h
theorem Out.app1 {w : World} {v : Value} {xs : List UInt8} {c : UInt8} (h : Own [] w 5 1 v (xs.length + 1) (xs.map B ++ [B c])) : Out w v (xs ++ [c]) := by
  unfold Out
  simpa using h

def hb (k : Int) (n : Nat) : List UInt8 := ((List.range n).filter fun i => heapsL.getD i 0 == k).map fun i => UInt8.ofNat (105 + i)
theorem hb_succ (k : Int) (n : Nat) : hb k (n + 1) = hb k n ++ (if heapsL.getD n 0 == k then [UInt8.ofNat (105 + n)] else []) := by
  unfold hb
  rw [List.range_succ, List.filter_append, List.map_append]
  congr 1
  by_cases h : (heapsL.getD n 0 == k) = true
  · rw [List.filter_cons, if_pos h, if_pos h]; rfl
  · rw [List.filter_cons, if_neg h, if_neg h]; rfl
theorem hb_len (k : Int) (n : Nat) : (hb k n).length ≤ n := by
  unfold hb
  rw [List.length_map]
  exact Nat.le_trans (List.length_filter_le _ _) (by simp)


set_option maxRecDepth 100000 in
set_option maxHeartbeats 800000 in
theorem putHeap_any {w : World} (v : Value) (hg : Gl (Value.blk v) w) (xs : List UInt8) (h : HeapT) (ho : Out w v xs) (hn1 : -9223372036854775808 ≤ h.n) (hn2 : h.n < 9223372036854775808) (hx : xs.length ≤ 70368744177664) :
    Calls Tryz.prog 89 #[v, heapV h] w fun e w' => ∃ v', e = .returned v' ∧ Out w' v' (xs ++ pHeap h) ∧ Ap w v w' v' := by
  obtain ⟨va, vc, rfl, _⟩ := Own.shape ho
  unfold heapV
  by_cases h13 : h.kind = 13
  · have hp : pHeap h = putS h.n := by unfold pHeap; rw [if_pos h13]
    have g13 : (h.kind == 13) = true := by simp [h13]
    have hlen := putS_len h.n hn1 hn2
    have hb1 : xs.length + (putS h.n).length ≤ 140737488355328 := by omega
    rw [hp]
    clear hp h13 hlen
    go_enter Tryz.func89, Tryz.ntmps89
    go_wp2_with first | (go_at_call 51; refine (PutS_any h.n _ hn1 hn2).mono ?_; rintro e w2 ⟨v2, rfl, ho2, hN2, hF2⟩; have hoo := Own.fr (Out.alloc ho _) hF2 (by simp); have hs2 := ho2.sl (S' := []) (by simp)) | (at_builtin; refine app_u8 rfl (.tmp 10) (.tmp 13) _ rfl _ _ _ rfl hoo _ _ _ rfl (hs2.src und_bytes) hb1 ?_; intro v' w3 hown3 hf3 hb3)
    go_ret
    exact ⟨v', rfl, Out.app hown3, (Ap.fr0 (((Fr.refl [] _).alloc _).trans hF2)).trans (Ap.of hf3 hb3)⟩
  · have hp : pHeap h = hb h.kind 12 := by unfold pHeap; rw [if_neg h13]; rfl
    have g13 : (h.kind == 13) = false := by simp [h13]
    have hL : Loc (w.alloc (.cells #[.int .i64 h.kind, .int .i64 h.n] 34)) w.heap.size [.int .i64 h.kind, .int .i64 h.n] 34 := Loc.new _ _ _
    have hblk : w.heap.size ∉ Value.blk (.slice va xs.length vc) := fun hm => by have := (Own.blk_lt ho _ hm).1; omega
    rw [hp]
    clear hp h13
    have hc := hg.cell; have hgl := hg.lt; have c0 := hc 0 (by decide); have c1 := hc 1 (by decide); have c2 := hc 2 (by decide); have c3 := hc 3 (by decide); have c4 := hc 4 (by decide); have c5 := hc 5 (by decide); have c6 := hc 6 (by decide); have c7 := hc 7 (by decide); have c8 := hc 8 (by decide); have c9 := hc 9 (by decide); have c10 := hc 10 (by decide); have c11 := hc 11 (by decide); simp only [show heapsL.getD 0 0 = 11 from rfl, show heapsL.getD 1 0 = 5 from rfl, show heapsL.getD 2 0 = 4 from rfl, show heapsL.getD 3 0 = 3 from rfl, show heapsL.getD 4 0 = 2 from rfl, show heapsL.getD 5 0 = 1 from rfl, show heapsL.getD 6 0 = 9 from rfl, show heapsL.getD 7 0 = 7 from rfl, show heapsL.getD 8 0 = 6 from rfl, show heapsL.getD 9 0 = 10 from rfl, show heapsL.getD 10 0 = 8 from rfl, show heapsL.getD 11 0 = 12 from rfl] at c0 c1 c2 c3 c4 c5 c6 c7 c8 c9 c10 c11; clear hc
    have hidx : ∀ (w : World) (k : Nat), k < 12 → (Instr.index 139 (.agg #[.int .i64 11, .int .i64 5, .int .i64 4, .int .i64 3, .int .i64 2, .int .i64 1, .int .i64 9, .int .i64 7, .int .i64 6, .int .i64 10, .int .i64 8, .int .i64 12]) (.int .i64 k)).run Tryz.prog w = .ok (.int .i64 (heapsL.getD k 0)) w := by
      intro w k hk
      have : k = 0 ∨ k = 1 ∨ k = 2 ∨ k = 3 ∨ k = 4 ∨ k = 5 ∨ k = 6 ∨ k = 7 ∨ k = 8 ∨ k = 9 ∨ k = 10 ∨ k = 11 := by omega
      rcases this with rfl | rfl | rfl | rfl | rfl | rfl | rfl | rfl | rfl | rfl | rfl | rfl <;> first | rfl | kernel_rfl | simp [go_sem]
    go_enter Tryz.func89, Tryz.ntmps89
    go_wp2
    go_loopw [0, 16] (fun v n wr => ∃ (k : Nat), n = .int .i64 k ∧ k ≤ 12 ∧ Out wr v (xs ++ hb h.kind k) ∧ Ap (w.alloc (.cells #[.int .i64 h.kind, .int .i64 h.n] 34)) (.slice va xs.length vc) wr v) (fun _ n _ => (12 - intOf n).toNat)
    case atStart => exact ⟨0, rfl, by omega, by simpa [hb] using Out.alloc ho _, Ap.refl _ _⟩
    case round =>
      obtain ⟨k, rfl, hk12, ho1, ha1⟩ := hrel
      have hL1 := hL.fr ha1.1 hblk
      have hlen := hb_len h.kind k
      have hLC1 := hL1.cell; have hLF1 := hL1.frz; have hLT1 := hL1.lt
      have ho1l := ho1
      have hb1 : (xs ++ hb h.kind k).length + 1 ≤ 140737488355328 := by simp; omega
      by_cases hk : k < 12
      · have hs := hb_succ h.kind k
        have hi := hidx wr k hk
        have hkb : (k : Int) < 12 := by omega
        clear hidx
        generalize heapsL.getD k 0 = q at hs hi
        by_cases hq : q = h.kind
        · rw [if_pos (by simpa using hq)] at hs
          have hqb : (q == h.kind) = true := by simpa using hq
          clear hq
          go_wp2_with (at_builtin; refine app_u8 rfl (.tmp 24) (.tmp 28) _ rfl _ _ _ rfl (Out.alloc ho1 _) _ _ _ rfl (src_new und_bytes _ _ _ _ rfl) hb1 ?_; intro v' w3 hown3 hf3 hb3)
          have hB : Value.int .u8 (105 + (k : Int)) = B (UInt8.ofNat (105 + k)) := by rw [B_small _ (by omega)]; simp
          rw [hB] at hown3
          go_roundw
          case rel =>
            refine ⟨k + 1, by go_num, by omega, ?_, ?_⟩
            · rw [hs, ← List.append_assoc]; exact Out.app1 hown3
            · exact (ha1.alloc _).trans (Ap.of hf3 hb3)
          case measure => simp [intOf]; omega
        · rw [if_neg (by simpa using hq)] at hs
          have hqb : (q == h.kind) = false := by simpa using hq
          clear hq
          go_wp2
          go_roundw
          case rel => exact ⟨k + 1, by go_num, by omega, by rw [hs, List.append_nil]; exact ho1, ha1⟩
          case measure => simp [intOf]; omega
      · have hk2 : k = 12 := by omega
        subst hk2
        clear hidx
        go_wp2
        go_ret
        exact ⟨_, rfl, ho1, (Ap.fr0 ((Fr.refl [] _).alloc _)).trans ha1⟩
end Go.Proofs.YtokneepfknepaaaGreatDoor

set_option linter.unusedSimpArgs false
set_option linter.unusedVariables false
namespace Go.Proofs.YtokneepfknepaaaGreatDoor
open Go.RowKit

theorem src_at {P : Program} {tx e' : TypeId} {g : Nat} {w : World} (hk : P.underlying tx = some (.slice e')) (hg : w.heap.size = g) (u : Value) (e : TypeId) (c : Nat) (h1 : u.oneCell' = true) : Src P 1 tx (.slice (some ⟨g, 0, none⟩) 1 c) 1 [u] (w.alloc (.cells #[u] e)) := by
  subst hg
  exact src_new hk w u e c h1
theorem pHeap_len (h : HeapT) (h1 : -9223372036854775808 ≤ h.n) (h2 : h.n < 9223372036854775808) : (pHeap h).length ≤ 12 := by
  unfold pHeap
  split
  · have := putS_len h.n h1 h2; omega
  · exact hb_len h.kind 12

/-- The numbers that a heap type holds are numbers of 64 bits. -/
def HeapT.ok (h : HeapT) : Prop := (-9223372036854775808 ≤ h.kind ∧ h.kind < 9223372036854775808) ∧ (-9223372036854775808 ≤ h.n ∧ h.n < 9223372036854775808)

set_option maxRecDepth 100000 in
set_option maxHeartbeats 1600000 in
theorem putVal_any {w : World} (v : Value) (hg : Gl (Value.blk v) w) (xs : List UInt8) (t : ValT) (ho : Out w v xs) (hk : t.heap.ok) (hx : xs.length + 16 ≤ 70368744177664) :
    Calls Tryz.prog 91 #[v, valV t] w fun e w' => ∃ v', e = .returned v' ∧ Out w' v' (xs ++ pVal t) ∧ Ap w v w' v' := by
  have hsz := fun o => World.size_alloc w o
  have hhk := hk
  obtain ⟨_, hn1, hn2⟩ := hk
  obtain ⟨tk, tn, th⟩ := t
  unfold valV
  dsimp only at hn1 hn2 ⊢
  have hoo := fun o => (Out.alloc ho o)
  have hb1 : xs.length + 1 ≤ 140737488355328 := by omega
  by_cases q1 : tk = 1
  · skip
    have hp : pVal ⟨tk, tn, th⟩ = [127] := by unfold pVal; rw [if_pos q1]
    rw [hp]
    clear hp
    have g1 : (tk == 1) = true := by simp [q1]
    clear q1
    go_enter Tryz.func91, Tryz.ntmps91
    go_wp2_with (at_builtin; refine app_u8 rfl (.tmp 9) (.tmp 10) _ rfl _ _ _ rfl (Out.alloc (hoo _) _) _ _ _ rfl (src_at und_bytes (hsz _) _ _ _ rfl) hb1 ?_; intro v' w3 hown3 hf3 hb3)
    go_ret
    exact ⟨v', rfl, Out.app1 (c := 127) hown3, (Ap.fr0 (((Fr.refl [] _).alloc _).alloc _)).trans (Ap.of hf3 hb3)⟩
  · by_cases q2 : tk = 2
    · skip
      have hp : pVal ⟨tk, tn, th⟩ = [126] := by unfold pVal; rw [if_neg q1, if_pos q2]
      rw [hp]
      clear hp
      have g1 : (tk == 1) = false := by simp [q1]
      have g2 : (tk == 2) = true := by simp [q2]
      clear q1 q2
      go_enter Tryz.func91, Tryz.ntmps91
      go_wp2_with (at_builtin; refine app_u8 rfl (.tmp 16) (.tmp 17) _ rfl _ _ _ rfl (Out.alloc (hoo _) _) _ _ _ rfl (src_at und_bytes (hsz _) _ _ _ rfl) hb1 ?_; intro v' w3 hown3 hf3 hb3)
      go_ret
      exact ⟨v', rfl, Out.app1 (c := 126) hown3, (Ap.fr0 (((Fr.refl [] _).alloc _).alloc _)).trans (Ap.of hf3 hb3)⟩
    · skip
      have hL : Loc (w.alloc (.cells #[.int .i64 tk, .bool tn, .int .i64 th.kind, .int .i64 th.n] 39)) w.heap.size [.int .i64 tk, .bool tn, .int .i64 th.kind, .int .i64 th.n] 39 := Loc.new _ _ _
      have hblk : w.heap.size ∉ Value.blk v := fun hm => by have := (Own.blk_lt ho _ hm).1; omega
      cases tn
      · skip
        have hp : pVal ⟨tk, false, th⟩ = 100 :: pHeap th := by unfold pVal; rw [if_neg q1, if_neg q2, if_pos rfl]
        rw [hp]
        clear hp
        have g1 : (tk == 1) = false := by simp [q1]
        have g2 : (tk == 2) = false := by simp [q2]
        clear q1 q2
        go_enter Tryz.func91, Tryz.ntmps91
        go_wp2_with first | ((at_builtin; refine app_u8 rfl (.tmp 23) (.tmp 24) _ rfl _ _ _ rfl (Out.alloc (hoo _) _) _ _ _ rfl (src_at und_bytes (hsz _) _ _ _ rfl) hb1 ?_; intro v' w3 hown3 hf3 hb3); have ho3 := Out.app1 (c := 100) hown3; have hA3 := ((Ap.fr0 (v := v) (((Fr.refl [] w).alloc _).alloc _)).trans (Ap.of hf3 hb3)); have hg3 := hg.ap hA3; have hL3 := (hL.alloc _).fr hf3 hblk; have hLC3 := hL3.cell; have hLF3 := hL3.frz; have hLT3 := hL3.lt) | (go_at_call 89; refine (putHeap_any _ hg3 _ th ho3 hn1 hn2 (by simp; omega)).mono ?_; rintro e w4 ⟨v4, rfl, ho4, hA4⟩)
        go_ret
        exact ⟨v4, rfl, by simpa using ho4, hA3.trans hA4⟩
      · skip
        by_cases q4 : th.kind = 13
        · skip
          have hp : pVal ⟨tk, true, th⟩ = 99 :: pHeap th := by unfold pVal; rw [if_neg q1, if_neg q2, if_neg (by simp), if_pos q4]
          rw [hp]
          clear hp
          have g1 : (tk == 1) = false := by simp [q1]
          have g2 : (tk == 2) = false := by simp [q2]
          have g4 : (th.kind == 13) = true := by simp [q4]
          clear q1 q2 q4
          go_enter Tryz.func91, Tryz.ntmps91
          go_wp2_with first | ((at_builtin; refine app_u8 rfl (.tmp 31) (.tmp 32) _ rfl _ _ _ rfl (Out.alloc (hoo _) _) _ _ _ rfl (src_at und_bytes (hsz _) _ _ _ rfl) hb1 ?_; intro v' w3 hown3 hf3 hb3); have ho3 := Out.app1 (c := 99) hown3; have hA3 := ((Ap.fr0 (v := v) (((Fr.refl [] w).alloc _).alloc _)).trans (Ap.of hf3 hb3)); have hg3 := hg.ap hA3; have hL3 := (hL.alloc _).fr hf3 hblk; have hLC3 := hL3.cell; have hLF3 := hL3.frz; have hLT3 := hL3.lt) | (go_at_call 89; refine (putHeap_any _ hg3 _ th ho3 hn1 hn2 (by simp; omega)).mono ?_; rintro e w4 ⟨v4, rfl, ho4, hA4⟩)
          go_ret
          exact ⟨v4, rfl, by simpa using ho4, hA3.trans hA4⟩
        · skip
          have hp : pVal ⟨tk, true, th⟩ = pHeap th := by unfold pVal; rw [if_neg q1, if_neg q2, if_neg (by simp), if_neg q4]
          rw [hp]
          clear hp
          have g4 : (th.kind == 13) = false := by simp [q4]
          have g1 : (tk == 1) = false := by simp [q1]
          have g2 : (tk == 2) = false := by simp [q2]
          clear q1 q2 q4
          go_enter Tryz.func91, Tryz.ntmps91
          have hA3 := fun o => Ap.fr0 (v := v) ((Fr.refl [] w).alloc o)
          go_wp2_with (go_at_call 89; refine (putHeap_any _ (hg.ap (hA3 _)) _ th (hoo _) hn1 hn2 (by omega)).mono ?_; rintro e w4 ⟨v4, rfl, ho4, hA4⟩)
          go_ret
          exact ⟨v4, rfl, ho4, (hA3 _).trans hA4⟩

end Go.Proofs.YtokneepfknepaaaGreatDoor

set_option linter.unusedSimpArgs false
set_option linter.unusedVariables false
namespace Go.Proofs.YtokneepfknepaaaGreatDoor
open Go.RowKit

set_option maxRecDepth 100000 in
set_option maxHeartbeats 800000 in
theorem given_h (w : World) (h : HeapT) : Calls Tryz.prog 67 #[heapV h] w fun e w' => e = .returned (.bool (givenH h)) ∧ Fr [] w w' := by
  obtain ⟨k, n⟩ := h
  unfold heapV givenH
  dsimp only
  by_cases a : 1 ≤ k
  · by_cases b : k ≤ 12
    · by_cases c : n = 0
      · rw [show decide (1 ≤ k ∧ k ≤ 12 ∧ n = 0) = true by simp; omega]
        have g : (n == 0) = true := by simpa using c
        clear c
        go_enter Tryz.func67, Tryz.ntmps67
        go_wp2
        go_ret
        exact ⟨rfl, by repeat (first | (with_reducible exact Fr.refl _ _) | (with_reducible assumption) | (with_reducible apply Fr.alloc) | (with_reducible apply Fr.drew) | (with_reducible apply Fr.drewN) | (with_reducible refine Fr.setCell ?_ (by first | (left; simp; done) | (right; simp; done) | (right; simp; omega)) _))⟩
      · rw [show decide (1 ≤ k ∧ k ≤ 12 ∧ n = 0) = false by simp; omega]
        have g : (n == 0) = false := by simpa using c
        clear c
        go_enter Tryz.func67, Tryz.ntmps67
        go_wp2
        go_ret
        exact ⟨rfl, by repeat (first | (with_reducible exact Fr.refl _ _) | (with_reducible assumption) | (with_reducible apply Fr.alloc) | (with_reducible apply Fr.drew) | (with_reducible apply Fr.drewN) | (with_reducible refine Fr.setCell ?_ (by first | (left; simp; done) | (right; simp; done) | (right; simp; omega)) _))⟩
    · rw [show decide (1 ≤ k ∧ k ≤ 12 ∧ n = 0) = false by simp; omega]
      go_enter Tryz.func67, Tryz.ntmps67
      go_wp2
      go_ret
      exact ⟨rfl, by repeat (first | (with_reducible exact Fr.refl _ _) | (with_reducible assumption) | (with_reducible apply Fr.alloc) | (with_reducible apply Fr.drew) | (with_reducible apply Fr.drewN) | (with_reducible refine Fr.setCell ?_ (by first | (left; simp; done) | (right; simp; done) | (right; simp; omega)) _))⟩
  · rw [show decide (1 ≤ k ∧ k ≤ 12 ∧ n = 0) = false by simp; omega]
    go_enter Tryz.func67, Tryz.ntmps67
    go_wp2
    go_ret
    exact ⟨rfl, by repeat (first | (with_reducible exact Fr.refl _ _) | (with_reducible assumption) | (with_reducible apply Fr.alloc) | (with_reducible apply Fr.drew) | (with_reducible apply Fr.drewN) | (with_reducible refine Fr.setCell ?_ (by first | (left; simp; done) | (right; simp; done) | (right; simp; omega)) _))⟩

set_option maxRecDepth 100000 in
set_option maxHeartbeats 800000 in
theorem indexed_h (w : World) (h : HeapT) : Calls Tryz.prog 68 #[heapV h] w fun e w' => e = .returned (.bool (indexedH h)) ∧ Fr [] w w' := by
  obtain ⟨k, n⟩ := h
  unfold heapV indexedH
  dsimp only
  by_cases a : k = 13
  · have g : (k == 13) = true := by simpa using a
    by_cases b : 0 ≤ n
    · by_cases c : n ≤ 4294967295
      · rw [show decide (k = 13 ∧ 0 ≤ n ∧ n ≤ 4294967295) = true by simp; omega]
        clear a
        go_enter Tryz.func68, Tryz.ntmps68
        go_wp2
        go_ret
        exact ⟨rfl, by repeat (first | (with_reducible exact Fr.refl _ _) | (with_reducible assumption) | (with_reducible apply Fr.alloc) | (with_reducible apply Fr.drew) | (with_reducible apply Fr.drewN) | (with_reducible refine Fr.setCell ?_ (by first | (left; simp; done) | (right; simp; done) | (right; simp; omega)) _))⟩
      · rw [show decide (k = 13 ∧ 0 ≤ n ∧ n ≤ 4294967295) = false by simp; omega]
        clear a
        go_enter Tryz.func68, Tryz.ntmps68
        go_wp2
        go_ret
        exact ⟨rfl, by repeat (first | (with_reducible exact Fr.refl _ _) | (with_reducible assumption) | (with_reducible apply Fr.alloc) | (with_reducible apply Fr.drew) | (with_reducible apply Fr.drewN) | (with_reducible refine Fr.setCell ?_ (by first | (left; simp; done) | (right; simp; done) | (right; simp; omega)) _))⟩
    · rw [show decide (k = 13 ∧ 0 ≤ n ∧ n ≤ 4294967295) = false by simp; omega]
      clear a
      go_enter Tryz.func68, Tryz.ntmps68
      go_wp2
      go_ret
      exact ⟨rfl, by repeat (first | (with_reducible exact Fr.refl _ _) | (with_reducible assumption) | (with_reducible apply Fr.alloc) | (with_reducible apply Fr.drew) | (with_reducible apply Fr.drewN) | (with_reducible refine Fr.setCell ?_ (by first | (left; simp; done) | (right; simp; done) | (right; simp; omega)) _))⟩
  · rw [show decide (k = 13 ∧ 0 ≤ n ∧ n ≤ 4294967295) = false by simp; omega]
    have g : (k == 13) = false := by simpa using a
    clear a
    go_enter Tryz.func68, Tryz.ntmps68
    go_wp2
    go_ret
    exact ⟨rfl, by repeat (first | (with_reducible exact Fr.refl _ _) | (with_reducible assumption) | (with_reducible apply Fr.alloc) | (with_reducible apply Fr.drew) | (with_reducible apply Fr.drewN) | (with_reducible refine Fr.setCell ?_ (by first | (left; simp; done) | (right; simp; done) | (right; simp; omega)) _))⟩

set_option maxRecDepth 100000 in
set_option maxHeartbeats 800000 in
theorem plainVal_any (w : World) (t : ValT) : Calls Tryz.prog 29 #[valV t] w fun e w' => e = .returned (.bool (plainVal t)) ∧ Fr [] w w' := by
  obtain ⟨k, nl, ⟨hk, hn⟩⟩ := t
  unfold valV
  dsimp only
  by_cases q1 : k = 1
  · subst q1
    go_enter Tryz.func29, Tryz.ntmps29
    go_wp2
    all_goals
      go_ret
      refine ⟨?_, by repeat (first | (with_reducible exact Fr.refl _ _) | (with_reducible assumption) | (with_reducible apply Fr.alloc) | (with_reducible apply Fr.drew) | (with_reducible apply Fr.drewN) | (with_reducible refine Fr.setCell ?_ (by first | (left; simp; done) | (right; simp; done) | (right; simp; omega)) _))⟩
      simp_all [plainVal]
  · by_cases q2 : k = 2
    · subst q2
      go_enter Tryz.func29, Tryz.ntmps29
      go_wp2
      all_goals
        go_ret
        refine ⟨?_, by repeat (first | (with_reducible exact Fr.refl _ _) | (with_reducible assumption) | (with_reducible apply Fr.alloc) | (with_reducible apply Fr.drew) | (with_reducible apply Fr.drewN) | (with_reducible refine Fr.setCell ?_ (by first | (left; simp; done) | (right; simp; done) | (right; simp; omega)) _))⟩
        simp_all [plainVal]
    · have g1 : (k == 1) = false := by simpa using q1
      have g2 : (k == 2) = false := by simpa using q2
      by_cases q3 : k = 3
      · subst q3
        cases hq : givenH ⟨hk, hn⟩
        · have hL : Loc (w.alloc (.cells #[.int .i64 3, .bool nl, .int .i64 hk, .int .i64 hn] 39)) w.heap.size [.int .i64 3, .bool nl, .int .i64 hk, .int .i64 hn] 39 := Loc.new _ _ _
          have hp : plainVal ⟨3, nl, ⟨hk, hn⟩⟩ = indexedH ⟨hk, hn⟩ := by simp [plainVal, hq]
          rw [hp]
          go_enter Tryz.func29, Tryz.ntmps29
          go_wp2_with first | (go_at_call 67; refine (given_h _ ⟨hk, hn⟩).mono ?_; rintro e w2 ⟨rfl, hF2⟩; rw [hq]; have hL2 := hL.fr hF2 (by simp); have hLC2 := hL2.cell; have hLF2 := hL2.frz; have hLT2 := hL2.lt) | (go_at_call 68; refine (indexed_h _ ⟨hk, hn⟩).mono ?_; rintro e w3 ⟨rfl, hF3⟩)
          have f2 := ((Fr.refl [] w).alloc (.cells #[.int .i64 3, .bool nl, .int .i64 hk, .int .i64 hn] 39)).trans hF2
          go_ret
          exact ⟨rfl, f2.trans hF3⟩
        · have hp : plainVal ⟨3, nl, ⟨hk, hn⟩⟩ = true := by simp [plainVal, hq]
          rw [hp]
          go_enter Tryz.func29, Tryz.ntmps29
          go_wp2_with (go_at_call 67; refine (given_h _ ⟨hk, hn⟩).mono ?_; rintro e w2 ⟨rfl, hF2⟩; rw [hq])
          go_ret
          exact ⟨rfl, ((Fr.refl [] w).alloc _).trans hF2⟩
      · have g3 : (k == 3) = false := by simpa using q3
        have hp : plainVal ⟨k, nl, ⟨hk, hn⟩⟩ = false := by simp [plainVal, q1, q2, q3]
        rw [hp]
        clear q1 q2 q3 hp
        go_enter Tryz.func29, Tryz.ntmps29
        go_wp2
        go_ret
        exact ⟨rfl, by repeat (first | (with_reducible exact Fr.refl _ _) | (with_reducible assumption) | (with_reducible apply Fr.alloc) | (with_reducible apply Fr.drew) | (with_reducible apply Fr.drewN) | (with_reducible refine Fr.setCell ?_ (by first | (left; simp; done) | (right; simp; done) | (right; simp; omega)) _))⟩

set_option maxRecDepth 100000 in
set_option maxHeartbeats 400000 in
theorem plain_any (w : World) (h : HeapT) : Calls Tryz.prog 88 #[heapV h] w fun e w' => e = .returned (.bool (plainVal ⟨3, false, h⟩)) ∧ Fr [] w w' := by
  obtain ⟨k, n⟩ := h
  unfold heapV
  dsimp only
  go_enter Tryz.func88, Tryz.ntmps88
  go_wp2_with (go_at_call 29; refine (plainVal_any _ ⟨3, false, ⟨k, n⟩⟩).mono ?_; rintro e w2 ⟨rfl, hF2⟩)
  go_ret
  exact ⟨rfl, ((Fr.refl [] w).alloc _).trans hF2⟩

set_option maxRecDepth 100000 in
set_option maxHeartbeats 800000 in
theorem PutHeap_any {w : World} (hg : Gl [] w) (h : HeapT) (hk : h.ok) :
    Calls Tryz.prog 53 #[heapV h] w fun e w' => ∃ v', e = .returned v' ∧ Out w' v' (if plainVal ⟨3, false, h⟩ then pHeap h else []) ∧ New w v' ∧ Fr [] w w' := by
  have hL : Loc (w.alloc (.cells #[.int .i64 h.kind, .int .i64 h.n] 34)) w.heap.size [.int .i64 h.kind, .int .i64 h.n] 34 := Loc.new _ _ _
  have hg1 := fun o => hg.fr ((Fr.refl [] w).alloc o) (by simp)
  have f1 := (Fr.refl [] w).alloc (.cells #[.int .i64 h.kind, .int .i64 h.n] 34)
  obtain ⟨_, hn1, hn2⟩ := hk
  cases hp : plainVal ⟨3, false, h⟩
  · unfold heapV
    go_enter Tryz.func53, Tryz.ntmps53
    go_wp2_with (go_at_call 88; refine (plain_any _ h).mono ?_; rintro e w2 ⟨rfl, hF2⟩; rw [hp])
    go_ret
    exact ⟨_, rfl, Out.nil _, New.nil _, ((Fr.refl [] w).alloc _).trans hF2⟩
  · unfold heapV
    go_enter Tryz.func53, Tryz.ntmps53
    go_wp2_with first | (go_at_call 88; refine (plain_any _ h).mono ?_; rintro e w2 ⟨rfl, hF2⟩; rw [hp]; have hL2 := hL.fr hF2 (by simp); have hg2 := (hg1 _).fr hF2 (by simp); have hLC2 := hL2.cell; have hLF2 := hL2.frz; have hLT2 := hL2.lt) | (go_at_call 89; refine (putHeap_any (.slice none 0 0) hg2 [] h (Out.nil _) hn1 hn2 (Nat.zero_le _)).mono ?_; rintro e w4 ⟨v4, rfl, ho4, hA4⟩)
    have f2 := f1.trans hF2
    go_ret
    refine ⟨v4, rfl, by simpa using ho4, ?_, f2.trans hA4.1⟩
    intro b hb
    rcases hA4.2 b hb with hb | hb
    · cases hb
    · exact Nat.le_trans f2.size hb

set_option maxRecDepth 100000 in
set_option maxHeartbeats 800000 in
theorem PutVal_any {w : World} (hg : Gl [] w) (t : ValT) (hk : t.heap.ok) :
    Calls Tryz.prog 92 #[valV t] w fun e w' => ∃ v', e = .returned v' ∧ Out w' v' (if plainVal t then pVal t else []) ∧ New w v' ∧ Fr [] w w' := by
  have hL : Loc (w.alloc (.cells #[.int .i64 t.kind, .bool t.null, .int .i64 t.heap.kind, .int .i64 t.heap.n] 39)) w.heap.size [.int .i64 t.kind, .bool t.null, .int .i64 t.heap.kind, .int .i64 t.heap.n] 39 := Loc.new _ _ _
  have hg1 := fun o => hg.fr ((Fr.refl [] w).alloc o) (by simp)
  have f1 := (Fr.refl [] w).alloc (.cells #[.int .i64 t.kind, .bool t.null, .int .i64 t.heap.kind, .int .i64 t.heap.n] 39)
  have hx : ([] : List UInt8).length + 16 ≤ 70368744177664 := by simp
  cases hp : plainVal t
  · unfold valV
    go_enter Tryz.func92, Tryz.ntmps92
    go_wp2_with (go_at_call 29; refine (plainVal_any _ t).mono ?_; rintro e w2 ⟨rfl, hF2⟩; rw [hp])
    go_ret
    exact ⟨_, rfl, Out.nil _, New.nil _, ((Fr.refl [] w).alloc _).trans hF2⟩
  · unfold valV
    go_enter Tryz.func92, Tryz.ntmps92
    go_wp2_with first | (go_at_call 29; refine (plainVal_any _ t).mono ?_; rintro e w2 ⟨rfl, hF2⟩; rw [hp]; have hL2 := hL.fr hF2 (by simp); have hg2 := (hg1 _).fr hF2 (by simp); have hLC2 := hL2.cell; have hLF2 := hL2.frz; have hLT2 := hL2.lt) | (go_at_call 91; refine (putVal_any (.slice none 0 0) hg2 [] t (Out.nil _) hk hx).mono ?_; rintro e w4 ⟨v4, rfl, ho4, hA4⟩)
    have f2 := f1.trans hF2
    go_ret
    refine ⟨v4, rfl, by simpa using ho4, ?_, f2.trans hA4.1⟩
    intro b hb
    rcases hA4.2 b hb with hb | hb
    · cases hb
    · exact Nat.le_trans f2.size hb

end Go.Proofs.YtokneepfknepaaaGreatDoor

set_option linter.unusedSimpArgs false
set_option linter.unusedVariables false
namespace Go.Proofs.YtokneepfknepaaaGreatDoor
open Go.RowKit

end Go.Proofs.YtokneepfknepaaaGreatDoor

set_option linter.unusedSimpArgs false
set_option linter.unusedVariables false
namespace Go.Proofs.YtokneepfknepaaaGreatDoor
open Go.RowKit

theorem pVal_len (t : ValT) (hk : t.heap.ok) : (pVal t).length ≤ 13 := by
  have := pHeap_len t.heap hk.2.1 hk.2.2
  unfold pVal
  split
  · simp
  · split
    · simp
    · split
      · simp; omega
      · split
        · simp; omega
        · omega

end Go.Proofs.YtokneepfknepaaaGreatDoor

set_option linter.unusedSimpArgs false
set_option linter.unusedVariables false
namespace Go.Proofs.YtokneepfknepaaaGreatDoor
open Go.RowKit

theorem flat_get {α : Type} (f : α → List Value) (k : Nat) (hk : ∀ t, (f t).length = k) : ∀ (ts : List α) (i : Nat) (t : α), ts[i]? = some t → ∀ r, r < k → (ts.flatMap f)[i * k + r]? = (f t)[r]? := by
  intro ts
  induction ts with
  | nil => intro i t h; simp at h
  | cons a ts ih =>
    intro i t h r hr
    rw [List.flatMap_cons]
    cases i with
    | zero =>
      simp at h
      subst h
      rw [List.getElem?_append_left (by rw [hk]; omega)]
      simp
    | succ i =>
      simp at h
      rw [List.getElem?_append_right (by rw [hk, Nat.succ_mul]; omega), hk, ← ih i t h r hr]
      congr 1
      rw [Nat.succ_mul]
      omega

theorem drop_one {α : Type} (ts : List α) (i : Nat) (t : α) (h : ts[i]? = some t) : ts.drop i = t :: ts.drop (i + 1) := by
  obtain ⟨h1, h2⟩ := List.getElem?_eq_some_iff.1 h
  rw [List.drop_eq_getElem_cons h1, h2]

/-- An element of a slice that is read. -/
theorem Sl.elem {α : Type} {S : List Nat} {w : World} {k : Nat} {v : Value} {f : α → List Value} {ts : List α} (h : Sl S w k v ts.length (ts.flatMap f)) (hk : ∀ t, (f t).length = k) (i : Nat) (t : α) (hi : ts[i]? = some t) :
    ∃ b off cap, v = .slice (some ⟨b, off, none⟩) ts.length cap ∧ b < w.heap.size ∧ b ∉ S ∧ ∀ r, r < k → w.cell? ⟨b, off + (i * k + r), none⟩ = (f t)[r]? := by
  obtain ⟨h1, h2, a, cap, rfl, h4, h5, hN, h6⟩ := h
  have hlt : i < ts.length := (List.getElem?_eq_some_iff.1 hi).1
  rcases h6 with h6 | ⟨b, off, rfl, hn, hb, hc⟩
  · omega
  · refine ⟨b, off, cap, rfl, hb, hn, fun r hr => ?_⟩
    have h7 : i * k + r < ts.length * k := by
      have := Nat.mul_le_mul_right k (show i + 1 ≤ ts.length from hlt)
      rw [Nat.succ_mul] at this
      omega
    rw [hc _ h7, flat_get f k hk ts i t hi r hr]

end Go.Proofs.YtokneepfknepaaaGreatDoor

set_option linter.unusedSimpArgs false
set_option linter.unusedVariables false
namespace Go.Proofs.YtokneepfknepaaaGreatDoor
open Go.RowKit

end Go.Proofs.YtokneepfknepaaaGreatDoor

set_option linter.unusedSimpArgs false
set_option linter.unusedVariables false
namespace Go.Proofs.YtokneepfknepaaaGreatDoor
open Go.RowKit

theorem flat_len {α : Type} (p : α → List UInt8) (c : Nat) : ∀ (ts : List α), (∀ t, t ∈ ts → (p t).length ≤ c) → (ts.flatMap p).length ≤ c * ts.length
  | [], _ => by simp
  | t :: ts, h => by
    have h1 := h t (by simp)
    have h2 := flat_len p c ts (fun u hu => h u (by simp [hu]))
    rw [List.flatMap_cons, List.length_append, List.length_cons, Nat.mul_succ]
    omega
theorem take_one {α : Type} (ts : List α) (i : Nat) (t : α) (h : ts[i]? = some t) : ts.take (i + 1) = ts.take i ++ [t] := by
  rw [List.take_add_one, h]
  rfl
set_option maxRecDepth 100000 in
set_option maxHeartbeats 1600000 in
theorem putList_val {w : World} (v : Value) (hg : Gl (Value.blk v) w) (xs : List UInt8) (sv : Value) (ts : List ValT) (h : Sl (Value.blk v) w 4 sv ts.length (ts.flatMap valC)) (hok : ∀ t, t ∈ ts → t.heap.ok)
    (ho : Out w v xs) (hx : xs.length + 16 * ts.length + 64 ≤ 70368744177664) :
    Calls Tryz.prog 90 #[v, sv, .func (.func 91) #[] #[]] w fun e w' => ∃ v', e = .returned v' ∧ Out w' v' (xs ++ pList pVal ts) ∧ Ap w v w' v' := by
  have hh := h
  obtain ⟨_, _, a, cap, rfl, _⟩ := h
  have hN : ts.length < 18446744073709551616 := by omega
  have hlen := putU_len ts.length hN
  have hb1 : xs.length + (putU ts.length).length ≤ 140737488355328 := by omega
  have hpl : ∀ i, ((ts.take i).flatMap pVal).length ≤ 16 * ts.length := by
    intro i
    have h1 := flat_len pVal 16 (ts.take i) (fun t ht => Nat.le_trans (pVal_len t (hok t (List.mem_of_mem_take ht))) (by omega))
    have h2 : (ts.take i).length ≤ ts.length := by rw [List.length_take]; omega
    have := Nat.mul_le_mul_left 16 h2
    omega
  go_enter Tryz.func90, Tryz.ntmps90
  go_wp2_with first | (go_at_call 50; refine (PutU_any ts.length _ hN).mono ?_; rintro e w2 ⟨v2, rfl, ho2, hN2, hF2⟩; have hs2 := ho2.sl (S' := []) (by simp); have hoo2 := Own.fr ho hF2 (by simp)) | (at_builtin; refine app_u8 rfl (.tmp 9) (.tmp 13) _ rfl _ _ _ rfl hoo2 _ _ _ rfl (hs2.src und_bytes) hb1 ?_; intro v3 w3 hown3 hf3 hb3)
  have ho3 : Out w3 v3 (xs ++ putU ts.length) := Out.app hown3
  have hA3 : Ap w v w3 v3 := (Ap.fr0 hF2).trans (Ap.of hf3 hb3)
  go_loopw [0, 17] (fun u n wr => ∃ (i : Nat), n = .int .i64 i ∧ i ≤ ts.length ∧ Out wr u (xs ++ (putU ts.length ++ (ts.take i).flatMap pVal)) ∧ Ap w v wr u) (fun _ n _ => ts.length - (intOf n).toNat)
  case atStart => exact ⟨0, rfl, by omega, by simpa using ho3, hA3⟩
  case round =>
    obtain ⟨i, rfl, hi, hoi, hAi⟩ := hrel
    have hF := hAi.1
    by_cases hlt : i < ts.length
    · obtain ⟨t, ht⟩ : ∃ t, ts[i]? = some t := ⟨ts[i], by simp [hlt]⟩
      obtain ⟨b, off, cap2, hv, hb, hnS, hc⟩ := Sl.elem hh (fun _ => rfl) i t ht
      injection hv with hv1 hv2 hv3
      subst hv1 hv3
      have hbw : b < wr.heap.size := Nat.lt_of_lt_of_le hb hF.size
      have htm : t ∈ ts := List.mem_of_getElem? ht
      have hpi := hpl i
      have hx2 : (xs ++ (putU ts.length ++ (ts.take i).flatMap pVal)).length + 16 ≤ 70368744177664 := by rw [List.length_append, List.length_append]; omega
      have e0 := (hF.cell hb hnS _).trans (hc 0 (by decide))
      have e1 := (hF.cell hb hnS _).trans (hc 1 (by decide))
      have e2 := (hF.cell hb hnS _).trans (hc 2 (by decide))
      have e3 := (hF.cell hb hnS _).trans (hc 3 (by decide))
      simp only [Nat.add_zero, ← Nat.add_assoc, valC, List.getElem?_cons_zero, List.getElem?_cons_succ] at e0 e1 e2 e3
      have hoa := fun o => Out.alloc hoi o
      have hAa := fun o => hAi.alloc o
      have hokt := hok t htm
      go_wp2_with (go_at_call 91; refine (putVal_any _ (hg.ap (hAa _)) _ t (hoa _) hokt hx2).mono ?_; rintro e w4 ⟨v4, rfl, ho4, hA4⟩)
      go_roundw
      case rel => exact ⟨i + 1, by go_num, by omega, by rw [take_one ts i t ht, List.flatMap_append]; simpa using ho4, (hAa _).trans hA4⟩
      case measure => simp [intOf]; omega
    · have hk : i = ts.length := by omega
      subst hk
      go_wp2
      go_ret
      exact ⟨_, rfl, by simpa [pList] using hoi, hAi⟩

end Go.Proofs.YtokneepfknepaaaGreatDoor

set_option linter.unusedSimpArgs false
set_option linter.unusedVariables false
namespace Go.Proofs.YtokneepfknepaaaGreatDoor
open Go.RowKit

theorem HeapT.ok_given {h : HeapT} (g : givenH h = true) : h.ok := by
  simp only [givenH, decide_eq_true_eq] at g
  unfold HeapT.ok
  omega
theorem HeapT.ok_indexed {h : HeapT} (g : indexedH h = true) : h.ok := by
  simp only [indexedH, decide_eq_true_eq] at g
  unfold HeapT.ok
  omega
theorem plainVal_ok {v : ValT} (h : plainVal v = true) : v.heap.ok := by
  unfold plainVal at h
  split at h
  · simp only [decide_eq_true_eq] at h
    rw [h]
    unfold HeapT.ok
    simp
  · split at h
    · simp only [Bool.or_eq_true] at h
      rcases h with h | h
      · exact HeapT.ok_given h
      · exact HeapT.ok_indexed h
    · cases h
end Go.Proofs.YtokneepfknepaaaGreatDoor

set_option linter.unusedSimpArgs false
set_option linter.unusedVariables false
namespace Go.Proofs.YtokneepfknepaaaGreatDoor
open Go.ChangeShapes Go.WideShapes Go.ChangeAt Go.RowKit Go.Joins

section
set_option maxRecDepth 100000
variable {H : Type} {enc : TypeId × Value → H} {P : Program} {w : World} {sp : Nat → Bool} {held : Bool}

theorem addr_add (b off j : Nat) : (⟨b, off, none⟩ : Addr).add j = ⟨b, off + j, none⟩ := by unfold Addr.add; split <;> simp_all

theorem trod_slice_sl {α : Type} [Inhabited α] (f : α → List Value) (k : Nat) (Q : α → Prop) {t e : TypeId} (ht : P.underlying t = some (.slice e)) (hk : P.cellsOf e = k) (hk0 : 0 < k) (hf : ∀ a, (f a).length = k) (h1 : ∀ a, Q a → ∀ u ∈ f a, u.oneCell' = true)
    (hel : ∀ fuel cs x, DataW.trod enc P w 0 sp held fuel e cs = some x → ∃ a, cs = f a ∧ Q a) {fuel : Nat} {cs : List Value} {x : DataW H × List MemPlace} (h : DataW.trod enc P w 0 sp held fuel t cs = some x) :
    ∃ (v : Value) (l : List α), cs = [v] ∧ Sl [] w k v l.length (l.flatMap f) ∧ (∀ a, a ∈ l → Q a) := by
  rcases Go.Deep.open_slice ht h with ⟨rfl, _⟩ | ⟨a, len, cap, m, n, D, Pl, rfl, _, hl, hm, hmm, _, hx⟩
  · exact ⟨_, [], rfl, Sl.nil _ _ _, fun _ h => by cases h⟩
  · have hlm : len ≤ m := by rw [hmm]; split <;> omega
    obtain ⟨A, hA⟩ := Go.Deep.choose_lt (α := α) (p := fun i b => w.cells? 0 (a.add (i * P.cellsOf e)) (P.cellsOf e) = some (f b) ∧ Q b) (n := m) (fun i hi => by
      obtain ⟨cs', c1, c2⟩ := hx i hi
      obtain ⟨a', rfl, q⟩ := hel _ _ _ c2
      exact ⟨a', c1, q⟩)
    rw [hk] at hA
    have hLen : ((List.range len).map A).length = len := by simp
    have hQ : ∀ a', a' ∈ (List.range len).map A → Q a' := by
      intro a' ha'
      obtain ⟨i, hi, rfl⟩ := List.mem_map.1 ha'
      exact (hA i (by have := List.mem_range.1 hi; omega)).2
    refine ⟨_, (List.range len).map A, rfl, ?_, hQ⟩
    rw [hLen]
    refine ⟨?_, ?_, some a, cap, rfl, hl, hm, fun h => (by cases h), ?_⟩
    · have : ∀ (l : List α), (l.flatMap f).length = l.length * k := by
        intro l
        induction l with
        | nil => simp
        | cons b l ih => rw [List.flatMap_cons, List.length_append, hf, ih, List.length_cons, Nat.add_mul]; omega
      rw [this, hLen]
    · intro u hu
      obtain ⟨a', ha', hu⟩ := List.mem_flatMap.1 hu
      exact h1 a' (hQ a' ha') u hu
    · by_cases h0 : len = 0
      · exact .inl h0
      · right
        obtain ⟨b, off, spot⟩ := a
        have hcell : ∀ i, i < len → ∀ r, r < k → w.cell? (((⟨b, off, spot⟩ : Addr).add (i * k)).add r) = (f (A i))[r]? := fun i hi r hr => (World.cells?_some (hA i (by omega)).1).2.2 r hr
        have hspot : spot = none := by
          have hc0 := hcell 0 (by omega) 0 hk0
          rw [List.getElem?_eq_getElem (by rw [hf]; exact hk0)] at hc0
          simpa [Addr.add] using World.cell?_spot hc0
        subst hspot
        have hcell' : ∀ i, i < len → ∀ r, r < k → w.cell? ⟨b, off + (i * k + r), none⟩ = (f (A i))[r]? := fun i hi r hr => by
          rw [← hcell i hi r hr, addr_add, addr_add, Nat.add_assoc]
        refine ⟨b, off, rfl, by simp, ?_, fun j hj => ?_⟩
        · have hc0 := hcell' 0 (by omega) 0 hk0
          rw [List.getElem?_eq_getElem (by rw [hf]; exact hk0)] at hc0
          rcases Nat.lt_or_ge b w.heap.size with hlt | hge
          · exact hlt
          · exfalso
            have : w.heap[b]? = none := Array.getElem?_eq_none hge
            simp [World.cell?, this] at hc0
        · have hjd : j = (j / k) * k + j % k := by rw [Nat.mul_comm]; exact (Nat.div_add_mod j k).symm
          have hjk : j / k < len := Nat.div_lt_of_lt_mul (by rw [Nat.mul_comm]; exact hj)
          have hjr : j % k < k := Nat.mod_lt _ hk0
          rw [hjd, hcell' _ hjk _ hjr, flat_get f k hf _ (j / k) (A (j / k)) (by simp [hjk]) _ hjr]
end

theorem und_int : Tryz.prog.underlying 3 = some (.int .i64) := by kernel_rfl
theorem und_bool : Tryz.prog.underlying 4 = some .bool := by kernel_rfl
theorem und_vkind : Tryz.prog.underlying 37 = some (.int .i64) := by kernel_rfl
theorem und_hkind : Tryz.prog.underlying 32 = some (.int .i64) := by kernel_rfl
theorem cells_int : Tryz.prog.cellsOf 3 = 1 := by kernel_rfl
theorem cells_bool : Tryz.prog.cellsOf 4 = 1 := by kernel_rfl
theorem cells_hkind : Tryz.prog.cellsOf 32 = 1 := by kernel_rfl
theorem cells_vkind : Tryz.prog.cellsOf 37 = 1 := by kernel_rfl
theorem cells_heap : Tryz.prog.cellsOf 34 = 2 := by kernel_rfl
theorem cells_val : Tryz.prog.cellsOf 39 = 4 := by kernel_rfl
theorem cells_vals : Tryz.prog.cellsOf 35 = 1 := by kernel_rfl
theorem wf_i64 {n : Int} (h : (Lit.int .i64 n).wf = true) : -9223372036854775808 ≤ n ∧ n < 9223372036854775808 := by
  simp [Lit.wf, IntKind.min, IntKind.max, IntKind.signed, IntKind.bits] at h
  omega
section
set_option maxRecDepth 100000
variable {H : Type} {enc : TypeId × Value → H} {w : World} {sp : Nat → Bool} {held : Bool} {fuel : Nat} {cs : List Value} {x : DataW H × List MemPlace}
def I64 (n : Int) : Prop := -9223372036854775808 ≤ n ∧ n < 9223372036854775808
def ValT.ok (v : ValT) : Prop := I64 v.kind ∧ v.heap.ok
def FieldT.ok (f : FieldT) : Prop := I64 f.pack ∧ f.val.ok

theorem arg_heap (h : DataW.trod enc Tryz.prog w 0 sp held fuel 34 cs = some x) : ∃ t : HeapT, cs = heapC t ∧ t.ok := by
  obtain ⟨y0, y1, n, _, hl, h0, h1⟩ := trod_struct2 Tryz.underlying34 h
  rw [cells_heap] at hl
  match cs, hl with
  | [c0, c1], _ =>
    simp only [List.drop, List.take, cells_hkind, cells_int] at h0 h1
    obtain ⟨k, e0, _, w0⟩ := DataW.trod_int und_hkind h0
    obtain ⟨m, e1, _, w1⟩ := DataW.trod_int und_int h1
    simp only [List.cons.injEq, and_true] at e0 e1
    subst e0 e1
    exact ⟨⟨k, m⟩, rfl, wf_i64 w0, wf_i64 w1⟩
theorem arg_val (h : DataW.trod enc Tryz.prog w 0 sp held fuel 39 cs = some x) : ∃ t : ValT, cs = valC t ∧ t.ok := by
  obtain ⟨y0, y1, y2, n, _, hl, h0, h1, h2⟩ := Go.Deep.trod_struct3 Tryz.underlying39 h
  rw [cells_val] at hl
  match cs, hl with
  | [c0, c1, c2, c3], _ =>
    simp only [List.drop, List.take, cells_vkind, cells_bool, cells_heap] at h0 h1 h2
    obtain ⟨k, e0, _, w0⟩ := DataW.trod_int und_vkind h0
    obtain ⟨b, e1, _⟩ := DataW.trod_bool und_bool h1
    obtain ⟨t, e2, ok⟩ := arg_heap h2
    simp only [heapC, List.cons.injEq, and_true] at e0 e1 e2
    obtain ⟨e2, e3⟩ := e2
    subst e0 e1 e2 e3
    exact ⟨⟨k, b, t⟩, rfl, wf_i64 w0, ok⟩
theorem arg_vals (h : DataW.trod enc Tryz.prog w 0 sp held fuel 35 cs = some x) : ∃ (v : Value) (l : List ValT), cs = [v] ∧ Sl [] w 4 v l.length (l.flatMap valC) ∧ ∀ a, a ∈ l → a.ok :=
  trod_slice_sl valC 4 ValT.ok und_vals cells_val (by decide) (fun _ => rfl) (fun a _ u hu => by simp [valC] at hu; rcases hu with rfl | rfl | rfl | rfl <;> rfl) (fun _ _ _ h => arg_val h) h
end
end Go.Proofs.YtokneepfknepaaaGreatDoor

set_option linter.unusedSimpArgs false
set_option linter.unusedVariables false
namespace Go.Proofs.YtokneepfknepaaaGreatDoor
open Go.RowKit

theorem step_app_u8 {w : World} {ops : Array Oper} {o : Oper} {a : Act} {K : Act → World → Prop} {Q : Exit → Act → World → Prop} {E : Prop} (hgd : o.guard = none) (s x : Operand) (tx : TypeId)
    (ho : o.op = .call { callee := .builtin .append, args := #[s, x], argTypes := #[26, tx] })
    (v : Value) (n : Nat) (xs : List Value) (hs : a.eval s = v) (hown : Own [] w 5 1 v n xs) (xv : Value) (m : Nat) (news : List Value) (hx : a.eval x = xv) (hsrc : Src Tryz.prog 1 tx xv m news w)
    (hb : n + m ≤ 140737488355328)
    (h : ∀ v' w', Own [] w' 5 1 v' (n + m) (xs ++ news) → Fr (Value.blk v) w w' → (Value.blk v' = Value.blk v ∨ Value.blk v' = [w.heap.size]) → K (a.put o.dst v') w') :
    if Region.wanted o (yielded ops a.tmps) = true then Oper.wp Tryz.prog o a w K Q else E := by
  have hw : Region.wanted o (yielded ops a.tmps) = true := by simp [Region.wanted, hgd]
  rw [if_pos hw]
  obtain ⟨i0, hi, hz0, hz1, hz2⟩ := info_parts info_u8
  obtain ⟨v', w', h1, h2, h3, h4⟩ := run_app (P := Tryz.prog) (S := []) w 26 tx o.type 5 i0 _ 1 1 und_bytes hi hz0 hz1 hz2 rfl (by decide) (by simp) hown hsrc (by omega) (by unfold maxLen; omega)
  unfold Oper.wp execOp
  simp only [ho, resolve, invoke, builtin, Sem.run_bind, Sem.run_pure, Result.andThen_ok, List.map_toArray, List.map_cons, List.map_nil, hs, hx, h1]
  exact h _ _ h2 h3 h4
theorem Own.drew {S : List Nat} {w : World} {e : TypeId} {k n : Nat} {v : Value} {xs : List Value} (h : Own S w e k v n xs) : Own S w.drew e k v n xs := h.fr (Fr.refl [] w).drew (by simp)
theorem Out.drew {w : World} {v : Value} {xs : List UInt8} (h : Out w v xs) : Out w.drew v xs := Own.drew h
theorem Sl.ap {w w' : World} {v v' sv : Value} {k n : Nat} {cs : List Value} (h : Sl (Value.blk v) w k sv n cs) (hA : Ap w v w' v') : Sl (Value.blk v') w' k sv n cs := by
  obtain ⟨h1, h2, a, cap, h3, h4, h5, hN, h6⟩ := h
  refine ⟨h1, h2, a, cap, h3, h4, h5, hN, ?_⟩
  rcases h6 with h6 | ⟨b, off, e, hn, hb, hc⟩
  · exact .inl h6
  · refine .inr ⟨b, off, e, fun hm => ?_, Nat.lt_of_lt_of_le hb hA.1.size, fun j hj => ?_⟩
    · rcases hA.2 b hm with h | h
      · exact hn h
      · omega
    · rw [hA.1.cell hb hn]; exact hc j hj
theorem Loc.ap {w w' : World} {v v' : Value} {b : Nat} {c : List Value} {T : TypeId} (h : Loc w b c T) (hA : Ap w v w' v') (hn : b ∉ Value.blk v) : Loc w' b c T := h.fr hA.1 hn
theorem Ap.not {w w' : World} {v v' : Value} (hA : Ap w v w' v') {b : Nat} (hb : b < w.heap.size) (hn : b ∉ Value.blk v) : b ∉ Value.blk v' := fun hm => (hA.2 b hm).elim hn (fun h => by omega)
theorem Out.not {w : World} {v : Value} {xs : List UInt8} (h : Out w v xs) : w.heap.size ∉ Value.blk v := fun hm => by have := (Own.blk_lt h _ hm).1; omega
/-- What the numbers of a type hold. -/
structure SubT.ok (t : SubT) : Prop where
  sup : ∀ h, h ∈ t.supers → 0 ≤ h.n ∧ h.n < 9223372036854775808
  par : ∀ x, x ∈ t.comp.params → x.heap.ok
  res : ∀ x, x ∈ t.comp.results → x.heap.ok
  fld : ∀ x, x ∈ t.comp.fields → x.val.heap.ok
def SubT.len (t : SubT) : Nat := t.supers.length + t.comp.params.length + t.comp.results.length + t.comp.fields.length
end Go.Proofs.YtokneepfknepaaaGreatDoor

set_option linter.unusedSimpArgs false
set_option linter.unusedVariables false
namespace Go.Proofs.YtokneepfknepaaaGreatDoor
open Go.RowKit

inductive Res where
  | loc (b : Nat) (cs : List Value) (T : TypeId)
  | own (e : TypeId) (k : Nat) (v : Value) (n : Nat) (xs : List Value)
def Res.blk : Res → List Nat
  | .loc b _ _ => [b]
  | .own _ _ v _ _ => Value.blk v
def Res.on (w : World) : Res → Prop
  | .loc b cs T => Loc w b cs T
  | .own e k v n xs => Own [] w e k v n xs
def Res.out (v : Value) (xs : List UInt8) : Res := .own 5 1 v xs.length (xs.map B)

theorem Res.on_lt {w : World} : ∀ {r : Res}, r.on w → ∀ b, b ∈ r.blk → b < w.heap.size
  | .loc b cs T, h, c, hc => by
    obtain rfl : c = b := by simpa [Res.blk] using hc
    exact Loc.lt h
  | .own e k v n xs, h, c, hc => (Own.blk_lt h c hc).1
theorem Res.on_fr {w w' : World} {S : List Nat} (hf : Fr S w w') : ∀ {r : Res}, r.on w → (∀ b, b ∈ r.blk → b ∉ S) → r.on w'
  | .loc b cs T, h, hn => Loc.fr h hf (hn b (by simp [Res.blk]))
  | .own e k v n xs, h, hn => Own.fr h hf (fun b hb hm => hn b hm hb)

structure St (S : List Nat) (w0 w : World) (G : List Res) : Prop where
  fr : Fr S w0 w
  all : ∀ r, r ∈ G → r.on w
  new : ∀ r, r ∈ G → ∀ b, b ∈ r.blk → w0.heap.size ≤ b
  apart : G.Pairwise (fun r s => ∀ b, b ∈ r.blk → b ∉ s.blk)

/-- One thing of a list, and the others. -/
inductive Pick {α : Type} : List α → α → List α → Prop
  | here {r : α} {G : List α} : Pick (r :: G) r G
  | there {s r : α} {G G' : List α} : Pick G r G' → Pick (s :: G) r (s :: G')
/-- Some things of a list. -/
inductive Sel {α : Type} : List α → List α → Prop
  | all {G : List α} : Sel G G
  | nil {G : List α} : Sel G []
  | cons {r : α} {G G1 G' : List α} : Pick G r G1 → Sel G1 G' → Sel G (r :: G')
  | skip {r : α} {G G' : List α} : Sel G G' → Sel (r :: G) G'

theorem Pick.mem {α : Type} {G G' : List α} {r : α} (h : Pick G r G') : ∀ s, s ∈ G ↔ s = r ∨ s ∈ G' := by
  induction h with
  | here => intro s; simp
  | there h ih => intro s; rw [List.mem_cons, ih, List.mem_cons]; constructor <;> rintro (h | h | h) <;> simp [h]
theorem Pick.apart {G G' : List Res} {r : Res} (h : Pick G r G') (ha : G.Pairwise (fun r s => ∀ b, b ∈ r.blk → b ∉ s.blk)) :
    (r :: G').Pairwise (fun r s => ∀ b, b ∈ r.blk → b ∉ s.blk) := by
  induction h with
  | here => exact ha
  | @there s r G G' h ih =>
    rw [List.pairwise_cons] at ha
    have h2 := ih ha.2
    rw [List.pairwise_cons] at h2
    rw [List.pairwise_cons, List.pairwise_cons]
    refine ⟨fun x hx b hb hb' => ?_, fun x hx => ha.1 x ((h.mem x).2 (.inr hx)), h2.2⟩
    rcases List.mem_cons.1 hx with rfl | hx
    · exact ha.1 r ((h.mem r).2 (.inl rfl)) b hb' hb
    · exact h2.1 x hx b hb hb'
section
variable {S : List Nat} {w0 w : World} {G G' : List Res}
theorem St.start (S : List Nat) (w : World) : St S w w [] := ⟨Fr.refl _ _, (fun _ h => by cases h), (fun _ h => by cases h), List.Pairwise.nil⟩
theorem St.pick (h : St S w0 w G) {r : Res} (p : Pick G r G') : St S w0 w (r :: G') :=
  ⟨h.fr, fun s hs => h.all s ((p.mem s).2 (List.mem_cons.1 hs)), fun s hs => h.new s ((p.mem s).2 (List.mem_cons.1 hs)), p.apart h.apart⟩
theorem St.tail {r : Res} (h : St S w0 w (r :: G)) : St S w0 w G :=
  ⟨h.fr, fun s hs => h.all s (List.mem_cons_of_mem _ hs), fun s hs => h.new s (List.mem_cons_of_mem _ hs), (List.pairwise_cons.1 h.apart).2⟩
theorem Pick.of_mem {α : Type} {G G' : List α} {r : α} (h : Pick G r G') {s : α} (hs : s ∈ G') : s ∈ G := (h.mem s).2 (.inr hs)
theorem Sel.mem {α : Type} {G G' : List α} (h : Sel G G') : ∀ s, s ∈ G' → s ∈ G := by
  induction h with
  | all => exact fun _ h => h
  | nil => exact fun _ h => by cases h
  | cons p _ ih => exact fun s hs => (List.mem_cons.1 hs).elim (fun e => (p.mem s).2 (.inl e)) (fun hs => p.of_mem (ih s hs))
  | skip _ ih => exact fun s hs => List.mem_cons_of_mem _ (ih s hs)
theorem Sel.apart {G G' : List Res} (h : Sel G G') (ha : G.Pairwise (fun r s => ∀ b, b ∈ r.blk → b ∉ s.blk)) : G'.Pairwise (fun r s => ∀ b, b ∈ r.blk → b ∉ s.blk) := by
  induction h with
  | all => exact ha
  | nil => exact List.Pairwise.nil
  | cons p q ih =>
    have h1 := List.pairwise_cons.1 (p.apart ha)
    exact List.pairwise_cons.2 ⟨fun s hs => h1.1 s (q.mem s hs), ih h1.2⟩
  | skip _ ih => exact ih (List.pairwise_cons.1 ha).2
theorem St.sel (h : St S w0 w G) (p : Sel G G') : St S w0 w G' :=
  ⟨h.fr, fun s hs => h.all s (p.mem s hs), fun s hs => h.new s (p.mem s hs), p.apart h.apart⟩
theorem St.lt (h : St S w0 w G) {r : Res} (hr : r ∈ G) {b : Nat} (hb : b ∈ r.blk) : b < w.heap.size := Res.on_lt (h.all r hr) b hb
theorem St.step (h : St S w0 w G) {S' : List Nat} {w' : World} (hf : Fr S' w w') (hS : ∀ b, b ∈ S' → b ∈ S ∧ b < w0.heap.size) : St S w0 w' G :=
  ⟨h.fr.then hf (fun b hb => .inl (hS b hb).1), fun r hr => Res.on_fr hf (h.all r hr) (fun b hb hm => by have := h.new r hr b hb; have := (hS b hm).2; omega), h.new, h.apart⟩
theorem St.step0 (h : St S w0 w G) {w' : World} (hf : Fr [] w w') : St S w0 w' G := h.step hf (by simp)
theorem St.drew (h : St S w0 w G) : St S w0 w.drew G := h.step0 ((Fr.refl _ _).drew)
theorem St.drewN (h : St S w0 w G) (n : Nat) : St S w0 (w.drewN n) G := h.step0 ((Fr.refl _ _).drewN n)
theorem St.alloc' (h : St S w0 w G) (o : Obj) : St S w0 (w.alloc o) G := h.step0 ((Fr.refl _ _).alloc o)
theorem St.put (h : St S w0 w G) {r : Res} (hr : r.on w) (hn : ∀ b, b ∈ r.blk → w0.heap.size ≤ b) (ha : ∀ b, b ∈ r.blk → ∀ s, s ∈ G → b ∉ s.blk) : St S w0 w (r :: G) :=
  ⟨h.fr, fun s hs => (List.mem_cons.1 hs).elim (fun e => e ▸ hr) (h.all s), fun s hs => (List.mem_cons.1 hs).elim (fun e => e ▸ hn) (h.new s),
    List.pairwise_cons.2 ⟨fun s hs b hb => ha b hb s hs, h.apart⟩⟩
theorem St.alloc (h : St S w0 w G) (cs : List Value) (T : TypeId) : St S w0 (w.alloc (.cells cs.toArray T)) (.loc w.heap.size cs T :: G) := by
  refine (h.alloc' _).put (Loc.new w cs T) (fun b hb => ?_) (fun b hb s hs hm => ?_)
  · obtain rfl : b = w.heap.size := by simpa [Res.blk] using hb
    exact h.fr.size
  · obtain rfl : b = w.heap.size := by simpa [Res.blk] using hb
    exact Nat.lt_irrefl _ (h.lt hs hm)
/-- What a call of a function brings that has memory of its own. -/
theorem St.call (h : St S w0 w G) {S' : List Nat} {w' : World} {D : List Res} (k : St S' w w' D) (hS : ∀ b, b ∈ S' → b ∈ S ∧ b < w0.heap.size) : St S w0 w' (D ++ G) := by
  have h1 := h.step k.fr hS
  refine ⟨h1.fr, fun r hr => (List.mem_append.1 hr).elim (k.all r) (h1.all r), fun r hr b hb => ?_, ?_⟩
  · rcases List.mem_append.1 hr with hr | hr
    · exact Nat.le_trans h.fr.size (k.new r hr b hb)
    · exact h.new r hr b hb
  · refine List.pairwise_append.2 ⟨k.apart, h.apart, fun r hr s hs b hb hm => ?_⟩
    have h2 := k.new r hr b hb
    have h3 := h.lt hs hm
    omega
/-- What a thing becomes that a call may change. -/
theorem St.turn {r : Res} (h : St S w0 w (r :: G)) {S' : List Nat} {w' : World} {r' : Res} (hf : Fr (r.blk ++ S') w w') (hS : ∀ b, b ∈ S' → b ∈ S ∧ b < w0.heap.size) (hr : r'.on w') (hb : ∀ b, b ∈ r'.blk → b ∈ r.blk ∨ w.heap.size ≤ b) :
    St S w0 w' (r' :: G) := by
  have ha := List.pairwise_cons.1 h.apart
  have hn := h.new r (by simp)
  have hsz := h.fr.size
  have h0 : St S w0 w' G := by
    refine ⟨h.fr.then hf (fun b hb => ?_), fun s hs => Res.on_fr hf (h.all s (by simp [hs])) (fun b hb hm => ?_), fun s hs => h.new s (by simp [hs]), ha.2⟩
    · rcases List.mem_append.1 hb with hb | hb
      · exact .inr (hn b hb)
      · exact .inl (hS b hb).1
    · rcases List.mem_append.1 hm with hm | hm
      · exact ha.1 s hs b hm hb
      · have := h.new s (by simp [hs]) b hb
        have := (hS b hm).2
        omega
  refine h0.put hr (fun b hb' => ?_) (fun b hb' s hs hm => ?_)
  · rcases hb b hb' with h | h
    · exact hn b h
    · omega
  · rcases hb b hb' with h1 | h1
    · exact ha.1 s hs b h1 hm
    · have := h.lt (r := s) (by simp [hs]) hm
      omega
theorem St.app {e : TypeId} {k n n' : Nat} {v v' : Value} {xs xs' : List Value} (h : St S w0 w (.own e k v n xs :: G)) {w' : World} (hf : Fr (Value.blk v) w w') (ho : Own [] w' e k v' n' xs') (hb : Value.blk v' = Value.blk v ∨ Value.blk v' = [w.heap.size]) :
    St S w0 w' (.own e k v' n' xs' :: G) := by
  refine h.turn (S' := []) (r' := .own e k v' n' xs') (by simpa [Res.blk] using hf) (by simp) ho (fun b hm => ?_)
  rcases hb with hb | hb
  · left; simpa [Res.blk, hb] using hm
  · right
    have : b = w.heap.size := by simpa [Res.blk, hb] using hm
    omega
theorem St.ap {v v' : Value} {xs ys : List UInt8} (h : St S w0 w (Res.out v xs :: G)) {w' : World} (ho : Out w' v' ys) (ha : Ap w v w' v') : St S w0 w' (Res.out v' ys :: G) :=
  h.turn (S' := []) (r' := Res.out v' ys) (by simpa [Res.blk, Res.out] using ha.1) (by simp) ho (fun b hm => ha.2 b hm)
theorem St.head {r : Res} (h : St S w0 w (r :: G)) : r.on w := h.all r (by simp)
theorem St.set {b : Nat} {cs : List Value} {T : TypeId} (h : St S w0 w G) (p : Pick G (.loc b cs T) G') (i : Nat) (u : Value) : St S w0 (w.setCell ⟨b, i, none⟩ u) (.loc b (cs.set i u) T :: G') :=
  (h.pick p).turn (S' := []) (r' := .loc b (cs.set i u) T) (by simpa [Res.blk] using (Fr.refl [b] w).setCell (p := ⟨b, i, none⟩) (by simp) u) (by simp) (Loc.set ((h.pick p).head) i u) (fun c hc => .inl hc)
theorem St.loc {b : Nat} {cs : List Value} {T : TypeId} (h : St S w0 w G) (p : Pick G (.loc b cs T) G') : Loc w b cs T := (h.pick p).head
theorem St.own {e : TypeId} {k n : Nat} {v : Value} {xs : List Value} (h : St S w0 w G) (p : Pick G (.own e k v n xs) G') : Own [] w e k v n xs := (h.pick p).head
theorem St.outOf {v : Value} {xs : List UInt8} (h : St S w0 w G) (p : Pick G (Res.out v xs) G') : Out w v xs := (h.pick p).head
theorem St.sl {k n : Nat} {v : Value} {cs : List Value} (h : St S w0 w G) (hs : Sl S w0 k v n cs) : Sl S w k v n cs := hs.fr h.fr (fun _ _ h => h)
theorem St.gl (h : St S w0 w G) (hs : Gl S w0) : Gl S w := hs.fr h.fr (fun _ _ h => h)
end

/-- What a world's cells are, so far as they are known. -/
def Res.fact (w : World) : Res → Prop
  | .loc b cs _ => (∀ o, w.cell? ⟨b, o, none⟩ = cs[o]?) ∧ (∀ o, w.frozen? ⟨b, o, none⟩ = false) ∧ b < w.heap.size
  | .own .. => True
def Facts (w : World) : List Res → Prop
  | [] => True
  | r :: G => r.fact w ∧ Facts w G
theorem St.facts {S : List Nat} {w0 w : World} : ∀ {G : List Res}, St S w0 w G → Facts w G
  | [], _ => trivial
  | .loc b cs T :: G, h => by
    have hl : Loc w b cs T := h.all _ (List.mem_cons_self)
    exact ⟨⟨hl.cell, hl.frz, hl.lt⟩, St.facts h.tail⟩
  | .own .. :: G, h => ⟨trivial, St.facts h.tail⟩
theorem St.old {S : List Nat} {w0 w : World} {G : List Res} (h : St S w0 w G) : ∀ b o, b < w0.heap.size → b ∉ S → w.cell? ⟨b, o, none⟩ = w0.cell? ⟨b, o, none⟩ := fun _ o hb hn => h.fr.cell hb hn o
end Go.Proofs.YtokneepfknepaaaGreatDoor

set_option linter.unusedSimpArgs false
set_option linter.unusedVariables false
namespace Go.Proofs.YtokneepfknepaaaGreatDoor
open Go.RowKit

theorem St.call0 {S : List Nat} {w0 w w' : World} {G D : List Res} (h : St S w0 w G) (k : St [] w w' D) : St S w0 w' (D ++ G) := h.call k (by simp)
theorem st_go {w w' : World} {D : List Res} {P : Prop} (k : St [] w w' D) (h : ∃ S w0 G, St S w0 w G ∧ (St S w0 w' (D ++ G) → P)) : P := by
  obtain ⟨S, w0, G, h1, h2⟩ := h
  exact h2 (h1.call0 k)
theorem st_fr {w w' : World} {P : Prop} (k : Fr [] w w') (h : ∃ S w0 G, St S w0 w G ∧ (St S w0 w' G → P)) : P := by
  obtain ⟨S, w0, G, h1, h2⟩ := h
  exact h2 (h1.step0 k)
theorem St.fr0 {S : List Nat} {w0 w w' : World} {G : List Res} (h : St S w0 w G) (k : Fr [] w w') : St S w0 w' G := h.step0 k

theorem size_drew (w : World) : w.drew.heap.size = w.heap.size := rfl
theorem size_drewN (w : World) (n : Nat) : (w.drewN n).heap.size = w.heap.size := rfl
/-- The shape of a slice of the call's own. -/
theorem St.shape {S : List Nat} {w0 w : World} {G G' : List Res} {e : TypeId} {k n : Nat} {v : Value} {xs : List Value} (h : St S w0 w G) (p : Pick G (.own e k v n xs) G') : ∃ a c, v = .slice a n c := by
  obtain ⟨a, c, h, _, _⟩ := Own.shape (h.own p)
  exact ⟨a, c, h⟩
/-- Where the bytes of a slice come from. -/
inductive SrcOf (G : List Res) (w : World) : Value → List UInt8 → Prop
  | own {v : Value} {Y : List UInt8} {G' : List Res} : Pick G (.own 5 1 v Y.length (Y.map B)) G' → SrcOf G w v Y
  | lit {g c : Nat} {k : Int} {T : TypeId} {G' : List Res} : Pick G (.loc g [.int .u8 k] T) G' → (h : 0 ≤ k ∧ k < 256) → SrcOf G w (.slice (some ⟨g, 0, none⟩) 1 c) [UInt8.ofNat k.toNat]
  | arg {v : Value} {Y : List UInt8} : Sl [] w 1 v Y.length (Y.map B) → SrcOf G w v Y
theorem B_int {k : Int} (h : 0 ≤ k ∧ k < 256) : B (UInt8.ofNat k.toNat) = .int .u8 k := by
  unfold B
  rw [UInt8.toNat_ofNat_of_lt' (by show k.toNat < 256; omega)]
  congr 1
  omega
theorem SrcOf.src {S : List Nat} {w0 w : World} {G : List Res} (h : St S w0 w G) {v : Value} {Y : List UInt8} (k : SrcOf G w v Y) : Src Tryz.prog 1 26 v Y.length (Y.map B) w := by
  cases k with
  | own p => exact (Own.sl (h.own p) (S' := []) (by simp)).src und_bytes
  | @lit g c k T G' p hk =>
    have hl := h.loc p
    have hc : w.cell? ⟨g, 0, none⟩ = some (.int .u8 k) := by rw [hl.cell]; rfl
    show Src Tryz.prog 1 26 (.slice (some ⟨g, 0, none⟩) 1 c) 1 [B (UInt8.ofNat k.toNat)] w
    rw [B_int hk]
    exact src1 und_bytes hc rfl
  | arg hs => exact hs.src und_bytes

/-- Bytes that may be appended to. -/
inductive Dst (G : List Res) : Value → List UInt8 → List Res → Prop
  | own {v : Value} {X : List UInt8} {G' : List Res} : Pick G (.own 5 1 v X.length (X.map B)) G' → Dst G v X G'
  | lit {g : Nat} {k : Int} {G' : List Res} : Pick G (.loc g [.int .u8 k] 5) G' → (h : 0 ≤ k ∧ k < 256) → Dst G (.slice (some ⟨g, 0, none⟩) 1 1) [UInt8.ofNat k.toNat] G'
  | nil {c : Nat} : (h : c = 0) → Dst G (.slice none 0 c) [] G
theorem St.dst {S : List Nat} {w0 w : World} {G G' : List Res} (h : St S w0 w G) {v : Value} {X : List UInt8} (d : Dst G v X G') : St S w0 w (.own 5 1 v X.length (X.map B) :: G') := by
  cases d with
  | own p => exact h.pick p
  | @lit g k _ p hk =>
    have h1 := h.pick p
    have hl := h1.head
    have ha := List.pairwise_cons.1 h1.apart
    refine h1.tail.put ?_ (fun b hb => h1.new (.loc g [.int .u8 k] 5) List.mem_cons_self b (by simpa [Res.blk, Value.blk] using hb)) (fun b hb s hs => ha.1 s hs b (by simpa [Res.blk, Value.blk] using hb))
    show Own [] w 5 1 (.slice (some ⟨g, 0, none⟩) 1 1) 1 [B (UInt8.ofNat k.toNat)]
    rw [B_int hk]
    exact ⟨rfl, by simp [Value.oneCell'], .inr ⟨g, 1, #[.int .u8 k], rfl, by simp, hl, Nat.le_refl _, by decide, rfl, rfl⟩⟩
  | nil hc =>
    subst hc
    exact h.put (Out.nil _) (fun b hb => by cases hb) (fun b hb => by cases hb)
theorem st_app {w : World} {ops : Array Oper} {rest : List Oper} {o : Oper} {a : Act} {Q : Exit → Act → World → Prop} {s x : Operand} {v xv : Value} (hgd : o.guard = none)
    (ho : o.op = .call { callee := .builtin .append, args := #[s, x], argTypes := #[26, 26] }) (hs : a.eval s = v) (hx : a.eval x = xv)
    (h : ∃ S w0 G G' X Y, St S w0 w G ∧ Dst G v X G' ∧ SrcOf G w xv Y ∧ X.length + Y.length ≤ 140737488355328 ∧
      ∀ v' w', St S w0 w' (.own 5 1 v' (X ++ Y).length ((X ++ Y).map B) :: G') → wpList Tryz.prog ops Q rest (a.put o.dst v') w') :
    wpList Tryz.prog ops Q (o :: rest) a w := by
  obtain ⟨S, w0, G, G', X, Y, hst, hp, hsrc, hb, h⟩ := h
  refine app_u8 hgd s x 26 ho v X.length (X.map B) hs ((hst.dst hp).head) xv Y.length (Y.map B) hx (hsrc.src hst) hb fun v' w' ho' hf hb' => ?_
  have hst' := (hst.dst hp).app hf ho' hb'
  have e1 : X.length + Y.length = (X ++ Y).length := by simp
  have e2 : X.map B ++ Y.map B = (X ++ Y).map B := by simp
  rw [e1, e2] at hst'
  exact h v' w' hst'
theorem step_st {w : World} {ops : Array Oper} {o : Oper} {a : Act} {K : Act → World → Prop} {Q : Exit → Act → World → Prop} {E : Prop} {s x : Operand} {v xv : Value} (hgd : o.guard = none)
    (ho : o.op = .call { callee := .builtin .append, args := #[s, x], argTypes := #[26, 26] }) (hs : a.eval s = v) (hx : a.eval x = xv)
    (h : ∃ S w0 G G' X Y, St S w0 w G ∧ Dst G v X G' ∧ SrcOf G w xv Y ∧ X.length + Y.length ≤ 140737488355328 ∧
      ∀ v' w', St S w0 w' (.own 5 1 v' (X ++ Y).length ((X ++ Y).map B) :: G') → K (a.put o.dst v') w') :
    if Region.wanted o (yielded ops a.tmps) = true then Oper.wp Tryz.prog o a w K Q else E := by
  obtain ⟨S, w0, G, G', X, Y, hst, hp, hsrc, hb, h⟩ := h
  refine step_app_u8 hgd s x 26 ho v X.length (X.map B) hs ((hst.dst hp).head) xv Y.length (Y.map B) hx (hsrc.src hst) hb fun v' w' ho' hf hb' => ?_
  have hst' := (hst.dst hp).app hf ho' hb'
  have e1 : X.length + Y.length = (X ++ Y).length := by simp
  have e2 : X.map B ++ Y.map B = (X ++ Y).map B := by simp
  rw [e1, e2] at hst'
  exact h v' w' hst'
end Go.Proofs.YtokneepfknepaaaGreatDoor

set_option linter.unusedSimpArgs false
set_option linter.unusedVariables false
namespace Go.Proofs.YtokneepfknepaaaGreatDoor

def plainH (h : HeapT) : Bool := plainVal ⟨3, false, h⟩
def heapB (h : HeapT) : List UInt8 := if plainVal ⟨3, false, h⟩ then pHeap h else []
def valB (t : ValT) : List UInt8 := if plainVal t then pVal t else []
def valsB (ts : List ValT) : List UInt8 := if ts.all plainVal then pList pVal ts else []
theorem heapB_yes {h : HeapT} (p : plainVal ⟨3, false, h⟩ = true) : heapB h = pHeap h := by unfold heapB; rw [if_pos p]
theorem valB_yes {t : ValT} (p : plainVal t = true) : valB t = pVal t := by unfold valB; rw [if_pos p]
theorem valsB_yes {ts : List ValT} (h : ts.all plainVal = true) : valsB ts = pList pVal ts := by unfold valsB; rw [if_pos h]
theorem valsB_no {ts : List ValT} (h : ts.all plainVal = false) : valsB ts = [] := by unfold valsB; rw [if_neg (by simp [h])]
end Go.Proofs.YtokneepfknepaaaGreatDoor

set_option linter.unusedSimpArgs false
set_option linter.unusedVariables false
namespace Go.Proofs.YtokneepfknepaaaGreatDoor

/- Layer 5. -/
def runsL : List (Int × List UInt8) := [(0, [46, 46, 98, 98, 98, 46]), (8, [105]), (10, [46, 46, 108, 108, 116, 46, 105, 50, 105, 50, 105, 105]), (26, [46, 46, 118]), (31, [121, 105, 105, 105, 105, 105, 105, 105]), (40, [109, 109]), (44, [109, 109, 109, 109, 109, 109, 109, 109, 109, 109, 109, 109]), (58, [109, 109, 109, 109, 109, 105, 105, 51, 54]), (69, [46, 46, 46, 46, 46, 46, 46, 46, 46, 46, 46, 46, 46, 46, 46, 46, 46, 46, 46, 46, 46, 46]), (103, [46, 46, 46, 46, 46, 46, 46, 46, 46, 46, 46, 46, 46, 46, 46, 46, 46, 46, 46, 46, 46, 46, 46, 46, 46, 46, 46, 46, 46, 46, 46, 46, 46, 46, 46, 46]), (167, [46]), (172, [46, 46]), (192, [46, 46, 46, 46, 46]), (208, [104, 46, 105, 46, 46, 108, 108]), (64256, [105, 105, 50, 50, 50, 50, 105, 105, 50, 50, 50, 105, 105, 105, 105, 46, 105, 50, 50, 50, 104, 104, 104, 104, 99, 99, 46, 46, 46, 46, 46]), (64520, [50, 105, 50, 105, 50, 105, 50, 105, 105, 105])]
def knownL : List (Int × Int) := [(42, 43), (56, 57), (67, 68), (91, 102), (139, 166), (168, 171), (174, 191), (64512, 64519), (253, 253)]
def findL : List (Int × List UInt8) → Int → Int → Int × UInt8
  | [], _, _ => (-1, 0)
  | (f, s) :: r, op, k => if f ≤ op ∧ op - f < s.length then (k + (op - f), s.getD (op - f).toNat 0) else findL r op (k + s.length)
def lettersL : List UInt8 := [46, 98, 121, 108, 116, 105, 50, 109, 51, 54, 104, 118, 99]
def indexL : List UInt8 → UInt8 → Int
  | [], _ => -1
  | b :: l, c => if b == c then 0 else if indexL l c == -1 then -1 else indexL l c + 1
def shapeP (op : Int) : Int := if (findL runsL op 0).1 < 0 then 0 else 1 + indexL lettersL (findL runsL op 0).2
def knownP (op : Int) : Bool := knownL.any fun p => decide (p.1 ≤ op ∧ op ≤ p.2)

/- Layer 7. -/
structure BlockT where
  kind : Int
  val : ValT
  n : Int
deriving DecidableEq, Inhabited
structure CatchT where
  kind : Int
  tag : Int
  label : Int
deriving DecidableEq, Inhabited
structure InstrT where
  op : Int
  x : Int
  y : Int
  u : Nat
  heap : HeapT
  heap2 : HeapT
  null : Bool
  null2 : Bool
  types : List ValT
  labels : List Int
  block : BlockT
  catches : List CatchT
deriving DecidableEq, Inhabited
def BlockT.zero : BlockT := ⟨0, ValT.zero, 0⟩
def InstrT.of (op : Int) : InstrT := ⟨op, 0, 0, 0, HeapT.zero, HeapT.zero, false, false, [], [], BlockT.zero, []⟩

def idx (n : Int) : Bool := decide (0 ≤ n ∧ n ≤ 4294967295)
def mayBlock (b : BlockT) : Bool :=
  if b.kind = 0 then decide (b = BlockT.zero)
  else if b.kind = 1 then plainVal b.val && decide (b.n = 0)
  else if b.kind = 2 then decide (b.val = ValT.zero) && idx b.n
  else false
def mayCatch (c : CatchT) : Bool :=
  if c.kind = 0 ∨ c.kind = 1 then idx c.tag && idx c.label
  else if c.kind = 2 ∨ c.kind = 3 then decide (c.tag = 0) && idx c.label
  else false
/-- What of an instruction its shape allows, and the instruction without it. -/
def mayPart (i : InstrT) : Bool × InstrT :=
  if shapeP i.op = 4 ∨ shapeP i.op = 6 then (idx i.x, { i with x := 0 })
  else if shapeP i.op = 7 then (idx i.x && idx i.y, { i with x := 0, y := 0 })
  else if shapeP i.op = 5 then (idx i.x && i.labels.all idx, { i with x := 0, labels := [] })
  else if shapeP i.op = 8 then (decide (0 ≤ i.x) && decide (i.x < 64) && idx i.y, { i with x := 0, y := 0, u := 0 })
  else if shapeP i.op = 9 then (decide (i.u < 4294967296), { i with u := 0 })
  else if shapeP i.op = 10 then (true, { i with u := 0 })
  else if shapeP i.op = 11 then (plainH i.heap, { i with heap := HeapT.zero })
  else if shapeP i.op = 12 then (i.types.all plainVal, { i with types := [] })
  else if shapeP i.op = 2 then (mayBlock i.block, { i with block := BlockT.zero })
  else if shapeP i.op = 3 then (mayBlock i.block && i.catches.all mayCatch, { i with block := BlockT.zero, catches := [] })
  else if shapeP i.op = 13 then (idx i.x && plainH i.heap && plainH i.heap2, { i with x := 0, null := false, null2 := false, heap := HeapT.zero, heap2 := HeapT.zero })
  else (true, i)
def mayI (i : InstrT) : Bool := if shapeP i.op = 0 then false else (mayPart i).1 && decide ((mayPart i).2 = InstrT.of i.op)

/-- What is open in a row, the innermost first: whether an else may stand in it. None: it may not stand there. -/
def stepN (n : List Bool) (op : Int) : Option (List Bool) :=
  if op = 2 ∨ op = 3 ∨ op = 31 then some (false :: n)
  else if op = 4 then some (true :: n)
  else if op = 5 then (match n with | true :: r => some (false :: r) | _ => none)
  else if op = 11 then (match n with | _ :: r => some r | [] => none)
  else some n
def nestL : List Bool → List InstrT → Option (List Bool)
  | n, [] => some n
  | n, i :: l => match stepN n i.op with
    | some m => nestL m l
    | none => none
def nested (l : List InstrT) : Bool := nestL [] l == some []

/- What is put. -/
def pNum (n : Int) : List UInt8 := putU n.toNat
def pOp (op : Int) : List UInt8 := if op < 256 then [UInt8.ofNat op.toNat] else UInt8.ofNat (op / 256).toNat :: pNum (op % 256)
def pNulls (a b : Bool) : UInt8 := (if a then 1 else 0) + (if b then 2 else 0)
def pBlock (b : BlockT) : List UInt8 := if b.kind = 1 then valB b.val else if b.kind = 2 then putS b.n else [64]
def pCatch (c : CatchT) : List UInt8 := UInt8.ofNat c.kind.toNat :: ((if c.kind < 2 then pNum c.tag else []) ++ pNum c.label)
def toI32 (n : Nat) : Int := if n < 2147483648 then n else (n : Int) - 4294967296
def pRest (i : InstrT) : List UInt8 :=
  if shapeP i.op = 5 then putU i.labels.length ++ i.labels.flatMap pNum ++ pNum i.x
  else if shapeP i.op = 4 ∨ shapeP i.op = 6 then pNum i.x
  else if shapeP i.op = 7 then pNum i.x ++ pNum i.y
  else if shapeP i.op = 8 then (if i.y = 0 then pNum i.x else pNum (i.x + 64) ++ pNum i.y) ++ putU i.u
  else if shapeP i.op = 9 then putS (toI32 i.u)
  else if shapeP i.op = 10 then putS (toI64 i.u)
  else if shapeP i.op = 13 then [pNulls i.null i.null2] ++ pNum i.x ++ heapB i.heap ++ heapB i.heap2
  else if shapeP i.op = 11 then heapB i.heap
  else if shapeP i.op = 12 then valsB i.types
  else if shapeP i.op = 2 then pBlock i.block
  else if shapeP i.op = 3 then pBlock i.block ++ putU i.catches.length ++ i.catches.flatMap pCatch
  else []
def pInstr (i : InstrT) : List UInt8 := pOp i.op ++ pRest i
def pExpr (l : List InstrT) : List UInt8 := if l.all mayI && nested l then l.flatMap pInstr ++ [11] else []

/- What is read. -/
def rOpEnd (op : Int) (a : Nat) (s : RdS) : Int × RdS :=
  (op, if knownP op then s.fail 61 a else if shapeP op = 0 then s.fail 60 a else s)
def rOp (bs : List UInt8) (s : RdS) : Int × RdS :=
  if (rByte bs s).1 = 251 ∨ (rByte bs s).1 = 252 then
    if 255 < (rU bs 32 (rByte bs s).2).1 then (0, (rU bs 32 (rByte bs s).2).2.fail 60 s.at_)
    else rOpEnd ((rByte bs s).1 * 256 + (rU bs 32 (rByte bs s).2).1) s.at_ (rU bs 32 (rByte bs s).2).2
  else rOpEnd (rByte bs s).1 s.at_ (rByte bs s).2
def rNum (bs : List UInt8) (s : RdS) : Int × RdS := ((rU bs 32 s).1, (rU bs 32 s).2)
/-- So many as are counted, as long as there is no error. -/
def rListN {α : Type} (bs : List UInt8) (f : RdS → α × RdS) (s : RdS) : List α × RdS := rMany f (rCount bs s).1 (rCount bs s).2
def rChoice (bs : List UInt8) (most : Nat) (s : RdS) : Nat × RdS := ((rByte bs s).1, if most < (rByte bs s).1 then (rByte bs s).2.fail 60 s.at_ else (rByte bs s).2)
def rMemX (bs : List UInt8) (s : RdS) : Int × RdS := ((rNum bs s).1, if 127 < (rNum bs s).1 then (rNum bs s).2.fail 60 s.at_ else (rNum bs s).2)
def rMemY (bs : List UInt8) (s : RdS) : (Int × Int) × RdS :=
  if 64 ≤ (rMemX bs s).1 then (((rMemX bs s).1 - 64, (rNum bs (rMemX bs s).2).1), (rNum bs (rMemX bs s).2).2) else (((rMemX bs s).1, 0), (rMemX bs s).2)
def rCatchT (bs : List UInt8) (s : RdS) : (Int × Int) × RdS :=
  if (rChoice bs 3 s).1 < 2 then (((rChoice bs 3 s).1, (rNum bs (rChoice bs 3 s).2).1), (rNum bs (rChoice bs 3 s).2).2) else (((rChoice bs 3 s).1, 0), (rChoice bs 3 s).2)
def rCatch (bs : List UInt8) (s : RdS) : CatchT × RdS :=
  (⟨(rCatchT bs s).1.1, (rCatchT bs s).1.2, (rNum bs (rCatchT bs s).2).1⟩, (rNum bs (rCatchT bs s).2).2)
/-- The first byte of a signed number of one byte. -/
def low7 (n : Int) : Nat := (n % 128).toNat
def rBlockV (bs : List UInt8) (c : Nat) (a : Nat) (s : RdS) : BlockT × RdS :=
  if c = 64 then (BlockT.zero, s)
  else if (rVal [UInt8.ofNat c] rOpen).2.err = 0 then (⟨1, (rVal [UInt8.ofNat c] rOpen).1, 0⟩, s)
  else if (rVal [UInt8.ofNat c] rOpen).2.err = 10 then (⟨1, ⟨3, c == 99, (rHeap bs s).1⟩, 0⟩, (rHeap bs s).2)
  else (BlockT.zero, s.fail (rVal [UInt8.ofNat c] rOpen).2.err a)
def rBlock (bs : List UInt8) (s : RdS) : BlockT × RdS :=
  if (rS bs 33 s).2.err ≠ 0 then (BlockT.zero, (rS bs 33 s).2)
  else if 0 ≤ (rS bs 33 s).1 then (⟨2, ValT.zero, (rS bs 33 s).1⟩, (rS bs 33 s).2)
  else if 1 < (rS bs 33 s).2.at_ - s.at_ then (BlockT.zero, (rS bs 33 s).2.fail 60 s.at_)
  else rBlockV bs (low7 (rS bs 33 s).1) s.at_ (rS bs 33 s).2
def rArgs (bs : List UInt8) (op : Int) (s : RdS) : InstrT × RdS :=
  if shapeP op = 4 ∨ shapeP op = 6 then ({ InstrT.of op with x := (rNum bs s).1 }, (rNum bs s).2)
  else if shapeP op = 7 then ({ InstrT.of op with x := (rNum bs s).1, y := (rNum bs (rNum bs s).2).1 }, (rNum bs (rNum bs s).2).2)
  else if shapeP op = 5 then ({ InstrT.of op with labels := (rListN bs (rNum bs) s).1, x := (rNum bs (rListN bs (rNum bs) s).2).1 }, (rNum bs (rListN bs (rNum bs) s).2).2)
  else if shapeP op = 8 then ({ InstrT.of op with x := (rMemY bs s).1.1, y := (rMemY bs s).1.2, u := (rU bs 64 (rMemY bs s).2).1 }, (rU bs 64 (rMemY bs s).2).2)
  else if shapeP op = 9 then ({ InstrT.of op with u := ((rS bs 32 s).1 % 4294967296).toNat }, (rS bs 32 s).2)
  else if shapeP op = 10 then ({ InstrT.of op with u := ((rS bs 64 s).1 % 18446744073709551616).toNat }, (rS bs 64 s).2)
  else if shapeP op = 11 then ({ InstrT.of op with heap := (rHeap bs s).1 }, (rHeap bs s).2)
  else if shapeP op = 12 then ({ InstrT.of op with types := (rVals bs s).1 }, (rVals bs s).2)
  else if shapeP op = 2 then ({ InstrT.of op with block := (rBlock bs s).1 }, (rBlock bs s).2)
  else if shapeP op = 3 then ({ InstrT.of op with block := (rBlock bs s).1, catches := (rListN bs (rCatch bs) (rBlock bs s).2).1 }, (rListN bs (rCatch bs) (rBlock bs s).2).2)
  else if shapeP op = 13 then
    ({ InstrT.of op with null := (rChoice bs 3 s).1 % 2 == 1, null2 := (rChoice bs 3 s).1 / 2 % 2 == 1, x := (rNum bs (rChoice bs 3 s).2).1, heap := (rHeap bs (rNum bs (rChoice bs 3 s).2).2).1, heap2 := (rHeap bs (rHeap bs (rNum bs (rChoice bs 3 s).2).2).2).1 },
      (rHeap bs (rHeap bs (rNum bs (rChoice bs 3 s).2).2).2).2)
  else (InstrT.of op, s)
def rInstr (bs : List UInt8) (s : RdS) : InstrT × RdS :=
  if (rOp bs s).2.err ≠ 0 then (InstrT.of (rOp bs s).1, (rOp bs s).2) else rArgs bs (rOp bs s).1 (rOp bs s).2
/-- What an expression's reading comes to, with so much fuel: the instructions behind what is open, and the reader. -/
def rExprF (bs : List UInt8) : Nat → List Bool → RdS → Option (List InstrT) × RdS
  | 0, _, s => (none, s)
  | k + 1, n, s =>
    if (rInstr bs s).2.err ≠ 0 then (none, (rInstr bs s).2)
    else if (rInstr bs s).1.op = 11 ∧ n = [] then (some [], (rInstr bs s).2)
    else match stepN n (rInstr bs s).1.op with
      | none => (none, (rInstr bs s).2.fail 60 s.at_)
      | some m => ((rExprF bs k m (rInstr bs s).2).1.map ((rInstr bs s).1 :: ·), (rExprF bs k m (rInstr bs s).2).2)
def rExpr (bs : List UInt8) (s : RdS) : List InstrT × RdS :=
  ((rExprF bs (bs.length + 1 - s.at_) [] s).1.getD [], (rExprF bs (bs.length + 1 - s.at_) [] s).2)
end Go.Proofs.YtokneepfknepaaaGreatDoor

set_option linter.unusedSimpArgs false
set_option linter.unusedVariables false
namespace Go.Proofs.YtokneepfknepaaaGreatDoor
open Go.RowKit

def runsC : List Value := runsL.flatMap fun p => [.int .i64 p.1, .string ⟨p.2.toArray⟩]
def knownC : List Value := knownL.flatMap fun p => [.int .i64 p.1, .int .i64 p.2]
/-- The package's tables: none of S. -/
structure Gl7 (S : List Nat) (w : World) : Prop where
  gl : Gl S w
  rlt : 0 < w.heap.size
  rnot : 0 ∉ S
  runs : ∀ i, i < 32 → w.cell? ⟨0, i, none⟩ = runsC[i]?
  klt : 2 < w.heap.size
  knot : 2 ∉ S
  known : ∀ i, i < 18 → w.cell? ⟨2, i, none⟩ = knownC[i]?
theorem Gl7.fr {S S' : List Nat} {w w' : World} (h : Gl7 S w) (hf : Fr S' w w') (hs : ∀ b, b < w.heap.size → b ∈ S' → b ∈ S) : Gl7 S w' :=
  ⟨h.gl.fr hf hs, Nat.lt_of_lt_of_le h.rlt hf.size, h.rnot, fun i hi => by rw [hf.cell h.rlt (fun hm => h.rnot (hs _ h.rlt hm))]; exact h.runs i hi,
    Nat.lt_of_lt_of_le h.klt hf.size, h.knot, fun i hi => by rw [hf.cell h.klt (fun hm => h.knot (hs _ h.klt hm))]; exact h.known i hi⟩
theorem Gl7.sub {S S' : List Nat} {w : World} (h : Gl7 S w) (hs : ∀ b, b < w.heap.size → b ∈ S' → b ∈ S) : Gl7 S' w :=
  ⟨h.gl.sub hs, h.rlt, fun hm => h.rnot (hs _ h.rlt hm), h.runs, h.klt, fun hm => h.knot (hs _ h.klt hm), h.known⟩
theorem St.gl7 {S : List Nat} {w0 w : World} {G : List Res} (h : St S w0 w G) (hg : Gl7 S w0) : Gl7 S w := hg.fr h.fr (fun _ _ h => h)

/-- A whole array out of its cells. -/
theorem run_load_row {P : Program} {w : World} {g : Nat} {ty : TypeId} {cs : List Value} {d : TypeDesc} (hu : P.underlying ty = some d) (hd : (match d with | .struct _ | .array _ _ => true | _ => false) = true) (hi : (P.info? ty).map (·.size) = some cs.length)
    (hc : ∀ i, i < cs.length → w.cell? ⟨g, i, none⟩ = cs[i]?) : (Instr.loadAt ty (.pointer (some ⟨g, 0, none⟩))).run P w = .ok (.agg cs.toArray) w := by
  have hl : (loadCells ⟨g, 0, none⟩ cs.length).run P w = .ok cs.toArray w :=
    run_loadCells_list (P := P) w ⟨g, 0, none⟩ cs (fun j v hv => by
      have hadd : (⟨g, 0, none⟩ : Addr).add j = ⟨g, j, none⟩ := by unfold Addr.add; split <;> simp_all
      rw [hadd, hc j (List.getElem?_eq_some_iff.1 hv).1]
      exact hv)
  cases hq : P.info? ty with
  | none => simp [hq] at hi
  | some i =>
    have hs : i.size = cs.length := by simpa [hq] using hi
    have hagg : (isAgg ty).run P w = .ok true w := by
      unfold isAgg
      rw [Sem.run_bind, run_underlying hu w]
      cases d <;> simp_all
    simp only [Instr.loadAt, Instr.sureAddr, Sem.run_bind, Sem.run_pure, Result.andThen_ok]
    simp [loadVar, Sem.run_bind, hagg, sizeOf, typeInfo, hq, hs, hl]

theorem indexL_eq (l : List UInt8) (c : UInt8) : Lib.indexByte l c = indexL l c := by
  induction l with
  | nil => rfl
  | cons a l ih => simp only [Lib.indexByte, indexL, ih]

set_option maxRecDepth 100000 in
set_option maxHeartbeats 800000 in
theorem indexByte1_any (w : World) (s : ByteArray) (c : Int) : Calls Tryz.prog 95 #[.string s, .int .u8 c] w fun e w' => e = .returned (.int .i64 (indexL s.data.toList c.toNat.toUInt8)) ∧ w' = w := by
  go_enter Tryz.func95, Tryz.ntmps95
  go_wp2
  rw [run_callFunc_extern Tryz.func110 (by kernel_rfl) (by kernel_rfl) (by kernel_rfl) (e := Extern.BytealgIndexByte.indexByte) (by kernel_rfl), Lib.run_indexByteString, indexL_eq]
  simp only [Result.andThen]
  rw [Oper.upon_value]
  go_wp2
  go_ret
  exact ⟨rfl, rfl⟩
set_option maxRecDepth 100000 in
set_option maxHeartbeats 800000 in
theorem indexByte_any (w : World) (s : ByteArray) (c : Int) : Calls Tryz.prog 66 #[.string s, .int .u8 c] w fun e w' => e = .returned (.int .i64 (indexL s.data.toList c.toNat.toUInt8)) ∧ w' = w := by
  go_enter Tryz.func66, Tryz.ntmps66
  go_wp2_with (go_at_call 95; (with_reducible refine (indexByte1_any _ _ _).mono ?_); rintro e w' ⟨rfl, rfl⟩)
  go_ret
  exact ⟨rfl, rfl⟩

/-- A whole array is loaded. -/
theorem wpList_load_cells {P : Program} {ops : Array Oper} {rest : List Oper} {o : Oper} {a : Act} {w : World} {Q : Exit → Act → World → Prop} (hgd : o.guard = none) (ty : TypeId) (x : Operand) (ho : o.op = .load ty x)
    (g : Nat) (hx : a.eval x = .pointer (some ⟨g, 0, none⟩)) (cs : List Value) (hr : (Instr.loadAt ty (.pointer (some ⟨g, 0, none⟩))).run P w = .ok (.agg cs.toArray) w)
    (h : wpList P ops Q rest (a.put o.dst (.agg cs.toArray)) w) : wpList P ops Q (o :: rest) a w :=
  wpList_plain hgd fun _ hK => by
    unfold Oper.wp execOp
    simp only [ho, hx, hr, Sem.run_bind, Sem.run_pure, Result.andThen_ok]
    exact hK _ _ h

def lenTo (k : Nat) : Nat := ((runsL.take k).map (·.2.length)).sum
theorem und_runs : Tryz.prog.underlying 125 = some ((Tryz.prog.underlying 125).get (by kernel_rfl)) := by kernel_rfl
theorem size_runs : (Tryz.prog.info? 125).map (·.size) = some runsC.length := by kernel_rfl
theorem und_known : Tryz.prog.underlying 146 = some ((Tryz.prog.underlying 146).get (by kernel_rfl)) := by kernel_rfl
theorem size_known : (Tryz.prog.info? 146).map (·.size) = some knownC.length := by kernel_rfl
theorem runs_len : runsL.length = 16 := by decide
theorem known_len : knownL.length = 9 := by decide
theorem runs_facts : runsL.all (fun p => decide (0 ≤ p.1) && decide (p.1 ≤ 70000) && decide (p.2.length ≤ 100)) = true := by decide
theorem lenTo_le : ∀ k, k ≤ 16 → lenTo k ≤ 1600 := by decide
theorem run_at {k : Nat} (hk : k < 16) : ∃ f s, runsL[k]? = some (f, s) ∧ 0 ≤ f ∧ f ≤ 70000 ∧ s.length ≤ 100 ∧ runsL.drop k = (f, s) :: runsL.drop (k + 1) ∧ lenTo (k + 1) = lenTo k + s.length := by
  have hl : k < runsL.length := by rw [runs_len]; exact hk
  refine ⟨(runsL[k]).1, (runsL[k]).2, by simp [hl], ?_⟩
  have h := List.all_eq_true.1 runs_facts (runsL[k]) (List.getElem_mem hl)
  simp only [Bool.and_eq_true, decide_eq_true_eq] at h
  refine ⟨h.1.1, h.1.2, h.2, List.drop_eq_getElem_cons hl, ?_⟩
  unfold lenTo
  rw [List.take_succ_eq_append_getElem hl, List.map_append, List.sum_append]
  simp
set_option maxRecDepth 100000 in
theorem index_runs (w : World) (k : Nat) (f : Int) (s : List UInt8) (h : runsL[k]? = some (f, s)) : (Instr.index 125 (.agg runsC.toArray) (.int .i64 k)).run Tryz.prog w = .ok (.agg #[.int .i64 f, .string ⟨s.toArray⟩]) w := by
  have hk : k < 16 := by rw [← runs_len]; exact (List.getElem?_eq_some_iff.1 h).1
  have : k = 0 ∨ k = 1 ∨ k = 2 ∨ k = 3 ∨ k = 4 ∨ k = 5 ∨ k = 6 ∨ k = 7 ∨ k = 8 ∨ k = 9 ∨ k = 10 ∨ k = 11 ∨ k = 12 ∨ k = 13 ∨ k = 14 ∨ k = 15 := by omega
  rcases this with rfl | rfl | rfl | rfl | rfl | rfl | rfl | rfl | rfl | rfl | rfl | rfl | rfl | rfl | rfl | rfl
  all_goals
    injection h with h
    injection h with h1 h2
    subst h1 h2
    first | (show _ = _; kernel_rfl) | rfl | simp [go_sem]

set_option maxRecDepth 100000 in
set_option maxHeartbeats 3200000 in
theorem find_any {w : World} (hg : Gl7 [] w) (op : Int) (h1 : -9223372036854775808 ≤ op) (h2 : op < 9223372036854775808) :
    Calls Tryz.prog 65 #[.int .i64 op] w fun e w' => e = .returned (.tuple #[.int .i64 (findL runsL op 0).1, .int .u8 (findL runsL op 0).2.toNat]) ∧ Fr [] w w' := by
  have hload := run_load_row (w := w) (g := 0) und_runs rfl size_runs hg.runs
  have HL := Lib.hid hload
  clear hload
  have hS0 := St.start [] w
  go_enter Tryz.func65, Tryz.ntmps65
  go_wp2_with (refine wpList_load_cells rfl 125 _ rfl 0 rfl runsC HL.out ?_)
  go_loopw [4, 9] (fun a n wr => ∃ (k : Nat), n = .int .i64 k ∧ k ≤ 16 ∧ a = .int .i64 (lenTo k) ∧ Fr [] w wr ∧ Hid (findL runsL op 0 = findL (runsL.drop k) op (lenTo k))) (fun _ n _ => 16 - (intOf n).toNat)
  case atStart => exact ⟨0, rfl, by omega, rfl, Fr.refl _ _, Lib.hid rfl⟩
  case round =>
    obtain ⟨k, rfl, hk16, rfl, hF, hI⟩ := hrel
    by_cases hk : k < 16
    · obtain ⟨f, s, hfs, f0, f1, sl, hdrop, hlen⟩ := run_at hk
      have i1 : (k : Int) < 16 := by omega
      have hl := lenTo_le k (by omega)
      have hix := index_runs wr k f s hfs
      rw [hdrop] at hI
      have hsz : (⟨s.toArray⟩ : ByteArray).size = s.length := by simp [ByteArray.size]
      by_cases c1 : f ≤ op
      · by_cases c2 : op - f < s.length
        · have hw : IntKind.i64.wrap (op - f) = op - f := IntWalk.i64_in _ (by omega)
          have e : findL runsL op 0 = ((lenTo k : Int) + (op - f), s.getD (op - f).toNat 0) := by rw [hI.out]; unfold findL; rw [if_pos ⟨c1, c2⟩]
          have E := Lib.hid e
          clear e hI
          obtain ⟨j, hj⟩ := Int.eq_ofNat_of_zero_le (show 0 ≤ op - f by omega)
          obtain rfl : op = f + j := by omega
          clear hj
          have c3 : (j : Int) < (s.length : Int) := by omega
          have c4 : j < s.length := by omega
          have hj : f + (j : Int) - f = j := by omega
          rw [hj] at E hw
          go_wp2_with fail
          go_region_held3 (fun w' => w'.cell? ⟨wr.heap.size, 1, none⟩ = some (.string ⟨s.toArray⟩))
            (first | (go_keep; done))
            (fail)
          go_wp2_with fail
          go_ret2
          rw [E.out]
          refine ⟨?_, ?_⟩
          · have ew : IntKind.i64.wrap ((lenTo k : Int) + (j : Int)) = (lenTo k : Int) + (j : Int) := IntWalk.i64_in _ (by omega)
            have ec : s.getD ((j : Int)).toNat 0 = s[j]'c4 := by simp [List.getD_eq_getElem?_getD, c4]
            rw [ec]
            first | (rw [ew]; rfl) | (simp only [ew]; rfl)
          · repeat (first | (with_reducible exact Fr.refl _ _) | (with_reducible assumption) | (with_reducible apply Fr.alloc) | (with_reducible apply Fr.drew) | (with_reducible apply Fr.drewN) | (with_reducible refine Fr.setCell ?_ (by first | (left; simp; done) | (right; simp; done) | (right; simp; omega)) _))
        · have e : findL runsL op 0 = findL (runsL.drop (k + 1)) op (lenTo (k + 1)) := by rw [hI.out, findL, if_neg (by omega), hlen]; rfl
          have E := Lib.hid e
          have hw : IntKind.i64.wrap (op - f) = op - f := IntWalk.i64_in _ (by omega)
          have c3 : ¬ (op - f < (s.length : Int)) := c2
          clear e hI
          go_wp2
          go_roundw
          case rel => exact ⟨k + 1, by go_num, by omega, by rw [hlen]; go_num, hF.alloc _, E⟩
          case measure => simp [intOf]; omega
      · have e : findL runsL op 0 = findL (runsL.drop (k + 1)) op (lenTo (k + 1)) := by rw [hI.out, findL, if_neg (by omega), hlen]; rfl
        have E := Lib.hid e
        clear e hI
        go_wp2
        go_roundw
        case rel => exact ⟨k + 1, by go_num, by omega, by rw [hlen]; go_num, hF.alloc _, E⟩
        case measure => simp [intOf]; omega
    · have hk2 : k = 16 := by omega
      subst hk2
      have e : findL runsL op 0 = (-1, 0) := hI.out
      have E := Lib.hid e
      clear e hI
      go_wp2
      go_ret2
      rw [E.out]
      exact ⟨rfl, hF⟩

set_option maxRecDepth 100000 in
set_option maxHeartbeats 1600000 in
theorem shape_any {w : World} (hg : Gl7 [] w) (op : Int) (h1 : -9223372036854775808 ≤ op) (h2 : op < 9223372036854775808) :
    Calls Tryz.prog 24 #[.int .i64 op] w fun e w' => e = .returned (.int .i64 (shapeP op)) ∧ Fr [] w w' := by
  have hP : shapeP op = if (findL runsL op 0).1 < 0 then 0 else 1 + indexL lettersL (findL runsL op 0).2 := rfl
  have hf := find_any hg op h1 h2
  generalize findL runsL op 0 = p at hP hf
  obtain ⟨n, c⟩ := p
  dsimp only at hP hf
  have hi0 : -1 ≤ indexL lettersL c := by rw [← indexL_eq]; exact Lib.indexByte_ge _ _
  have hi1 : indexL lettersL c ≤ 13 := by
    have : ∀ (l : List UInt8), indexL l c ≤ l.length := by
      intro l
      induction l with
      | nil => simp [indexL]
      | cons a l ih => unfold indexL; split <;> (try split) <;> simp <;> omega
    exact this lettersL
  have Hf := Lib.hid hf
  clear hf
  by_cases hn : n < 0
  · rw [if_pos hn] at hP
    rw [hP]
    clear hP
    go_enter Tryz.func24, Tryz.ntmps24
    go_wp2_with (go_at_call 65; refine Hf.out.mono ?_; rintro e w2 ⟨rfl, hF2⟩)
    go_ret
    exact ⟨rfl, hF2⟩
  · rw [if_neg hn] at hP
    rw [hP]
    clear hP
    have hc : c.toNat.toUInt8 = c := by simp
    go_enter Tryz.func24, Tryz.ntmps24
    go_wp2_with first | (go_at_call 65; refine Hf.out.mono ?_; rintro e w2 ⟨rfl, hF2⟩) | (go_at_call 66; (with_reducible refine (indexByte_any _ _ _).mono ?_); rintro e w3 ⟨rfl, rfl⟩)
    go_ret
    refine ⟨?_, by repeat (first | (with_reducible exact Fr.refl _ _) | (with_reducible assumption) | (with_reducible apply Fr.alloc) | (with_reducible apply Fr.drew) | (with_reducible apply Fr.drewN) | (with_reducible refine Fr.setCell ?_ (by first | (left; simp; done) | (right; simp; done) | (right; simp; omega)) _))⟩
    have e : wrap64 (1 + indexL lettersL c) = 1 + indexL lettersL c := IntWalk.wrap64_in _ (by omega)
    exact congrArg (fun z => Ending.returned (Value.int .i64 z)) e

theorem known_at {k : Nat} (hk : k < 9) : ∃ a b, knownL[k]? = some (a, b) ∧ knownL.drop k = (a, b) :: knownL.drop (k + 1) := by
  have hl : k < knownL.length := by rw [known_len]; exact hk
  exact ⟨(knownL[k]).1, (knownL[k]).2, by simp [hl], List.drop_eq_getElem_cons hl⟩
set_option maxRecDepth 100000 in
theorem index_known (w : World) (k : Nat) (a b : Int) (h : knownL[k]? = some (a, b)) : (Instr.index 146 (.agg knownC.toArray) (.int .i64 k)).run Tryz.prog w = .ok (.agg #[.int .i64 a, .int .i64 b]) w := by
  have hk : k < 9 := by rw [← known_len]; exact (List.getElem?_eq_some_iff.1 h).1
  have : k = 0 ∨ k = 1 ∨ k = 2 ∨ k = 3 ∨ k = 4 ∨ k = 5 ∨ k = 6 ∨ k = 7 ∨ k = 8 := by omega
  rcases this with rfl | rfl | rfl | rfl | rfl | rfl | rfl | rfl | rfl
  all_goals
    injection h with h
    injection h with h1 h2
    subst h1 h2
    first | (show _ = _; kernel_rfl) | rfl | simp [go_sem]
set_option maxRecDepth 100000 in
set_option maxHeartbeats 3200000 in
theorem known_any {w : World} (hg : Gl7 [] w) (op : Int) : Calls Tryz.prog 99 #[.int .i64 op] w fun e w' => e = .returned (.bool (knownP op)) ∧ Fr [] w w' := by
  have hload := run_load_row (w := w) (g := 2) und_known rfl size_known hg.known
  have HL := Lib.hid hload
  clear hload
  go_enter Tryz.func99, Tryz.ntmps99
  go_wp2_with (refine wpList_load_cells rfl 146 _ rfl 2 rfl knownC HL.out ?_)
  go_loopw [6] (fun n wr => ∃ (k : Nat), n = .int .i64 k ∧ k ≤ 9 ∧ Fr [] w wr ∧ Hid (knownP op = (knownL.drop k).any fun p => decide (p.1 ≤ op ∧ op ≤ p.2))) (fun n _ => 9 - (intOf n).toNat)
  case atStart => exact ⟨0, rfl, by omega, Fr.refl _ _, Lib.hid rfl⟩
  case round =>
    obtain ⟨k, rfl, hk9, hF, hI⟩ := hrel
    by_cases hk : k < 9
    · obtain ⟨a, b, hab, hdrop⟩ := known_at hk
      have i1 : (k : Int) < 9 := by omega
      have hix := index_known wr k a b hab
      rw [hdrop] at hI
      by_cases c : a ≤ op ∧ op ≤ b
      · have e : knownP op = true := by rw [hI.out, List.any_cons]; simp [c]
        have E := Lib.hid e
        obtain ⟨c1, c2⟩ := c
        clear e hI
        go_wp2
        go_ret
        exact ⟨by rw [E.out]; rfl, by repeat (first | (with_reducible exact Fr.refl _ _) | (with_reducible assumption) | (with_reducible apply Fr.alloc) | (with_reducible apply Fr.drew) | (with_reducible apply Fr.drewN) | (with_reducible refine Fr.setCell ?_ (by first | (left; simp; done) | (right; simp; done) | (right; simp; omega)) _))⟩
      · have e : knownP op = (knownL.drop (k + 1)).any fun p => decide (p.1 ≤ op ∧ op ≤ p.2) := by rw [hI.out, List.any_cons]; simp [c]
        have E := Lib.hid e
        clear e hI
        have c' : ¬ a ≤ op ∨ (a ≤ op ∧ ¬ op ≤ b) := by omega
        clear c
        rcases c' with c1 | ⟨c1, c2⟩
        all_goals
          go_wp2
          go_roundw
          case rel => exact ⟨k + 1, by go_num, by omega, hF.alloc _, E⟩
          case measure => simp [intOf]; omega
    · have hk2 : k = 9 := by omega
      subst hk2
      have e : knownP op = false := hI.out
      have E := Lib.hid e
      clear e hI
      go_wp2
      go_ret
      exact ⟨by rw [E.out]; rfl, hF⟩
end Go.Proofs.YtokneepfknepaaaGreatDoor

set_option linter.unusedSimpArgs false
set_option linter.unusedVariables false
namespace Go.Proofs.YtokneepfknepaaaGreatDoor
open Go.RowKit

def intC (n : Int) : List Value := [.int .i64 n]
def catchC (c : CatchT) : List Value := [.int .i64 c.kind, .int .i64 c.tag, .int .i64 c.label]
/-- The cells of an instruction. -/
def insC (i : InstrT) (tv lv cv : Value) : List Value :=
  [.int .i64 i.op, .int .i64 i.x, .int .i64 i.y, .int .u64 (i.u : Int), .int .i64 i.heap.kind, .int .i64 i.heap.n, .int .i64 i.heap2.kind, .int .i64 i.heap2.n, .bool i.null, .bool i.null2, tv, lv,
    .int .i64 i.block.kind, .int .i64 i.block.val.kind, .bool i.block.val.null, .int .i64 i.block.val.heap.kind, .int .i64 i.block.val.heap.n, .int .i64 i.block.n, cv]
/-- An instruction's lists. -/
def InsR (S : List Nat) (w : World) (i : InstrT) (tv lv cv : Value) : Prop :=
  Sl S w 4 tv i.types.length (i.types.flatMap valC) ∧ Sl S w 1 lv i.labels.length (i.labels.flatMap intC) ∧ Sl S w 3 cv i.catches.length (i.catches.flatMap catchC)
def InssR (S : List Nat) (w : World) : List InstrT → List Value → Prop
  | [], cs => cs = []
  | i :: is, cs => ∃ tv lv cv rest, cs = insC i tv lv cv ++ rest ∧ InsR S w i tv lv cv ∧ InssR S w is rest
theorem InsR.fr {S S' : List Nat} {w w' : World} {i : InstrT} {tv lv cv : Value} (h : InsR S w i tv lv cv) (hf : Fr S' w w') (hs : ∀ b, b < w.heap.size → b ∈ S' → b ∈ S) : InsR S w' i tv lv cv :=
  ⟨h.1.fr hf hs, h.2.1.fr hf hs, h.2.2.fr hf hs⟩
theorem InsR.sub {S S' : List Nat} {w : World} {i : InstrT} {tv lv cv : Value} (h : InsR S w i tv lv cv) (hs : ∀ b, b < w.heap.size → b ∈ S' → b ∈ S) : InsR S' w i tv lv cv :=
  ⟨h.1.sub hs, h.2.1.sub hs, h.2.2.sub hs⟩
theorem InssR.fr {S S' : List Nat} {w w' : World} (hf : Fr S' w w') (hs : ∀ b, b < w.heap.size → b ∈ S' → b ∈ S) : ∀ {is : List InstrT} {cs : List Value}, InssR S w is cs → InssR S w' is cs
  | [], _, h => h
  | _ :: _, _, ⟨tv, lv, cv, rest, e, h1, h2⟩ => ⟨tv, lv, cv, rest, e, h1.fr hf hs, InssR.fr hf hs h2⟩
theorem InssR.sub {S S' : List Nat} {w : World} (hs : ∀ b, b < w.heap.size → b ∈ S' → b ∈ S) : ∀ {is : List InstrT} {cs : List Value}, InssR S w is cs → InssR S' w is cs
  | [], _, h => h
  | _ :: _, _, ⟨tv, lv, cv, rest, e, h1, h2⟩ => ⟨tv, lv, cv, rest, e, h1.sub hs, InssR.sub hs h2⟩
theorem InssR.app {S : List Nat} {w : World} {ks : List InstrT} {ds : List Value} (hk : InssR S w ks ds) : ∀ {is : List InstrT} {cs : List Value}, InssR S w is cs → InssR S w (is ++ ks) (cs ++ ds)
  | [], _, h => by
    have h : _ = [] := h
    subst h
    exact hk
  | _ :: _, _, ⟨tv, lv, cv, rest, e, h1, h2⟩ => by
    subst e
    exact ⟨tv, lv, cv, rest ++ ds, by simp, h1, InssR.app hk h2⟩
theorem InssR.one {S : List Nat} {w : World} {i : InstrT} {tv lv cv : Value} (h : InsR S w i tv lv cv) : InssR S w [i] (insC i tv lv cv) := ⟨tv, lv, cv, [], by simp, h, rfl⟩
theorem InssR.len {S : List Nat} {w : World} : ∀ {is : List InstrT} {cs : List Value}, InssR S w is cs → cs.length = is.length * 19
  | [], _, h => by
    have h : _ = [] := h
    subst h
    rfl
  | _ :: _, _, ⟨tv, lv, cv, rest, e, h1, h2⟩ => by
    subst e
    have := InssR.len h2
    simp only [List.length_append, List.length_cons, insC, List.length_nil]
    omega
theorem InssR.get {S : List Nat} {w : World} : ∀ {is : List InstrT} {cs : List Value}, InssR S w is cs → ∀ (k : Nat) (i : InstrT), is[k]? = some i →
    ∃ tv lv cv, InsR S w i tv lv cv ∧ ∀ r, r < 19 → cs[k * 19 + r]? = (insC i tv lv cv)[r]?
  | [], _, _, k, i, ht => by simp at ht
  | a :: is, _, ⟨tv, lv, cv, rest, e, h1, h2⟩, 0, i, ht => by
    subst e
    simp only [List.getElem?_cons_zero, Option.some.injEq] at ht
    subst ht
    refine ⟨tv, lv, cv, h1, fun r hr => ?_⟩
    rw [Nat.zero_mul, Nat.zero_add, List.getElem?_append_left (by simpa [insC] using hr)]
  | a :: is, _, ⟨tv, lv, cv, rest, e, h1, h2⟩, k + 1, i, ht => by
    subst e
    obtain ⟨tv', lv', cv', h3, h4⟩ := InssR.get h2 k i (by simpa using ht)
    refine ⟨tv', lv', cv', h3, fun r hr => ?_⟩
    rw [← h4 r hr, List.getElem?_append_right (by simp only [insC, List.length_cons, List.length_nil]; omega)]
    congr 1
    simp only [insC, List.length_cons, List.length_nil]
    omega
/-- An element of a slice of instructions. -/
theorem Sl.ins_elem {S : List Nat} {w : World} {v : Value} {is : List InstrT} {cs : List Value} (h : Sl S w 19 v is.length cs) (hs : InssR S w is cs) (k : Nat) (i : InstrT) (hi : is[k]? = some i) :
    ∃ b off cap tv lv cv, v = .slice (some ⟨b, off, none⟩) is.length cap ∧ b < w.heap.size ∧ b ∉ S ∧ InsR S w i tv lv cv ∧ ∀ r, r < 19 → w.cell? ⟨b, off + (k * 19 + r), none⟩ = (insC i tv lv cv)[r]? := by
  obtain ⟨h1, h2, a, cap, rfl, h4, h5, hN, h6⟩ := h
  have hlt : k < is.length := (List.getElem?_eq_some_iff.1 hi).1
  obtain ⟨tv, lv, cv, h7, h8⟩ := hs.get k i hi
  rcases h6 with h6 | ⟨b, off, rfl, hn, hb, hc⟩
  · omega
  · refine ⟨b, off, cap, tv, lv, cv, rfl, hb, hn, h7, fun r hr => ?_⟩
    rw [hc _ (by omega)]
    exact h8 r hr
theorem St.ins {S : List Nat} {w0 w : World} {G : List Res} (h : St S w0 w G) {i : InstrT} {tv lv cv : Value} (hs : InsR S w0 i tv lv cv) : InsR S w i tv lv cv := hs.fr h.fr (fun _ _ h => h)
theorem St.inss {S : List Nat} {w0 w : World} {G : List Res} (h : St S w0 w G) {is : List InstrT} {cs : List Value} (hs : InssR S w0 is cs) : InssR S w is cs := InssR.fr h.fr (fun _ _ h => h) hs
end Go.Proofs.YtokneepfknepaaaGreatDoor

set_option linter.unusedSimpArgs false
set_option linter.unusedVariables false
namespace Go.Proofs.YtokneepfknepaaaGreatDoor
open Go.ChangeShapes Go.WideShapes Go.ChangeAt Go.RowKit Go.Joins
set_option maxRecDepth 100000

theorem tab_of {H α : Type} {enc : TypeId × Value → H} {P : Program} {W : World} {base : Nat} {sp : Nat → Bool} {held : Bool} {t e : TypeId} {n k fuel : Nat} {cs : List Value} {q : List MemPlace} (ht : P.underlying t = some (.array n e)) (hk : P.cellsOf e = k)
    (f : α → DataW H) (c : α → List Value) (hc : ∀ a, (c a).length = k) (hel : ∀ m cs y a, DataW.trod enc P W base sp held m e cs = some y → y.1 = f a → cs = c a) (A : List α)
    (h : DataW.trod enc P W base sp held fuel t cs = some (.agg (A.map f), q)) : ∀ i, i < A.length * k → cs[i]? = (A.flatMap c)[i]? := by
  obtain ⟨xs, m, _, hx, hl, hlen, hf⟩ := DataW.trod_array ht h
  have hA : A.map f = xs.map (·.1) := by
    have := congrArg Prod.fst hx
    simpa using this
  have hAl : A.length = xs.length := by simpa using congrArg List.length hA
  intro i hi
  have hk0 : 0 < k := by
    rcases Nat.eq_zero_or_pos k with h0 | h0
    · subst h0; simp at hi
    · exact h0
  have hj : i / k < A.length := Nat.div_lt_of_lt_mul (by rw [Nat.mul_comm]; exact hi)
  have hr : i % k < k := Nat.mod_lt _ hk0
  have hi2 : i = i / k * k + i % k := by rw [Nat.mul_comm]; exact (Nat.div_add_mod i k).symm
  have h1 := hf (i / k) (by omega)
  rw [hk, List.getElem?_eq_getElem (by omega : i / k < xs.length)] at h1
  have h2 : (xs[i / k]'(by omega)).1 = f A[i / k] := by
    have := congrArg (fun l => l[i / k]?) hA
    simp only [List.getElem?_map, List.getElem?_eq_getElem hj, List.getElem?_eq_getElem (by omega : i / k < xs.length), Option.map_some, Option.some.injEq] at this
    exact this.symm
  have h3 := hel _ _ _ _ h1 h2
  have h4 := congrArg (fun l => l[i % k]?) h3
  simp only [List.getElem?_take, List.getElem?_drop, if_pos hr] at h4
  conv => lhs; rw [hi2]
  conv => rhs; rw [hi2]
  rw [h4, flat_get c k hc A (i / k) A[i / k] (List.getElem?_eq_getElem hj) _ hr]

theorem und_op : Tryz.prog.underlying 30 = some (.int .i64) := by kernel_rfl
theorem und_str : Tryz.prog.underlying 9 = some .string := by kernel_rfl
theorem cells_op : Tryz.prog.cellsOf 30 = 1 := by kernel_rfl
theorem cells_str : Tryz.prog.cellsOf 9 = 1 := by kernel_rfl
theorem cells_span : Tryz.prog.cellsOf 145 = 2 := by kernel_rfl
theorem cells_run : Tryz.prog.cellsOf 124 = 2 := by kernel_rfl
theorem arr_runs : Tryz.prog.underlying 125 = some (.array 16 124) := by kernel_rfl
theorem arr_known : Tryz.prog.underlying 146 = some (.array 9 145) := by kernel_rfl
theorem gRuns : Tryz.prog.globalNamed "geode/ops.runs" = some 0 := by kernel_rfl
theorem gRunsT : (Tryz.prog.globals[0]?).map (·.type) = some 125 := by kernel_rfl
theorem gKnown : Tryz.prog.globalNamed "geode/ops.known" = some 2 := by kernel_rfl
theorem gKnownT : (Tryz.prog.globals[2]?).map (·.type) = some 146 := by kernel_rfl
section
variable {H : Type} {enc : TypeId × Value → H} {W : World} {base : Nat} {sp : Nat → Bool} {held : Bool}
theorem el_span (m : Nat) (cs : List Value) (y : DataW H × List MemPlace) (a : Int × Int) (h : DataW.trod enc Tryz.prog W base sp held m 145 cs = some y) (he : y.1 = .agg [.lit (.int .i64 a.1), .lit (.int .i64 a.2)]) : cs = [.int .i64 a.1, .int .i64 a.2] := by
  obtain ⟨y0, y1, n, rfl, hl, h0, h1⟩ := trod_struct2 Tryz.underlying145 h
  rw [cells_span] at hl
  match cs, hl with
  | [c0, c1], _ =>
    simp only [List.drop, List.take, cells_op] at h0 h1
    obtain ⟨k, e0, rfl, _⟩ := DataW.trod_int und_op h0
    obtain ⟨l, e1, rfl, _⟩ := DataW.trod_int und_op h1
    simp only [DataW.agg.injEq, List.cons.injEq, DataW.lit.injEq, Lit.int.injEq, true_and, and_true] at he e0 e1
    obtain ⟨rfl, rfl⟩ := he
    rw [e0, e1]
theorem el_run (m : Nat) (cs : List Value) (y : DataW H × List MemPlace) (a : Int × List UInt8) (h : DataW.trod enc Tryz.prog W base sp held m 124 cs = some y) (he : y.1 = .agg [.lit (.int .i64 a.1), .lit (.string a.2)]) : cs = [.int .i64 a.1, .string ⟨a.2.toArray⟩] := by
  obtain ⟨y0, y1, n, rfl, hl, h0, h1⟩ := trod_struct2 Tryz.underlying124 h
  rw [cells_run] at hl
  match cs, hl with
  | [c0, c1], _ =>
    simp only [List.drop, List.take, cells_op, cells_str] at h0 h1
    obtain ⟨k, e0, rfl, _⟩ := DataW.trod_int und_op h0
    obtain ⟨l, e1, rfl, _⟩ := DataW.trod_string und_str h1
    obtain ⟨k2, l2⟩ := a
    simp only [DataW.agg.injEq, List.cons.injEq, DataW.lit.injEq, Lit.int.injEq, Lit.string.injEq, true_and, and_true] at he e0 e1
    obtain ⟨rfl, rfl⟩ := he
    rw [e0, e1]
end
theorem el_kind {H : Type} {enc : TypeId × Value → H} {W : World} {base : Nat} {sp : Nat → Bool} {held : Bool} (m : Nat) (cs : List Value) (y : DataW H × List MemPlace) (a : Int) (h : DataW.trod enc Tryz.prog W base sp held m 32 cs = some y) (he : y.1 = .lit (.int .i64 a)) : cs = [.int .i64 a] := by
  obtain ⟨k, e0, rfl, _⟩ := DataW.trod_int undKind h
  simp only [DataW.lit.injEq, Lit.int.injEq, true_and] at he
  subst he
  exact e0
theorem laid_heaps {H : Type} : (Rows.laid_geode_tbin_heaps : DataW H) = .agg (heapsL.map fun z => .lit (.int .i64 z)) := rfl
theorem laid_runs {H : Type} : (Rows.laid_geode_ops_runs : DataW H) = .agg (runsL.map fun p => .agg [.lit (.int .i64 p.1), .lit (.string p.2)]) := rfl
theorem laid_known {H : Type} : (Rows.laid_geode_ops_known : DataW H) = .agg (knownL.map fun p => .agg [.lit (.int .i64 p.1), .lit (.int .i64 p.2)]) := rfl
theorem lt_of_cell {W : World} {g o : Nat} {v : Value} (h : W.cell? ⟨g, o, none⟩ = some v) : g < W.heap.size := by
  rcases Nat.lt_or_ge g W.heap.size with k | k
  · exact k
  · exfalso
    have : W.heap[g]? = none := Array.getElem?_eq_none k
    simp [World.cell?, this] at h
theorem gl_of_laid7 {W : World} {rest : List (String × DataW Unit)} (h : laidMet Tryz.prog (("geode/ops.runs", Rows.laid_geode_ops_runs) :: ("geode/ops.known", Rows.laid_geode_ops_known) :: ("geode/tbin.heaps", Rows.laid_geode_tbin_heaps) :: rest) W) : Gl7 [] W := by
  obtain ⟨ps, ⟨g1, t1, cs1, fuel1, p1, q1, hg1, ht1, hv1, hd1, ⟨g2, t2, cs2, fuel2, p2, q2, hg2, ht2, hv2, hd2, ⟨g3, t3, cs3, fuel3, p3, q3, hg3, ht3, hv3, hd3, _⟩, _⟩, _⟩, _⟩ := h
  obtain rfl := Option.some.inj (gRuns.symm.trans hg1)
  obtain rfl := Option.some.inj (gRunsT.symm.trans ht1)
  obtain rfl := Option.some.inj (gKnown.symm.trans hg2)
  obtain rfl := Option.some.inj (gKnownT.symm.trans ht2)
  obtain rfl := Option.some.inj (gTab.symm.trans hg3)
  obtain rfl := Option.some.inj (gTabType.symm.trans ht3)
  rw [laid_runs] at hd1
  rw [laid_known] at hd2
  rw [laid_heaps] at hd3
  have r1 := tab_of arr_runs cells_run _ (fun p : Int × List UInt8 => [Value.int .i64 p.1, .string ⟨p.2.toArray⟩]) (fun _ => rfl) (fun m cs y a h he => el_run m cs y a h he) runsL hd1
  have r2 := tab_of arr_known cells_span _ (fun p : Int × Int => [Value.int .i64 p.1, .int .i64 p.2]) (fun _ => rfl) (fun m cs y a h he => el_span m cs y a h he) knownL hd2
  have r3 := tab_of undTab cellsKind _ (fun z : Int => [Value.int .i64 z]) (fun _ => rfl) (fun m cs y a h he => el_kind m cs y a h he) heapsL hd3
  have c1 : ∀ i, i < 32 → W.cell? ⟨0, i, none⟩ = runsC[i]? := fun i hi => by
    have h := r1 i (by have : runsL.length = 16 := rfl; omega)
    rw [Array.getElem?_toList] at h
    rw [World.var?_cell gRuns hv1 i]
    exact h
  have c2 : ∀ i, i < 18 → W.cell? ⟨2, i, none⟩ = knownC[i]? := fun i hi => by
    have h := r2 i (by have : knownL.length = 9 := rfl; omega)
    rw [Array.getElem?_toList] at h
    rw [World.var?_cell gKnown hv2 i]
    exact h
  have c3 : ∀ i, i < 12 → W.cell? ⟨1, i, none⟩ = some (.int .i64 (heapsL.getD i 0)) := fun i hi => by
    rw [World.var?_cell gTab hv3 i]
    have h3 := r3 i (by have : heapsL.length = 12 := rfl; omega)
    rw [Array.getElem?_toList] at h3
    have h4 : (heapsL.flatMap fun z : Int => [Value.int .i64 z])[i]? = some (.int .i64 (heapsL.getD i 0)) := by
      have : ∀ i ∈ List.range 12, (heapsL.flatMap fun z : Int => [Value.int .i64 z])[i]? = some (.int .i64 (heapsL.getD i 0)) := by
        intro i hi
        have : i = 0 ∨ i = 1 ∨ i = 2 ∨ i = 3 ∨ i = 4 ∨ i = 5 ∨ i = 6 ∨ i = 7 ∨ i = 8 ∨ i = 9 ∨ i = 10 ∨ i = 11 := by
          have := List.mem_range.1 hi; omega
        rcases this with rfl | rfl | rfl | rfl | rfl | rfl | rfl | rfl | rfl | rfl | rfl | rfl <;> rfl
      exact this i (List.mem_range.2 hi)
    rw [← h4, ← h3]
  exact ⟨⟨lt_of_cell (c3 0 (by decide)), by simp, c3⟩, lt_of_cell (v := .int .i64 0) (c1 0 (by decide)), by simp, c1, lt_of_cell (v := .int .i64 42) (c2 0 (by decide)), by simp, c2⟩

/-- A variable's block, its cells written anew. -/
def laidAt (cs : Array Value) : Obj → Obj
  | .cells _ t frozen => .cells cs t frozen
  | o => o
/-- A world for a witness: the settled one, the tables holding what their initialisers lay. -/
noncomputable def laidWorld7 (os : Os) : World :=
  { World.holding Tryz.prog os ⟨#[], #[], []⟩ with heap := (((World.holding Tryz.prog os ⟨#[], #[], []⟩).heap.modify 1 (laidAt #[.int .i64 11, .int .i64 5, .int .i64 4, .int .i64 3, .int .i64 2, .int .i64 1, .int .i64 9, .int .i64 7, .int .i64 6, .int .i64 10, .int .i64 8, .int .i64 12])).modify 0 (laidAt runsC.toArray)).modify 2 (laidAt knownC.toArray) }
end Go.Proofs.YtokneepfknepaaaGreatDoor

set_option linter.unusedSimpArgs false
set_option linter.unusedVariables false
namespace Go.Proofs.YtokneepfknepaaaGreatDoor
open Go.ChangeShapes Go.WideShapes Go.ChangeAt Go.RowKit Go.Joins
set_option maxRecDepth 100000
theorem trod_struct12 {H : Type} {enc : TypeId × Value → H} {P : Program} {w : World} {base : Nat} {spare : Nat → Bool} {held : Bool} {t : TypeId} {f0 f1 f2 f3 f4 f5 f6 f7 f8 f9 f10 f11 : Field} {fuel : Nat} {cs : List Value} {x : DataW H × List MemPlace} (ht : P.underlying t = some (.struct #[f0, f1, f2, f3, f4, f5, f6, f7, f8, f9, f10, f11])) (h : DataW.trod enc P w base spare held fuel t cs = some x) :
    ∃ y0 y1 y2 y3 y4 y5 y6 y7 y8 y9 y10 y11 n, cs.length = P.cellsOf t ∧ DataW.trod enc P w base spare held n f0.type ((cs.drop f0.offset).take (P.cellsOf f0.type)) = some y0 ∧ DataW.trod enc P w base spare held n f1.type ((cs.drop f1.offset).take (P.cellsOf f1.type)) = some y1 ∧ DataW.trod enc P w base spare held n f2.type ((cs.drop f2.offset).take (P.cellsOf f2.type)) = some y2 ∧ DataW.trod enc P w base spare held n f3.type ((cs.drop f3.offset).take (P.cellsOf f3.type)) = some y3 ∧ DataW.trod enc P w base spare held n f4.type ((cs.drop f4.offset).take (P.cellsOf f4.type)) = some y4 ∧ DataW.trod enc P w base spare held n f5.type ((cs.drop f5.offset).take (P.cellsOf f5.type)) = some y5 ∧ DataW.trod enc P w base spare held n f6.type ((cs.drop f6.offset).take (P.cellsOf f6.type)) = some y6 ∧ DataW.trod enc P w base spare held n f7.type ((cs.drop f7.offset).take (P.cellsOf f7.type)) = some y7 ∧ DataW.trod enc P w base spare held n f8.type ((cs.drop f8.offset).take (P.cellsOf f8.type)) = some y8 ∧ DataW.trod enc P w base spare held n f9.type ((cs.drop f9.offset).take (P.cellsOf f9.type)) = some y9 ∧ DataW.trod enc P w base spare held n f10.type ((cs.drop f10.offset).take (P.cellsOf f10.type)) = some y10 ∧ DataW.trod enc P w base spare held n f11.type ((cs.drop f11.offset).take (P.cellsOf f11.type)) = some y11 := by
  obtain ⟨xs, n, _, rfl, hl, hlen, hf⟩ := DataW.trod_struct ht h
  match xs, hlen with
  | [y0, y1, y2, y3, y4, y5, y6, y7, y8, y9, y10, y11], _ => exact ⟨y0, y1, y2, y3, y4, y5, y6, y7, y8, y9, y10, y11, n, hl, by simpa using hf 0 f0 rfl, by simpa using hf 1 f1 rfl, by simpa using hf 2 f2 rfl, by simpa using hf 3 f3 rfl, by simpa using hf 4 f4 rfl, by simpa using hf 5 f5 rfl, by simpa using hf 6 f6 rfl, by simpa using hf 7 f7 rfl, by simpa using hf 8 f8 rfl, by simpa using hf 9 f9 rfl, by simpa using hf 10 f10 rfl, by simpa using hf 11 f11 rfl⟩
theorem und_u64 : Tryz.prog.underlying 31 = some (.int .u64) := by kernel_rfl
theorem cells_u64 : Tryz.prog.cellsOf 31 = 1 := by kernel_rfl
theorem cells_block : Tryz.prog.cellsOf 41 = 6 := by kernel_rfl
theorem cells_catch : Tryz.prog.cellsOf 67 = 3 := by kernel_rfl
theorem cells_ints : Tryz.prog.cellsOf 36 = 1 := by kernel_rfl
theorem cells_catches : Tryz.prog.cellsOf 42 = 1 := by kernel_rfl
theorem cells_instr : Tryz.prog.cellsOf 44 = 19 := by kernel_rfl
theorem unds_ints : Tryz.prog.underlying 36 = some (.slice 3) := by kernel_rfl
theorem unds_catches : Tryz.prog.underlying 42 = some (.slice 67) := by kernel_rfl
theorem unds_inss : Tryz.prog.underlying 22 = some (.slice 44) := by kernel_rfl
theorem wf_u64 {n : Int} (h : (Lit.int .u64 n).wf = true) : 0 ≤ n ∧ n < 18446744073709551616 := by
  simp [Lit.wf, IntKind.min, IntKind.max, IntKind.signed, IntKind.bits] at h
  omega
section
variable {H : Type} {enc : TypeId × Value → H} {w : World} {sp : Nat → Bool} {held : Bool} {fuel : Nat} {cs : List Value} {x : DataW H × List MemPlace}
theorem arg_int1 (h : DataW.trod enc Tryz.prog w 0 sp held fuel 3 cs = some x) : ∃ n : Int, cs = intC n ∧ I64 n := by
  obtain ⟨n, rfl, _, w0⟩ := DataW.trod_int und_int h
  exact ⟨n, rfl, wf_i64 w0⟩
theorem arg_ints (h : DataW.trod enc Tryz.prog w 0 sp held fuel 36 cs = some x) : ∃ (v : Value) (l : List Int), cs = [v] ∧ Sl [] w 1 v l.length (l.flatMap intC) ∧ ∀ a, a ∈ l → I64 a :=
  trod_slice_sl intC 1 I64 unds_ints cells_int (by decide) (fun _ => rfl) (fun a _ u hu => by simp [intC] at hu; subst hu; rfl) (fun _ _ _ h => arg_int1 h) h
theorem arg_catch1 (h : DataW.trod enc Tryz.prog w 0 sp held fuel 67 cs = some x) : ∃ c : CatchT, cs = catchC c ∧ True := by
  obtain ⟨y0, y1, y2, n, _, hl, h0, h1, h2⟩ := Go.Deep.trod_struct3 Tryz.underlying67 h
  rw [cells_catch] at hl
  match cs, hl with
  | [c0, c1, c2], _ =>
    simp only [List.drop, List.take, cells_int] at h0 h1 h2
    obtain ⟨k, e0, _, _⟩ := DataW.trod_int und_int h0
    obtain ⟨m, e1, _, _⟩ := DataW.trod_int und_int h1
    obtain ⟨l, e2, _, _⟩ := DataW.trod_int und_int h2
    simp only [List.cons.injEq, and_true] at e0 e1 e2
    subst e0 e1 e2
    exact ⟨⟨k, m, l⟩, rfl, trivial⟩
theorem arg_catches (h : DataW.trod enc Tryz.prog w 0 sp held fuel 42 cs = some x) : ∃ (v : Value) (l : List CatchT), cs = [v] ∧ Sl [] w 3 v l.length (l.flatMap catchC) ∧ ∀ a, a ∈ l → True :=
  trod_slice_sl catchC 3 (fun _ => True) unds_catches cells_catch (by decide) (fun _ => rfl) (fun a _ u hu => by simp [catchC] at hu; rcases hu with rfl | rfl | rfl <;> rfl) (fun _ _ _ h => arg_catch1 h) h
theorem arg_block (h : DataW.trod enc Tryz.prog w 0 sp held fuel 41 cs = some x) : ∃ b : BlockT, cs = [.int .i64 b.kind, .int .i64 b.val.kind, .bool b.val.null, .int .i64 b.val.heap.kind, .int .i64 b.val.heap.n, .int .i64 b.n] := by
  obtain ⟨y0, y1, y2, n, _, hl, h0, h1, h2⟩ := Go.Deep.trod_struct3 Tryz.underlying41 h
  rw [cells_block] at hl
  match cs, hl with
  | [c0, c1, c2, c3, c4, c5], _ =>
    simp only [List.drop, List.take, cells_int, cells_val] at h0 h1 h2
    obtain ⟨k, e0, _, _⟩ := DataW.trod_int und_int h0
    obtain ⟨t, e1, _⟩ := arg_val h1
    obtain ⟨m, e5, _, _⟩ := DataW.trod_int und_int h2
    simp only [valC, List.cons.injEq, and_true] at e0 e1 e5
    obtain ⟨e1, e2, e3, e4⟩ := e1
    subst e0 e1 e2 e3 e4 e5
    exact ⟨⟨k, t, m⟩, rfl⟩
def NumI (i : InstrT) : Prop := (-9223372036854775808 ≤ i.op ∧ i.op < 9223372036854775808) ∧ i.u < 18446744073709551616
theorem arg_instr (h : DataW.trod enc Tryz.prog w 0 sp held fuel 44 cs = some x) : ∃ (i : InstrT) (tv lv cv : Value), cs = insC i tv lv cv ∧ InsR [] w i tv lv cv ∧ NumI i := by
  obtain ⟨y0, y1, y2, y3, y4, y5, y6, y7, y8, y9, y10, y11, n, hl, h0, h1, h2, h3, h4, h5, h6, h7, h8, h9, h10, h11⟩ := trod_struct12 Tryz.underlying44 h
  rw [cells_instr] at hl
  match cs, hl with
  | [c0, c1, c2, c3, c4, c5, c6, c7, c8, c9, c10, c11, c12, c13, c14, c15, c16, c17, c18], _ =>
    simp only [List.drop, List.take, cells_op, cells_int, cells_u64, cells_heap, cells_bool, cells_vals, cells_ints, cells_block, cells_catches] at h0 h1 h2 h3 h4 h5 h6 h7 h8 h9 h10 h11
    obtain ⟨o, e0, _, w0⟩ := DataW.trod_int und_op h0
    obtain ⟨x1, e1, _, _⟩ := DataW.trod_int und_int h1
    obtain ⟨x2, e2, _, _⟩ := DataW.trod_int und_int h2
    obtain ⟨u, e3, _, w3⟩ := DataW.trod_int und_u64 h3
    obtain ⟨t4, e4, _⟩ := arg_heap h4
    obtain ⟨t5, e5, _⟩ := arg_heap h5
    obtain ⟨b6, e6, _⟩ := DataW.trod_bool und_bool h6
    obtain ⟨b7, e7, _⟩ := DataW.trod_bool und_bool h7
    obtain ⟨tv, ts, e8, s8, _⟩ := arg_vals h8
    obtain ⟨lv, ls, e9, s9, _⟩ := arg_ints h9
    obtain ⟨b, e10⟩ := arg_block h10
    obtain ⟨cv, cl, e11, s11, _⟩ := arg_catches h11
    obtain ⟨u1, u2⟩ := wf_u64 w3
    obtain ⟨m, rfl⟩ := Int.eq_ofNat_of_zero_le u1
    simp only [heapC, List.cons.injEq, and_true] at e0 e1 e2 e3 e4 e5 e6 e7 e8 e9 e10 e11
    obtain ⟨e4, e4'⟩ := e4
    obtain ⟨e5, e5'⟩ := e5
    obtain ⟨f1, f2, f3, f4, f5, f6⟩ := e10
    subst e0 e1 e2 e3 e4 e4' e5 e5' e6 e7 e8 e9 f1 f2 f3 f4 f5 f6 e11
    exact ⟨⟨o, x1, x2, m, t4, t5, b6, b7, ts, ls, b, cl⟩, c10, c11, c18, rfl, ⟨s8, s9, s11⟩, ⟨wf_i64 w0, by dsimp only; omega⟩⟩

structure InsM where
  i : InstrT
  tv : Value
  lv : Value
  cv : Value
instance : Inhabited InsM := ⟨⟨default, default, default, default⟩⟩
def InsM.cells (m : InsM) : List Value := insC m.i m.tv m.lv m.cv
theorem inss_of {w : World} : ∀ (l : List InsM), (∀ a, a ∈ l → InsR [] w a.i a.tv a.lv a.cv) → InssR [] w (l.map (·.i)) (l.flatMap InsM.cells)
  | [], _ => rfl
  | a :: l, h => ⟨a.tv, a.lv, a.cv, l.flatMap InsM.cells, rfl, h a (by simp), inss_of l fun b hb => h b (by simp [hb])⟩
theorem arg_instrs (h : DataW.trod enc Tryz.prog w 0 sp held fuel 22 cs = some x) : ∃ (v : Value) (is : List InstrT) (gs : List Value), cs = [v] ∧ Sl [] w 19 v is.length gs ∧ InssR [] w is gs ∧ ∀ i, i ∈ is → NumI i := by
  obtain ⟨v, l, h1, h2, h3⟩ := trod_slice_sl InsM.cells 19 (fun s => InsR [] w s.i s.tv s.lv s.cv ∧ NumI s.i) unds_inss cells_instr (by decide) (fun _ => rfl) (fun a q u hu => by
    obtain ⟨q1, _⟩ := q
    have o1 := Sl.one q1.1
    have o2 := Sl.one q1.2.1
    have o3 := Sl.one q1.2.2
    simp only [InsM.cells, insC, List.mem_cons, List.not_mem_nil, or_false] at hu
    rcases hu with rfl | rfl | rfl | rfl | rfl | rfl | rfl | rfl | rfl | rfl | rfl | rfl | rfl | rfl | rfl | rfl | rfl | rfl | rfl <;> first | rfl | assumption) (fun _ _ _ h => by
    obtain ⟨i, tv, lv, cv, e, r, q⟩ := arg_instr h
    exact ⟨⟨i, tv, lv, cv⟩, e, r, q⟩) h
  refine ⟨v, l.map (·.i), l.flatMap InsM.cells, h1, by simpa using h2, inss_of l fun a ha => (h3 a ha).1, fun i hi => ?_⟩
  obtain ⟨a, ha, rfl⟩ := List.mem_map.1 hi
  exact (h3 a ha).2
end
end Go.Proofs.YtokneepfknepaaaGreatDoor
