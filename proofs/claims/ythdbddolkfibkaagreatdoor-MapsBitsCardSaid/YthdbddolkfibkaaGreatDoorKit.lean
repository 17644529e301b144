
/- Small lemmas on worlds that all walks use: which blocks a call may change; blocks that are known whole; slices that are read; slices that are appended to. -/
import Derived.Test.YthdbddolkfibkaaGreatDoorAux
import Derived.Test.YthdbddolkfibkaaGreatDoorProg
import Derived.WalkKit
import Derived.WalkSpells
import Derived.WalkLawsBesides
import Derived.Deep.QuietTactic
import Derived.BigQuiet
import Derived.LaidEqlPtr
import Derived.Deep.AppendSrc
import Derived.Deep.Upon
import Derived.Deep.RegionWith
import Derived.Deep.LoopGhost
import Derived.Deep.RegionLaw
import Derived.Deep.RegionLawGrows
import Derived.Lib.Hide
set_option linter.unusedSimpArgs false
set_option linter.unusedVariables false
namespace Go.Proofs.YthdbddolkfibkaaGreatDoor
open Go.RowKit

/-- Behind a call all blocks that were there are as they were, but for those of the list. -/
structure Fr (S : List Nat) (w w' : World) : Prop where
  os : w'.os = w.os
  tape : w'.tape = w.tape
  output : w'.output = w.output
  size : w.heap.size ≤ w'.heap.size
  block : ∀ k, k < w.heap.size → k ∉ S → w'.heap[k]? = w.heap[k]?

theorem Fr.refl (S : List Nat) (w : World) : Fr S w w := ⟨rfl, rfl, rfl, Nat.le_refl _, fun _ _ _ => rfl⟩
theorem Fr.trans {S : List Nat} {a b c : World} (h : Fr S a b) (k : Fr S b c) : Fr S a c :=
  ⟨k.os.trans h.os, k.tape.trans h.tape, k.output.trans h.output, Nat.le_trans h.size k.size, fun i hi hn => (k.block i (Nat.lt_of_lt_of_le hi h.size) hn).trans (h.block i hi hn)⟩
theorem Fr.mono {S S' : List Nat} {w w' : World} (h : Fr S w w') (hs : ∀ k, k ∈ S → k ∈ S') : Fr S' w w' :=
  ⟨h.os, h.tape, h.output, h.size, fun k hk hn => h.block k hk (fun hm => hn (hs k hm))⟩
/-- Of two steps the second may change also what came new. -/
theorem Fr.then {S S' : List Nat} {a b c : World} (h : Fr S a b) (k : Fr S' b c) (hs : ∀ k, k ∈ S' → k ∈ S ∨ a.heap.size ≤ k) : Fr S a c :=
  ⟨k.os.trans h.os, k.tape.trans h.tape, k.output.trans h.output, Nat.le_trans h.size k.size, fun i hi hn =>
    (k.block i (Nat.lt_of_lt_of_le hi h.size) (fun hm => (hs i hm).elim hn (fun h => by omega))).trans (h.block i hi hn)⟩
theorem Fr.drew {S : List Nat} {a w : World} (h : Fr S a w) : Fr S a w.drew := ⟨h.os, h.tape, h.output, h.size, h.block⟩
theorem Fr.drewN {S : List Nat} {a w : World} (h : Fr S a w) (n : Nat) : Fr S a (w.drewN n) := ⟨h.os, h.tape, h.output, h.size, h.block⟩
theorem Fr.alloc {S : List Nat} {a w : World} (h : Fr S a w) (o : Obj) : Fr S a (w.alloc o) :=
  h.trans ⟨rfl, rfl, rfl, by simp, fun k hk _ => Below.heap_alloc _ _ _ hk⟩
theorem Fr.setCell {S : List Nat} {a w : World} (h : Fr S a w) {p : Addr} (hp : p.block ∈ S ∨ a.heap.size ≤ p.block) (u : Value) : Fr S a (w.setCell p u) :=
  ⟨h.os, h.tape, h.output, by simpa [World.setCell] using h.size, fun k hk hn => by
    rw [Below.heap_setCell _ _ _ _ (by rintro rfl; rcases hp with hp | hp; exact hn hp; omega)]; exact h.block k hk hn⟩
theorem Fr.cell {S : List Nat} {w w' : World} (h : Fr S w w') {b : Nat} (hb : b < w.heap.size) (hn : b ∉ S) (o : Nat) : w'.cell? ⟨b, o, none⟩ = w.cell? ⟨b, o, none⟩ :=
  World.cell?_of_block (h.block b hb hn)
theorem Fr.frozen {S : List Nat} {w w' : World} (h : Fr S w w') {b : Nat} (hb : b < w.heap.size) (hn : b ∉ S) (o : Nat) : w'.frozen? ⟨b, o, none⟩ = w.frozen? ⟨b, o, none⟩ :=
  World.frozen?_of_block (h.block b hb hn)
theorem Fr.below {w w' : World} (h : Fr [] w w') : Below w.heap.size w w' := ⟨h.os, h.tape, h.output, h.size, fun k hk => h.block k hk (by simp)⟩

/-- A block that is known whole. -/
def Loc (w : World) (b : Nat) (c : List Value) (T : TypeId) : Prop := w.heap[b]? = some (.cells c.toArray T (0, 0))
theorem Loc.lt {w : World} {b : Nat} {c : List Value} {T : TypeId} (h : Loc w b c T) : b < w.heap.size := (Array.getElem?_eq_some_iff.1 h).1
theorem Loc.cell {w : World} {b : Nat} {c : List Value} {T : TypeId} (h : Loc w b c T) : ∀ o, w.cell? ⟨b, o, none⟩ = c[o]? := fun o => by
  unfold Loc at h; simp [World.cell?, h]
theorem Loc.frz {w : World} {b : Nat} {c : List Value} {T : TypeId} (h : Loc w b c T) : ∀ o, w.frozen? ⟨b, o, none⟩ = false := fun o => by
  unfold Loc at h; simp [World.frozen?, h]
theorem Loc.fr {w w' : World} {b : Nat} {c : List Value} {T : TypeId} {S : List Nat} (h : Loc w b c T) (hf : Fr S w w') (hn : b ∉ S) : Loc w' b c T := by
  unfold Loc at *; rw [hf.block b (Loc.lt h) hn]; exact h
theorem Loc.new (w : World) (c : List Value) (T : TypeId) : Loc (w.alloc (.cells c.toArray T)) w.heap.size c T := heap_alloc_new w _
theorem Loc.alloc {w : World} {b : Nat} {c : List Value} {T : TypeId} (h : Loc w b c T) (o : Obj) : Loc (w.alloc o) b c T := by
  unfold Loc at *; exact (Below.heap_alloc w o b (Loc.lt h)).trans h
theorem Loc.drew {w : World} {b : Nat} {c : List Value} {T : TypeId} (h : Loc w b c T) : Loc w.drew b c T := h
theorem Loc.drewN {w : World} {b : Nat} {c : List Value} {T : TypeId} (h : Loc w b c T) (n : Nat) : Loc (w.drewN n) b c T := h
theorem Loc.set {w : World} {b : Nat} {c : List Value} {T : TypeId} (h : Loc w b c T) (i : Nat) (v : Value) : Loc (w.setCell ⟨b, i, none⟩ v) b (c.set i v) T := by
  unfold Loc at *
  simp [World.setCell, Array.getElem?_modify, h]
theorem Loc.set' {w : World} {b : Nat} {c : List Value} {T : TypeId} (h : Loc w b c T) {p : Addr} (hn : b ≠ p.block) (v : Value) : Loc (w.setCell p v) b c T := by
  unfold Loc at *; rw [heap_setCell_other _ _ _ _ hn]; exact h

/-- A slice that is read: n elements of k cells each; its memory is none of S. -/
def Sl (S : List Nat) (w : World) (k : Nat) (v : Value) (n : Nat) (cs : List Value) : Prop :=
  cs.length = n * k ∧ (∀ u ∈ cs, u.oneCell' = true) ∧ ∃ a cap, v = .slice a n cap ∧ n ≤ cap ∧ cap ≤ maxLen ∧
    (a = none → cap = 0) ∧ (n = 0 ∨ ∃ b off, a = some ⟨b, off, none⟩ ∧ b ∉ S ∧ b < w.heap.size ∧ ∀ j, j < n * k → w.cell? ⟨b, off + j, none⟩ = cs[j]?)
theorem Sl.fr {S S' : List Nat} {w w' : World} {k n : Nat} {v : Value} {cs : List Value} (h : Sl S w k v n cs) (hf : Fr S' w w') (hs : ∀ b, b < w.heap.size → b ∈ S' → b ∈ S) : Sl S w' k v n cs := by
  obtain ⟨h1, h2, a, cap, h3, h4, h5, hN, h6⟩ := h
  refine ⟨h1, h2, a, cap, h3, h4, h5, hN, ?_⟩
  rcases h6 with h6 | ⟨b, off, e, hn, hb, hc⟩
  · exact .inl h6
  · refine .inr ⟨b, off, e, hn, Nat.lt_of_lt_of_le hb hf.size, fun j hj => ?_⟩
    rw [hf.cell hb (fun hm => hn (hs b hb hm))]; exact hc j hj
theorem Sl.sub {S S' : List Nat} {w : World} {k n : Nat} {v : Value} {cs : List Value} (h : Sl S w k v n cs) (hs : ∀ b, b < w.heap.size → b ∈ S' → b ∈ S) : Sl S' w k v n cs := by
  obtain ⟨h1, h2, a, cap, h3, h4, h5, hN, h6⟩ := h
  refine ⟨h1, h2, a, cap, h3, h4, h5, hN, ?_⟩
  rcases h6 with h6 | ⟨b, off, e, hn, hb, hc⟩
  · exact .inl h6
  · exact .inr ⟨b, off, e, fun hm => hn (hs b hb hm), hb, hc⟩
theorem Sl.nil (S : List Nat) (w : World) (k : Nat) : Sl S w k (.slice none 0 0) 0 [] :=
  ⟨by simp, (fun _ h => by cases h), none, 0, rfl, Nat.le_refl _, by decide, fun _ => rfl, .inl rfl⟩
theorem Sl.src {P : Program} {S : List Nat} {w : World} {k n : Nat} {v : Value} {cs : List Value} {tx e' : TypeId} (h : Sl S w k v n cs) (hk : P.underlying tx = some (.slice e')) : Src P k tx v n cs w := by
  obtain ⟨h1, h2, a, cap, rfl, h4, h5, hN, h6⟩ := h
  rcases h6 with rfl | ⟨b, off, rfl, hn, hb, hc⟩
  · have : cs = [] := by simpa using h1
    subst this
    cases a with
    | none => exact Src.ofNil w hk cap
    | some a => exact Src.ofSlice w hk a 0 cap [] (by simp) (by simp) (by simp)
  · refine Src.ofSlice w hk ⟨b, off, none⟩ n cap cs h1 (fun j u hu => ?_) h2
    have hj : j < n * k := by rw [← h1]; exact (List.getElem?_eq_some_iff.1 hu).1
    have hadd : (⟨b, off, none⟩ : Addr).add j = ⟨b, off + j, none⟩ := by unfold Addr.add; split <;> simp_all
    rw [hadd, hc j hj]; exact hu

def Value.blk : Value → List Nat
  | .slice (some a) _ _ => [a.block]
  | _ => []

/-- A slice of the call's own, that may be appended to. -/
def Own (S : List Nat) (w : World) (e : TypeId) (k : Nat) (v : Value) (n : Nat) (xs : List Value) : Prop :=
  xs.length = n * k ∧ (∀ u ∈ xs, u.oneCell' = true) ∧ ((v = .slice none 0 0 ∧ n = 0) ∨
   ∃ g cap cur, v = .slice (some ⟨g, 0, none⟩) n cap ∧ g ∉ S ∧ w.heap[g]? = some (.cells cur e (0, 0)) ∧ n ≤ cap ∧ cap ≤ maxLen ∧ cur.size = cap * k ∧ cur.toList.take (n * k) = xs)
theorem Own.nil (S : List Nat) (w : World) (e : TypeId) (k : Nat) : Own S w e k (.slice none 0 0) 0 [] := ⟨by simp, (fun _ h => by cases h), .inl ⟨rfl, rfl⟩⟩
theorem Own.fr {S S' : List Nat} {w w' : World} {e : TypeId} {k n : Nat} {v : Value} {xs : List Value} (h : Own S w e k v n xs) (hf : Fr S' w w') (hs : ∀ b, b ∈ S' → b ∉ Value.blk v) : Own S w' e k v n xs := by
  obtain ⟨h1, h2, h3⟩ := h
  refine ⟨h1, h2, ?_⟩
  rcases h3 with h3 | ⟨g, cap, cur, rfl, hg, hh, h4⟩
  · exact .inl h3
  · refine .inr ⟨g, cap, cur, rfl, hg, ?_, h4⟩
    rw [hf.block g (Array.getElem?_eq_some_iff.1 hh).1 (fun hm => hs g hm (by simp [Value.blk]))]; exact hh
theorem Own.sub {S S' : List Nat} {w : World} {e : TypeId} {k n : Nat} {v : Value} {xs : List Value} (h : Own S w e k v n xs) (hs : ∀ b, b ∈ S' → b ∈ S ∨ b ∉ Value.blk v) : Own S' w e k v n xs := by
  obtain ⟨h1, h2, h3⟩ := h
  refine ⟨h1, h2, ?_⟩
  rcases h3 with h3 | ⟨g, cap, cur, rfl, hg, h4⟩
  · exact .inl h3
  · exact .inr ⟨g, cap, cur, rfl, fun hm => (hs g hm).elim hg (fun h => h (by simp [Value.blk])), h4⟩
theorem Own.blk_lt {S : List Nat} {w : World} {e : TypeId} {k n : Nat} {v : Value} {xs : List Value} (h : Own S w e k v n xs) : ∀ b, b ∈ Value.blk v → b < w.heap.size ∧ b ∉ S := by
  obtain ⟨h1, h2, h3⟩ := h
  rcases h3 with ⟨rfl, _⟩ | ⟨g, cap, cur, rfl, hg, hh, h4⟩
  · intro b hb; cases hb
  · intro b hb
    simp [Value.blk] at hb
    subst hb
    exact ⟨(Array.getElem?_eq_some_iff.1 hh).1, hg⟩
/-- What was appended to is read. -/
theorem Own.sl {S S' : List Nat} {w : World} {e : TypeId} {k n : Nat} {v : Value} {xs : List Value} (h : Own S w e k v n xs) (hs : ∀ b, b ∈ Value.blk v → b ∉ S') : Sl S' w k v n xs := by
  obtain ⟨h1, h2, h3⟩ := h
  refine ⟨h1, h2, ?_⟩
  rcases h3 with ⟨rfl, rfl⟩ | ⟨g, cap, cur, rfl, hg, hh, h4, h5, h6, h7⟩
  · exact ⟨none, 0, rfl, Nat.le_refl _, by decide, fun _ => rfl, .inl rfl⟩
  · refine ⟨_, cap, rfl, h4, h5, fun h => (by cases h), ?_⟩
    by_cases h0 : n = 0
    · exact .inl h0
    · refine .inr ⟨g, 0, rfl, hs g (by simp [Value.blk]), (Array.getElem?_eq_some_iff.1 hh).1, fun j hj => ?_⟩
      rw [Nat.zero_add, cell_of_row w g j cur e (0, 0) hh, ← h7, List.getElem?_take, if_pos hj]
      simp
theorem Own.shape {S : List Nat} {w : World} {e : TypeId} {k n : Nat} {v : Value} {xs : List Value} (h : Own S w e k v n xs) : ∃ a cap, v = .slice a n cap ∧ n ≤ cap ∧ cap ≤ maxLen := by
  obtain ⟨h1, h2, h3⟩ := h
  rcases h3 with ⟨rfl, rfl⟩ | ⟨g, cap, cur, rfl, hg, hh, h4, h5, h6⟩
  · exact ⟨_, _, rfl, Nat.le_refl _, by decide⟩
  · exact ⟨_, _, rfl, h4, h5⟩
theorem Own.made {S : List Nat} {w : World} (e : TypeId) (k n : Nat) (xs : List Value) (hS : ∀ b, b ∈ S → b < w.heap.size) (h1 : xs.length = n * k) (h2 : ∀ u ∈ xs, u.oneCell' = true) (hm : n ≤ maxLen) :
    Own S (w.alloc (.cells xs.toArray e)) e k (.slice (some ⟨w.heap.size, 0, none⟩) n n) n xs :=
  ⟨h1, h2, .inr ⟨w.heap.size, n, xs.toArray, rfl, fun hm => by have := hS _ hm; omega, heap_alloc_new w _, Nat.le_refl _, hm, by simpa using h1, by rw [← h1]; simp⟩⟩

theorem heap_setCells (g : Nat) (e : TypeId) : ∀ (vs : List Value) (o : Nat) (w : World) (cur : Array Value), w.heap[g]? = some (.cells cur e (0, 0)) → o + vs.length ≤ cur.size →
    ∃ cur', (w.setCells g o vs).heap[g]? = some (.cells cur' e (0, 0)) ∧ cur'.size = cur.size ∧ cur'.toList = cur.toList.take o ++ vs ++ cur.toList.drop (o + vs.length)
  | [], o, w, cur, h, _ => ⟨cur, h, rfl, by simp⟩
  | v :: r, o, w, cur, h, hl => by
    simp only [List.length_cons] at hl
    have h1 := heap_setCell_same w g o cur e v h
    obtain ⟨cur', a, b, c⟩ := heap_setCells g e r (o + 1) _ _ h1 (by simp; omega)
    refine ⟨cur', a, by simpa using b, ?_⟩
    rw [c]
    have hlt : o < cur.toList.length := by simp; omega
    have e1 : (cur.toList.set o v).take (o + 1) = cur.toList.take o ++ [v] := by
      rw [List.take_succ_eq_append_getElem (by simpa using hlt)]
      simp [List.take_set]
      exact List.set_eq_of_length_le (by simp; omega)
    have e2 : (cur.toList.set o v).drop (o + 1 + r.length) = cur.toList.drop (o + (r.length + 1)) := by
      rw [List.drop_set_of_lt (by omega)]; congr 1; omega
    simp only [Array.toList_setIfInBounds, List.length_cons]
    rw [e1, e2]
    simp
theorem fr_setCells (g : Nat) (vs : List Value) (o : Nat) (w : World) : Fr [g] w (w.setCells g o vs) := by
  induction vs generalizing o w with
  | nil => exact Fr.refl _ _
  | cons v r ih => exact ((Fr.refl [g] w).setCell (p := ⟨g, o, none⟩) (by simp) v).trans (ih _ _)

theorem run_app {P : Program} (w : World) (t tx ty e : TypeId) (i : TypeInfo) (z : Value) (k bytes : Nat) (ht : P.underlying t = some (.slice e)) (hi : P.info? e = some i) (hz : i.zero = some z)
    (hsize : i.size = k) (hby : i.bytes = bytes) (hzs : z.cells.size = k) (hk : 0 < k) {S : List Nat} (hS : ∀ b, b ∈ S → b < w.heap.size)
    {v : Value} {n : Nat} {xs : List Value} (hown : Own S w e k v n xs) {x : Value} {m : Nat} {news : List Value} (hsrc : Src P k tx x m news w)
    (hb : (n + m) * bytes ≤ 140737488355328) (hml : n + m ≤ maxLen) :
    ∃ v' w', (Builtin.append_ #[t, tx] ty #[v, x]).run P w = .ok v' w' ∧ Own S w' e k v' (n + m) (xs ++ news) ∧ Fr (Value.blk v) w w' ∧ (Value.blk v' = Value.blk v ∨ Value.blk v' = [w.heap.size]) := by
  subst hsize
  subst hby
  obtain ⟨h1, h2, h3⟩ := hown
  have hlen : (xs ++ news).length = (n + m) * i.size := by rw [List.length_append, h1, hsrc.newsLen, Nat.add_mul]
  have hone : ∀ u ∈ xs ++ news, u.oneCell' = true := fun u hu => by
    rcases List.mem_append.1 hu with h | h
    · exact h2 u h
    · exact hsrc.one u h
  have grown : ∀ (old : Nat), old < n + m →
      Own S (w.drew.alloc (.cells ((xs ++ news).toArray ++ Builtin.zeroCells z.cells (grownCap w (n + m) old e - (n + m))) e)) e i.size (.slice (some ⟨w.heap.size, 0, none⟩) (n + m) (grownCap w (n + m) old e)) (n + m) (xs ++ news) := by
    intro old ho
    have hge := grownCap_ge w (n + m) old e
    have hcm : grownCap w (n + m) old e ≤ maxLen := grownCap_le_maxLen w (n + m) old e hml
    refine ⟨hlen, hone, .inr ⟨w.heap.size, _, _, rfl, fun hm => by have := hS _ hm; omega, heap_alloc_new w.drew _, hge, hcm, ?_, ?_⟩⟩
    · simp only [Array.size_append, List.size_toArray, size_zeroCells, hzs, hlen, ← Nat.add_mul]
      congr 1
      omega
    · simp only [Array.toList_append]
      rw [List.take_append_of_le_length (by omega), ← hlen, List.take_length]
  have hbig : n + m ≤ 9223372036854775807 := by simp only [maxLen] at hml; omega
  rcases h3 with ⟨rfl, rfl⟩ | ⟨g, cap, cur, rfl, hg, hh, h4, h5, h6, h7⟩
  · have hxs : xs = [] := by simpa using h1
    subst hxs
    by_cases h0 : m = 0
    · subst h0
      have hnews : news = [] := by have := hsrc.newsLen; simpa using this
      subst hnews
      refine ⟨_, w, run_append_nothing w t tx ty e i ht hi none 0 0 (Nat.le_refl _) x hsrc, ?_, Fr.refl _ _, .inl rfl⟩
      exact ⟨by simp, (fun _ h => by cases h), .inl ⟨rfl, rfl⟩⟩
    · refine ⟨_, _, run_append_grow_src w t tx ty e i z ht hi hz none 0 0 [] (run_firstCells_none _ _ _ _ _) x m news hsrc (by omega) (by omega) (growslice_fits (by omega) (by simpa using hb)), ?_, ?_, .inr rfl⟩
      · exact grown 0 (by omega)
      · exact ((Fr.refl _ w).drew).alloc _
  · by_cases hroom : n + m ≤ cap
    · have hsz : 0 + n * i.size + news.length ≤ cur.size := by
        rw [hsrc.newsLen, h6, Nat.zero_add, ← Nat.add_mul]; exact Nat.mul_le_mul_right _ hroom
      obtain ⟨cur', a, b, c⟩ := heap_setCells g e news (0 + n * i.size) w cur hh hsz
      refine ⟨_, _, run_append_room_src w t tx ty e i ht hi g 0 n cap x m news hsrc hroom (fun j hj => ?_) (fun j hj => ?_), ?_, fr_setCells _ _ _ _, .inl rfl⟩
      · rw [cell_of_row w g _ cur e (0, 0) hh, Array.getElem?_eq_getElem (by omega)]; rfl
      · exact frozen_of_row w g _ cur e hh
      · refine ⟨hlen, hone, .inr ⟨g, cap, cur', rfl, hg, a, hroom, h5, by rw [b, h6], ?_⟩⟩
        rw [c, Nat.zero_add, h7, List.take_append_of_le_length (by omega), ← hlen, List.take_length]
    · refine ⟨_, _, run_append_grow_src w t tx ty e i z ht hi hz (some ⟨g, 0, none⟩) n cap xs ?_ x m news hsrc (by omega) (by omega) (growslice_fits (by omega) hb), ?_, ?_, .inr rfl⟩
      · refine run_firstCells_some _ _ _ _ _ _ xs h1 (fun j u hu => ?_)
        have hadd : (⟨g, 0, none⟩ : Addr).add j = ⟨g, j, none⟩ := by unfold Addr.add; split <;> simp_all
        rw [hadd]
        show w.cell? _ = _
        rw [cell_of_row w g j cur e (0, 0) hh]
        rw [← h7, List.getElem?_take] at hu
        split at hu
        · simpa using hu
        · cases hu
      · exact grown cap (by omega)
      · exact ((Fr.refl _ w).drew).alloc _

theorem wpList_app {P : Program} {w : World} {ops : Array Oper} {rest : List Oper} {o : Oper} {a : Act} {Q : Exit → Act → World → Prop} (hgd : o.guard = none) (s x : Operand) (t tx : TypeId)
    (ho : o.op = .call { callee := .builtin .append, args := #[s, x], argTypes := #[t, tx] })
    (e : TypeId) (i : TypeInfo) (z : Value) (k bytes : Nat) (ht : P.underlying t = some (.slice e)) (hi : P.info? e = some i) (hz : i.zero = some z)
    (hsize : i.size = k) (hby : i.bytes = bytes) (hzs : z.cells.size = k) (hk : 0 < k) (S : List Nat) (hS : ∀ b, b ∈ S → b < w.heap.size)
    (v : Value) (n : Nat) (xs : List Value) (hs : a.eval s = v) (hown : Own S w e k v n xs) (xv : Value) (m : Nat) (news : List Value) (hx : a.eval x = xv) (hsrc : Src P k tx xv m news w)
    (hb : (n + m) * bytes ≤ 140737488355328) (hml : n + m ≤ maxLen)
    (h : ∀ v' w', Own S w' e k v' (n + m) (xs ++ news) → Fr (Value.blk v) w w' → (Value.blk v' = Value.blk v ∨ Value.blk v' = [w.heap.size]) → wpList P ops Q rest (a.put o.dst v') w') :
    wpList P ops Q (o :: rest) a w := by
  obtain ⟨v', w', h1, h2, h3, h4⟩ := run_app w t tx o.type e i z k bytes ht hi hz hsize hby hzs hk hS hown hsrc hb hml
  refine wpList_plain hgd fun K hK => ?_
  unfold Oper.wp execOp
  simp only [ho, resolve, invoke, builtin, Sem.run_bind, Sem.run_pure, Result.andThen_ok, List.map_toArray, List.map_cons, List.map_nil, hs, hx, h1]
  exact hK _ _ (h v' w' h2 h3 h4)

/-- A byte in its cell. -/
def B (c : UInt8) : Value := .int .u8 (c.toNat : Int)

/-- A result that lies in a block of the call's own. -/
theorem ret_cell {P : Program} {fn : Func} {R : Ending → World → Prop} {a : Act} {w : World} {p : Tmp} {ty T : TypeId} {d : TypeDesc} {g : Nat} {cs : List Value} (h : fn.results = #[.cell p ty]) (hp : a.tmps.getD p undef = .pointer (some ⟨g, 0, none⟩))
    (hL : Loc w g cs T) (hu : P.underlying ty = some d) (hd : (match d with | .struct _ | .array _ _ => true | _ => false) = true) (hi : (P.info? ty).map (·.size) = some cs.length) (hdf : a.defers = []) (hR : R (.returned (.agg cs.toArray)) w) :
    bodyPost P fn R .ret a w :=
  bodyPost_ret (results_cell_row h _ _ g T cs.toArray (0, 0) d hp hL hu hd (by simpa using hi)) hdf hR

theorem ne_of_beqI {c k : Int} (h : (c == k) = false) : c ≠ k := by simpa using h
theorem eq_of_beqI {c k : Int} (h : (c == k) = true) : c = k := by simpa using h

/-- The slice's memory came new. -/
def New (w : World) (v : Value) : Prop := ∀ b, b ∈ Value.blk v → w.heap.size ≤ b
theorem New.nil (w : World) : New w (.slice none 0 0) := fun _ h => by cases h
theorem New.app {w0 : World} {v v' : Value} (h : New w0 v) {g : Nat} (hb : Value.blk v' = Value.blk v ∨ Value.blk v' = [g]) (hs : w0.heap.size ≤ g) : New w0 v' := by
  intro b hm
  rcases hb with hb | hb
  · rw [hb] at hm; exact h b hm
  · rw [hb] at hm; simp at hm; omega
theorem New.not {w0 : World} {v : Value} (h : New w0 v) {b : Nat} (hb : b < w0.heap.size) : b ∉ Value.blk v := fun hv => by have := h b hv; omega
theorem New.mono {w0 w1 : World} {v : Value} (h : New w1 v) (hs : w0.heap.size ≤ w1.heap.size) : New w0 v := fun b hb => Nat.le_trans hs (h b hb)
theorem Own.anyS {S S' : List Nat} {w0 w : World} {e : TypeId} {k n : Nat} {v : Value} {xs : List Value} (h : Own S w e k v n xs) (hn : New w0 v) (hS : ∀ b, b ∈ S' → b < w0.heap.size) : Own S' w e k v n xs :=
  h.sub fun b hb => .inr fun hv => by have := hn b hv; have := hS b hb; omega
theorem Own.slN {S S' : List Nat} {w0 w : World} {e : TypeId} {k n : Nat} {v : Value} {xs : List Value} (h : Own S w e k v n xs) (hn : New w0 v) (hS : ∀ b, b ∈ S' → b < w0.heap.size) : Sl S' w k v n xs :=
  h.sl fun b hv hb => by have := hn b hv; have := hS b hb; omega
theorem Fr.app {w0 w w' : World} {S : List Nat} {v : Value} (h : Fr S w0 w) (hf : Fr (Value.blk v) w w') (hn : New w0 v) : Fr S w0 w' := h.then hf fun b hb => .inr (hn b hb)
theorem src1 {P : Program} {w : World} {g c : Nat} {u : Value} {tx e' : TypeId} (hk : P.underlying tx = some (.slice e')) (h : w.cell? ⟨g, 0, none⟩ = some u) (h1 : u.oneCell' = true) : Src P 1 tx (.slice (some ⟨g, 0, none⟩) 1 c) 1 [u] w :=
  Src.ofSlice w hk _ _ _ _ rfl (fun j u hu => by match j, hu with | 0, hu => simp at hu; subst hu; exact h) (by simpa using h1)

/-- The slice of one element that 'append(b, x)' lays for x. -/
theorem src_new {P : Program} {tx e' : TypeId} (hk : P.underlying tx = some (.slice e')) (w : World) (u : Value) (e : TypeId) (c : Nat) (h1 : u.oneCell' = true) : Src P 1 tx (.slice (some ⟨w.heap.size, 0, none⟩) 1 c) 1 [u] (w.alloc (.cells #[u] e)) :=
  src1 hk (by simp) h1
theorem Own.alloc {S : List Nat} {w : World} {e : TypeId} {k n : Nat} {v : Value} {xs : List Value} (h : Own S w e k v n xs) (o : Obj) : Own S (w.alloc o) e k v n xs := h.fr ((Fr.refl [] w).alloc o) (by simp)

/-- The slice of one element of several cells that 'append(l, x)' lays for x. -/
theorem src_alloc {P : Program} {tx e' : TypeId} (hk : P.underlying tx = some (.slice e')) (w : World) (cs : List Value) (k : Nat) (e : TypeId) (c : Nat) (hl : cs.length = k) (h1 : ∀ u ∈ cs, u.oneCell' = true) :
    Src P k tx (.slice (some ⟨w.heap.size, 0, none⟩) 1 c) 1 cs (w.alloc (.cells cs.toArray e)) :=
  Src.ofSlice _ hk _ _ _ _ (by omega) (fun j u hu => by
    have hadd : (⟨w.heap.size, 0, none⟩ : Addr).add j = ⟨w.heap.size, j, none⟩ := by unfold Addr.add; split <;> simp_all
    rw [hadd, World.cell?_alloc_new]; simpa using hu) h1

theorem info_u8 : (Tryz.prog.info? 5).map (fun i => (i.zero, i.size, i.bytes)) = some (some (.int .u8 0), 1, 1) := by kernel_rfl
theorem und_bytes : Tryz.prog.underlying 140 = some (.slice 5) := by kernel_rfl
/-- append on a []byte of the call's own. -/
theorem app_u8 {w : World} {ops : Array Oper} {rest : List Oper} {o : Oper} {a : Act} {Q : Exit → Act → World → Prop} (hgd : o.guard = none) (s x : Operand) (tx : TypeId)
    (ho : o.op = .call { callee := .builtin .append, args := #[s, x], argTypes := #[140, tx] })
    (v : Value) (n : Nat) (xs : List Value) (hs : a.eval s = v) (hown : Own [] w 5 1 v n xs) (xv : Value) (m : Nat) (news : List Value) (hx : a.eval x = xv) (hsrc : Src Tryz.prog 1 tx xv m news w)
    (hb : n + m ≤ 140737488355328)
    (h : ∀ v' w', Own [] w' 5 1 v' (n + m) (xs ++ news) → Fr (Value.blk v) w w' → (Value.blk v' = Value.blk v ∨ Value.blk v' = [w.heap.size]) → wpList Tryz.prog ops Q rest (a.put o.dst v') w') :
    wpList Tryz.prog ops Q (o :: rest) a w := by
  obtain ⟨i0, hi, hz0, hz1, hz2⟩ := info_parts info_u8
  exact wpList_app hgd s x _ tx ho _ i0 _ 1 1 und_bytes hi hz0 hz1 hz2 rfl (by decide) [] (by simp) v n xs hs hown xv m news hx hsrc (by omega) (by unfold maxLen; omega) h

theorem Sl.take {S : List Nat} {w : World} {a : Option Addr} {n cap c : Nat} {cs : List Value} (h : Sl S w 1 (.slice a n cap) n cs) (hc : c ≤ n) : Sl S w 1 (.slice a c cap) c (cs.take c) := by
  obtain ⟨h1, h2, a', cap', h3, h4, h5, hN, h6⟩ := h
  injection h3 with e1 e2 e3
  subst e1 e3
  refine ⟨by simp; omega, fun u hu => h2 u (List.mem_of_mem_take hu), a, cap, rfl, by omega, h5, hN, ?_⟩
  rcases h6 with h6 | ⟨b, off, e, hn, hb, hcell⟩
  · exact .inl (by omega)
  · refine .inr ⟨b, off, e, hn, hb, fun j hj => ?_⟩
    rw [hcell j (by omega), List.getElem?_take, if_pos (by omega)]
end Go.Proofs.YthdbddolkfibkaaGreatDoor
