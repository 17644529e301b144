/- Closing tactic blocks that stand in very many places, as lemmas with a default proof. Small lemmas on worlds that all walks use: which blocks a call may change; blocks that are known whole; slices that are read; slices that are appended to. The plain functions of layer 1 (numbers in bytes), without the program. Laws of the plain functions of layer 1: what is put is read, what is read is no shorter than what is put, bytes that are cut end too early. The walks of layer 1: a number is read from bytes, a number's bytes are put. The walks of layer 1, the second part: a signed number's bytes. The plain functions of layer 6 (types in bytes), without the program: a reader of bytes, and what is put. The walks of layer 6: a reader, made by Open. Laws of the plain functions of layer 6: what is put is read; what is read is plain, and put with no more bytes; bytes that are cut end too early. The walks of layer 6, the second part: bytes, numbers, how many. The walks of layer 6, the third part: numbers, how many, the heap type of a byte. Laws of layer 6, the second part: heap types, value types, lists, fields, declared types, groups. The walks of layer 6, the fourth part: heap types and value types are read. The walks of layer 6, the fifth part: value types are read. The walks of layer 6, the sixth part: lists are read. The walks of layer 6, the seventh part: supers and fields, and lists of them. The walks of layer 6, the eighth part: fields. The walks of layer 6, the ninth part: composite types. -/
import Derived.ProofKit
import Derived.Test.YtokneepfknepaaaGreatDoorProg
import Derived.WalkKit
import Derived.WalkSpells
import Derived.WalkLawsBesides
import Derived.Deep.QuietTactic
import Derived.BigQuiet
import Derived.LaidEqlPtr
import Derived.Deep.AppendSrc
import Derived.Deep.Upon
import Derived.Deep.RegionWith
import Derived.Deep.LoopGhost
import Derived.Deep.RegionLaw
import Derived.Deep.RegionLawGrows
import Derived.Lib.Hide
set_option linter.unusedSimpArgs false
set_option linter.unusedVariables false
namespace Go.Proofs.YtokneepfknepaaaGreatDoor
theorem zdst1 {p : Prop} (h : p := by (try simp only [World.size_alloc, World.size_setCell, size_drew, size_drewN]); first | (apply Dst.own; ((try simp only [World.size_alloc, World.size_setCell, size_drew, size_drewN]); repeat (first | (exact Pick.here) | (with_reducible apply Pick.there))); done) | (apply Dst.lit; (· ((try simp only [World.size_alloc, World.size_setCell, size_drew, size_drewN]); repeat (first | (exact Pick.here) | (with_reducible apply Pick.there)))); (· omega)) | (apply Dst.nil; rfl)) : p := h
theorem zsrc1 {p : Prop} (h : p := by (try simp only [World.size_alloc, World.size_setCell, size_drew, size_drewN]); first | (apply SrcOf.own; ((try simp only [World.size_alloc, World.size_setCell, size_drew, size_drewN]); repeat (first | (exact Pick.here) | (with_reducible apply Pick.there))); done) | (apply SrcOf.lit; (· ((try simp only [World.size_alloc, World.size_setCell, size_drew, size_drewN]); repeat (first | (exact Pick.here) | (with_reducible apply Pick.there)))); (· omega)) | (apply SrcOf.arg; assumption)) : p := h
theorem zsub1 {p : Prop} (h : p := by ((try simp only [World.size_alloc, World.size_setCell, size_drew, size_drewN]); repeat (first | (exact Sel.all) | (exact Sel.nil) | (apply Sel.cons; (· ((try simp only [World.size_alloc, World.size_setCell, size_drew, size_drewN]); repeat (first | (exact Pick.here) | (with_reducible apply Pick.there))); done)) | (apply Sel.skip)))) : p := h
theorem zsub2 {p : Prop} (h : p := by ((try simp only [World.size_alloc, World.size_setCell, size_drew, size_drewN]); repeat (first | (with_reducible exact Sel.all) | (with_reducible exact Sel.nil) | (apply Sel.cons; (· ((try simp only [World.size_alloc, World.size_setCell, size_drew, size_drewN]); first | ((repeat (first | (with_reducible exact Pick.here) | (with_reducible apply Pick.there))); done) | (repeat (first | (exact Pick.here) | (with_reducible apply Pick.there)))); done)) | (apply Sel.skip)))) : p := h
theorem zpk1 {p : Prop} (h : p := by ((try simp only [World.size_alloc, World.size_setCell, size_drew, size_drewN]); repeat (first | (exact Pick.here) | (with_reducible apply Pick.there)))) : p := h
theorem zpk2 {p : Prop} (h : p := by ((try simp only [World.size_alloc, World.size_setCell, size_drew, size_drewN]); first | ((repeat (first | (with_reducible exact Pick.here) | (with_reducible apply Pick.there))); done) | (repeat (first | (exact Pick.here) | (with_reducible apply Pick.there))))) : p := h
theorem zsts1 {p : Prop} (h : p := by (repeat (first | (with_reducible assumption) | (with_reducible apply St.alloc) | (with_reducible apply St.drew) | (with_reducible apply St.drewN) | (with_reducible apply St.alloc')))) : p := h
theorem zsts2 {p : Prop} (h : p := by (repeat (first | (with_reducible assumption) | (with_reducible apply St.alloc) | (with_reducible apply St.drew) | (with_reducible apply St.drewN) | (with_reducible apply St.alloc') | (with_reducible apply St.set) | (with_reducible exact Pick.here) | (with_reducible apply Pick.there)))) : p := h
theorem zrts1 {p : Prop} (h : p := by (repeat (first | (with_reducible assumption) | (with_reducible apply RSt.alloc) | (with_reducible apply RSt.drew) | (with_reducible apply RSt.drewN) | (with_reducible apply RSt.set) | (with_reducible exact Pick.here) | (with_reducible apply Pick.there)))) : p := h
theorem zlen1 {p : Prop} (h : p := by (first | (simp only [List.length_append, List.length_cons, List.length_nil, List.length_map]; done) | (simp only [List.length_append, List.length_cons, List.length_nil, List.length_map]; omega) | omega)) : p := h
end Go.Proofs.YtokneepfknepaaaGreatDoor

set_option linter.unusedSimpArgs false
set_option linter.unusedVariables false
namespace Go.Proofs.YtokneepfknepaaaGreatDoor
open Go.RowKit

/-- Behind a call all blocks that were there are as they were, but for those of the list. -/
structure Fr (S : List Nat) (w w' : World) : Prop where
  os : w'.os = w.os
  tape : w'.tape = w.tape
  output : w'.output = w.output
  size : w.heap.size ≤ w'.heap.size
  block : ∀ k, k < w.heap.size → k ∉ S → w'.heap[k]? = w.heap[k]?

theorem Fr.refl (S : List Nat) (w : World) : Fr S w w := ⟨rfl, rfl, rfl, Nat.le_refl _, fun _ _ _ => rfl⟩
theorem Fr.trans {S : List Nat} {a b c : World} (h : Fr S a b) (k : Fr S b c) : Fr S a c :=
  ⟨k.os.trans h.os, k.tape.trans h.tape, k.output.trans h.output, Nat.le_trans h.size k.size, fun i hi hn => (k.block i (Nat.lt_of_lt_of_le hi h.size) hn).trans (h.block i hi hn)⟩
theorem Fr.mono {S S' : List Nat} {w w' : World} (h : Fr S w w') (hs : ∀ k, k ∈ S → k ∈ S') : Fr S' w w' :=
  ⟨h.os, h.tape, h.output, h.size, fun k hk hn => h.block k hk (fun hm => hn (hs k hm))⟩
/-- Of two steps the second may change also what came new. -/
theorem Fr.then {S S' : List Nat} {a b c : World} (h : Fr S a b) (k : Fr S' b c) (hs : ∀ k, k ∈ S' → k ∈ S ∨ a.heap.size ≤ k) : Fr S a c :=
  ⟨k.os.trans h.os, k.tape.trans h.tape, k.output.trans h.output, Nat.le_trans h.size k.size, fun i hi hn =>
    (k.block i (Nat.lt_of_lt_of_le hi h.size) (fun hm => (hs i hm).elim hn (fun h => by omega))).trans (h.block i hi hn)⟩
theorem Fr.drew {S : List Nat} {a w : World} (h : Fr S a w) : Fr S a w.drew := ⟨h.os, h.tape, h.output, h.size, h.block⟩
theorem Fr.drewN {S : List Nat} {a w : World} (h : Fr S a w) (n : Nat) : Fr S a (w.drewN n) := ⟨h.os, h.tape, h.output, h.size, h.block⟩
theorem Fr.alloc {S : List Nat} {a w : World} (h : Fr S a w) (o : Obj) : Fr S a (w.alloc o) :=
  h.trans ⟨rfl, rfl, rfl, by simp, fun k hk _ => Below.heap_alloc _ _ _ hk⟩
theorem Fr.setCell {S : List Nat} {a w : World} (h : Fr S a w) {p : Addr} (hp : p.block ∈ S ∨ a.heap.size ≤ p.block) (u : Value) : Fr S a (w.setCell p u) :=
  ⟨h.os, h.tape, h.output, by simpa [World.setCell] using h.size, fun k hk hn => by
    rw [Below.heap_setCell _ _ _ _ (by rintro rfl; rcases hp with hp | hp; exact hn hp; omega)]; exact h.block k hk hn⟩
theorem Fr.cell {S : List Nat} {w w' : World} (h : Fr S w w') {b : Nat} (hb : b < w.heap.size) (hn : b ∉ S) (o : Nat) : w'.cell? ⟨b, o, none⟩ = w.cell? ⟨b, o, none⟩ :=
  World.cell?_of_block (h.block b hb hn)
theorem Fr.frozen {S : List Nat} {w w' : World} (h : Fr S w w') {b : Nat} (hb : b < w.heap.size) (hn : b ∉ S) (o : Nat) : w'.frozen? ⟨b, o, none⟩ = w.frozen? ⟨b, o, none⟩ :=
  World.frozen?_of_block (h.block b hb hn)
theorem Fr.below {w w' : World} (h : Fr [] w w') : Below w.heap.size w w' := ⟨h.os, h.tape, h.output, h.size, fun k hk => h.block k hk (by simp)⟩

/-- A block that is known whole. -/
def Loc (w : World) (b : Nat) (c : List Value) (T : TypeId) : Prop := w.heap[b]? = some (.cells c.toArray T (0, 0))
theorem Loc.lt {w : World} {b : Nat} {c : List Value} {T : TypeId} (h : Loc w b c T) : b < w.heap.size := (Array.getElem?_eq_some_iff.1 h).1
theorem Loc.cell {w : World} {b : Nat} {c : List Value} {T : TypeId} (h : Loc w b c T) : ∀ o, w.cell? ⟨b, o, none⟩ = c[o]? := fun o => by
  unfold Loc at h; simp [World.cell?, h]
theorem Loc.frz {w : World} {b : Nat} {c : List Value} {T : TypeId} (h : Loc w b c T) : ∀ o, w.frozen? ⟨b, o, none⟩ = false := fun o => by
  unfold Loc at h; simp [World.frozen?, h]
theorem Loc.fr {w w' : World} {b : Nat} {c : List Value} {T : TypeId} {S : List Nat} (h : Loc w b c T) (hf : Fr S w w') (hn : b ∉ S) : Loc w' b c T := by
  unfold Loc at *; rw [hf.block b (Loc.lt h) hn]; exact h
theorem Loc.new (w : World) (c : List Value) (T : TypeId) : Loc (w.alloc (.cells c.toArray T)) w.heap.size c T := heap_alloc_new w _
theorem Loc.alloc {w : World} {b : Nat} {c : List Value} {T : TypeId} (h : Loc w b c T) (o : Obj) : Loc (w.alloc o) b c T := by
  unfold Loc at *; exact (Below.heap_alloc w o b (Loc.lt h)).trans h
theorem Loc.drew {w : World} {b : Nat} {c : List Value} {T : TypeId} (h : Loc w b c T) : Loc w.drew b c T := h
theorem Loc.drewN {w : World} {b : Nat} {c : List Value} {T : TypeId} (h : Loc w b c T) (n : Nat) : Loc (w.drewN n) b c T := h
theorem Loc.set {w : World} {b : Nat} {c : List Value} {T : TypeId} (h : Loc w b c T) (i : Nat) (v : Value) : Loc (w.setCell ⟨b, i, none⟩ v) b (c.set i v) T := by
  unfold Loc at *
  simp [World.setCell, Array.getElem?_modify, h]
/-- A slice that is read: n elements of k cells each; its memory is none of S. -/
def Sl (S : List Nat) (w : World) (k : Nat) (v : Value) (n : Nat) (cs : List Value) : Prop :=
  cs.length = n * k ∧ (∀ u ∈ cs, u.oneCell' = true) ∧ ∃ a cap, v = .slice a n cap ∧ n ≤ cap ∧ cap ≤ maxLen ∧
    (a = none → cap = 0) ∧ (n = 0 ∨ ∃ b off, a = some ⟨b, off, none⟩ ∧ b ∉ S ∧ b < w.heap.size ∧ ∀ j, j < n * k → w.cell? ⟨b, off + j, none⟩ = cs[j]?)
theorem Sl.fr {S S' : List Nat} {w w' : World} {k n : Nat} {v : Value} {cs : List Value} (h : Sl S w k v n cs) (hf : Fr S' w w') (hs : ∀ b, b < w.heap.size → b ∈ S' → b ∈ S) : Sl S w' k v n cs := by
  obtain ⟨h1, h2, a, cap, h3, h4, h5, hN, h6⟩ := h
  refine ⟨h1, h2, a, cap, h3, h4, h5, hN, ?_⟩
  rcases h6 with h6 | ⟨b, off, e, hn, hb, hc⟩
  · exact .inl h6
  · refine .inr ⟨b, off, e, hn, Nat.lt_of_lt_of_le hb hf.size, fun j hj => ?_⟩
    rw [hf.cell hb (fun hm => hn (hs b hb hm))]; exact hc j hj
theorem Sl.sub {S S' : List Nat} {w : World} {k n : Nat} {v : Value} {cs : List Value} (h : Sl S w k v n cs) (hs : ∀ b, b < w.heap.size → b ∈ S' → b ∈ S) : Sl S' w k v n cs := by
  obtain ⟨h1, h2, a, cap, h3, h4, h5, hN, h6⟩ := h
  refine ⟨h1, h2, a, cap, h3, h4, h5, hN, ?_⟩
  rcases h6 with h6 | ⟨b, off, e, hn, hb, hc⟩
  · exact .inl h6
  · exact .inr ⟨b, off, e, fun hm => hn (hs b hb hm), hb, hc⟩
theorem Sl.nil (S : List Nat) (w : World) (k : Nat) : Sl S w k (.slice none 0 0) 0 [] :=
  ⟨by simp, (fun _ h => by cases h), none, 0, rfl, Nat.le_refl _, by decide, fun _ => rfl, .inl rfl⟩
theorem Sl.src {P : Program} {S : List Nat} {w : World} {k n : Nat} {v : Value} {cs : List Value} {tx e' : TypeId} (h : Sl S w k v n cs) (hk : P.underlying tx = some (.slice e')) : Src P k tx v n cs w := by
  obtain ⟨h1, h2, a, cap, rfl, h4, h5, hN, h6⟩ := h
  rcases h6 with rfl | ⟨b, off, rfl, hn, hb, hc⟩
  · have : cs = [] := by simpa using h1
    subst this
    cases a with
    | none => exact Src.ofNil w hk cap
    | some a => exact Src.ofSlice w hk a 0 cap [] (by simp) (by simp) (by simp)
  · refine Src.ofSlice w hk ⟨b, off, none⟩ n cap cs h1 (fun j u hu => ?_) h2
    have hj : j < n * k := by rw [← h1]; exact (List.getElem?_eq_some_iff.1 hu).1
    have hadd : (⟨b, off, none⟩ : Addr).add j = ⟨b, off + j, none⟩ := by unfold Addr.add; split <;> simp_all
    rw [hadd, hc j hj]; exact hu

def Value.blk : Value → List Nat
  | .slice (some a) _ _ => [a.block]
  | _ => []

/-- A slice of the call's own, that may be appended to. -/
def Own (S : List Nat) (w : World) (e : TypeId) (k : Nat) (v : Value) (n : Nat) (xs : List Value) : Prop :=
  xs.length = n * k ∧ (∀ u ∈ xs, u.oneCell' = true) ∧ ((v = .slice none 0 0 ∧ n = 0) ∨
   ∃ g cap cur, v = .slice (some ⟨g, 0, none⟩) n cap ∧ g ∉ S ∧ w.heap[g]? = some (.cells cur e (0, 0)) ∧ n ≤ cap ∧ cap ≤ maxLen ∧ cur.size = cap * k ∧ cur.toList.take (n * k) = xs)
theorem Own.nil (S : List Nat) (w : World) (e : TypeId) (k : Nat) : Own S w e k (.slice none 0 0) 0 [] := ⟨by simp, (fun _ h => by cases h), .inl ⟨rfl, rfl⟩⟩
theorem Own.fr {S S' : List Nat} {w w' : World} {e : TypeId} {k n : Nat} {v : Value} {xs : List Value} (h : Own S w e k v n xs) (hf : Fr S' w w') (hs : ∀ b, b ∈ S' → b ∉ Value.blk v) : Own S w' e k v n xs := by
  obtain ⟨h1, h2, h3⟩ := h
  refine ⟨h1, h2, ?_⟩
  rcases h3 with h3 | ⟨g, cap, cur, rfl, hg, hh, h4⟩
  · exact .inl h3
  · refine .inr ⟨g, cap, cur, rfl, hg, ?_, h4⟩
    rw [hf.block g (Array.getElem?_eq_some_iff.1 hh).1 (fun hm => hs g hm (by simp [Value.blk]))]; exact hh
theorem Own.sub {S S' : List Nat} {w : World} {e : TypeId} {k n : Nat} {v : Value} {xs : List Value} (h : Own S w e k v n xs) (hs : ∀ b, b ∈ S' → b ∈ S ∨ b ∉ Value.blk v) : Own S' w e k v n xs := by
  obtain ⟨h1, h2, h3⟩ := h
  refine ⟨h1, h2, ?_⟩
  rcases h3 with h3 | ⟨g, cap, cur, rfl, hg, h4⟩
  · exact .inl h3
  · exact .inr ⟨g, cap, cur, rfl, fun hm => (hs g hm).elim hg (fun h => h (by simp [Value.blk])), h4⟩
theorem Own.blk_lt {S : List Nat} {w : World} {e : TypeId} {k n : Nat} {v : Value} {xs : List Value} (h : Own S w e k v n xs) : ∀ b, b ∈ Value.blk v → b < w.heap.size ∧ b ∉ S := by
  obtain ⟨h1, h2, h3⟩ := h
  rcases h3 with ⟨rfl, _⟩ | ⟨g, cap, cur, rfl, hg, hh, h4⟩
  · intro b hb; cases hb
  · intro b hb
    simp [Value.blk] at hb
    subst hb
    exact ⟨(Array.getElem?_eq_some_iff.1 hh).1, hg⟩
/-- What was appended to is read. -/
theorem Own.sl {S S' : List Nat} {w : World} {e : TypeId} {k n : Nat} {v : Value} {xs : List Value} (h : Own S w e k v n xs) (hs : ∀ b, b ∈ Value.blk v → b ∉ S') : Sl S' w k v n xs := by
  obtain ⟨h1, h2, h3⟩ := h
  refine ⟨h1, h2, ?_⟩
  rcases h3 with ⟨rfl, rfl⟩ | ⟨g, cap, cur, rfl, hg, hh, h4, h5, h6, h7⟩
  · exact ⟨none, 0, rfl, Nat.le_refl _, by decide, fun _ => rfl, .inl rfl⟩
  · refine ⟨_, cap, rfl, h4, h5, fun h => (by cases h), ?_⟩
    by_cases h0 : n = 0
    · exact .inl h0
    · refine .inr ⟨g, 0, rfl, hs g (by simp [Value.blk]), (Array.getElem?_eq_some_iff.1 hh).1, fun j hj => ?_⟩
      rw [Nat.zero_add, cell_of_row w g j cur e (0, 0) hh, ← h7, List.getElem?_take, if_pos hj]
      simp
theorem Own.shape {S : List Nat} {w : World} {e : TypeId} {k n : Nat} {v : Value} {xs : List Value} (h : Own S w e k v n xs) : ∃ a cap, v = .slice a n cap ∧ n ≤ cap ∧ cap ≤ maxLen := by
  obtain ⟨h1, h2, h3⟩ := h
  rcases h3 with ⟨rfl, rfl⟩ | ⟨g, cap, cur, rfl, hg, hh, h4, h5, h6⟩
  · exact ⟨_, _, rfl, Nat.le_refl _, by decide⟩
  · exact ⟨_, _, rfl, h4, h5⟩
theorem Own.made {S : List Nat} {w : World} (e : TypeId) (k n : Nat) (xs : List Value) (hS : ∀ b, b ∈ S → b < w.heap.size) (h1 : xs.length = n * k) (h2 : ∀ u ∈ xs, u.oneCell' = true) (hm : n ≤ maxLen) :
    Own S (w.alloc (.cells xs.toArray e)) e k (.slice (some ⟨w.heap.size, 0, none⟩) n n) n xs :=
  ⟨h1, h2, .inr ⟨w.heap.size, n, xs.toArray, rfl, fun hm => by have := hS _ hm; omega, heap_alloc_new w _, Nat.le_refl _, hm, by simpa using h1, by rw [← h1]; simp⟩⟩

theorem heap_setCells (g : Nat) (e : TypeId) : ∀ (vs : List Value) (o : Nat) (w : World) (cur : Array Value), w.heap[g]? = some (.cells cur e (0, 0)) → o + vs.length ≤ cur.size →
    ∃ cur', (w.setCells g o vs).heap[g]? = some (.cells cur' e (0, 0)) ∧ cur'.size = cur.size ∧ cur'.toList = cur.toList.take o ++ vs ++ cur.toList.drop (o + vs.length)
  | [], o, w, cur, h, _ => ⟨cur, h, rfl, by simp⟩
  | v :: r, o, w, cur, h, hl => by
    simp only [List.length_cons] at hl
    have h1 := heap_setCell_same w g o cur e v h
    obtain ⟨cur', a, b, c⟩ := heap_setCells g e r (o + 1) _ _ h1 (by simp; omega)
    refine ⟨cur', a, by simpa using b, ?_⟩
    rw [c]
    have hlt : o < cur.toList.length := by simp; omega
    have e1 : (cur.toList.set o v).take (o + 1) = cur.toList.take o ++ [v] := by
      rw [List.take_succ_eq_append_getElem (by simpa using hlt)]
      simp [List.take_set]
      exact List.set_eq_of_length_le (by simp; omega)
    have e2 : (cur.toList.set o v).drop (o + 1 + r.length) = cur.toList.drop (o + (r.length + 1)) := by
      rw [List.drop_set_of_lt (by omega)]; congr 1; omega
    simp only [Array.toList_setIfInBounds, List.length_cons]
    rw [e1, e2]
    simp
theorem fr_setCells (g : Nat) (vs : List Value) (o : Nat) (w : World) : Fr [g] w (w.setCells g o vs) := by
  induction vs generalizing o w with
  | nil => exact Fr.refl _ _
  | cons v r ih => exact ((Fr.refl [g] w).setCell (p := ⟨g, o, none⟩) (by simp) v).trans (ih _ _)

theorem run_app {P : Program} (w : World) (t tx ty e : TypeId) (i : TypeInfo) (z : Value) (k bytes : Nat) (ht : P.underlying t = some (.slice e)) (hi : P.info? e = some i) (hz : i.zero = some z)
    (hsize : i.size = k) (hby : i.bytes = bytes) (hzs : z.cells.size = k) (hk : 0 < k) {S : List Nat} (hS : ∀ b, b ∈ S → b < w.heap.size)
    {v : Value} {n : Nat} {xs : List Value} (hown : Own S w e k v n xs) {x : Value} {m : Nat} {news : List Value} (hsrc : Src P k tx x m news w)
    (hb : (n + m) * bytes ≤ 140737488355328) (hml : n + m ≤ maxLen) :
    ∃ v' w', (Builtin.append_ #[t, tx] ty #[v, x]).run P w = .ok v' w' ∧ Own S w' e k v' (n + m) (xs ++ news) ∧ Fr (Value.blk v) w w' ∧ (Value.blk v' = Value.blk v ∨ Value.blk v' = [w.heap.size]) := by
  subst hsize
  subst hby
  obtain ⟨h1, h2, h3⟩ := hown
  have hlen : (xs ++ news).length = (n + m) * i.size := by rw [List.length_append, h1, hsrc.newsLen, Nat.add_mul]
  have hone : ∀ u ∈ xs ++ news, u.oneCell' = true := fun u hu => by
    rcases List.mem_append.1 hu with h | h
    · exact h2 u h
    · exact hsrc.one u h
  have grown : ∀ (old : Nat), old < n + m →
      Own S (w.drew.alloc (.cells ((xs ++ news).toArray ++ Builtin.zeroCells z.cells (grownCap w (n + m) old e - (n + m))) e)) e i.size (.slice (some ⟨w.heap.size, 0, none⟩) (n + m) (grownCap w (n + m) old e)) (n + m) (xs ++ news) := by
    intro old ho
    have hge := grownCap_ge w (n + m) old e
    have hcm : grownCap w (n + m) old e ≤ maxLen := grownCap_le_maxLen w (n + m) old e hml
    refine ⟨hlen, hone, .inr ⟨w.heap.size, _, _, rfl, fun hm => by have := hS _ hm; omega, heap_alloc_new w.drew _, hge, hcm, ?_, ?_⟩⟩
    · simp only [Array.size_append, List.size_toArray, size_zeroCells, hzs, hlen, ← Nat.add_mul]
      congr 1
      omega
    · simp only [Array.toList_append]
      rw [List.take_append_of_le_length (by omega), ← hlen, List.take_length]
  have hbig : n + m ≤ 9223372036854775807 := by simp only [maxLen] at hml; omega
  rcases h3 with ⟨rfl, rfl⟩ | ⟨g, cap, cur, rfl, hg, hh, h4, h5, h6, h7⟩
  · have hxs : xs = [] := by simpa using h1
    subst hxs
    by_cases h0 : m = 0
    · subst h0
      have hnews : news = [] := by have := hsrc.newsLen; simpa using this
      subst hnews
      refine ⟨_, w, run_append_nothing w t tx ty e i ht hi none 0 0 (Nat.le_refl _) x hsrc, ?_, Fr.refl _ _, .inl rfl⟩
      exact ⟨by simp, (fun _ h => by cases h), .inl ⟨rfl, rfl⟩⟩
    · refine ⟨_, _, run_append_grow_src w t tx ty e i z ht hi hz none 0 0 [] (run_firstCells_none _ _ _ _ _) x m news hsrc (by omega) (by omega) (growslice_fits (by omega) (by simpa using hb)), ?_, ?_, .inr rfl⟩
      · exact grown 0 (by omega)
      · exact ((Fr.refl _ w).drew).alloc _
  · by_cases hroom : n + m ≤ cap
    · have hsz : 0 + n * i.size + news.length ≤ cur.size := by
        rw [hsrc.newsLen, h6, Nat.zero_add, ← Nat.add_mul]; exact Nat.mul_le_mul_right _ hroom
      obtain ⟨cur', a, b, c⟩ := heap_setCells g e news (0 + n * i.size) w cur hh hsz
      refine ⟨_, _, run_append_room_src w t tx ty e i ht hi g 0 n cap x m news hsrc hroom (fun j hj => ?_) (fun j hj => ?_), ?_, fr_setCells _ _ _ _, .inl rfl⟩
      · rw [cell_of_row w g _ cur e (0, 0) hh, Array.getElem?_eq_getElem (by omega)]; rfl
      · exact frozen_of_row w g _ cur e hh
      · refine ⟨hlen, hone, .inr ⟨g, cap, cur', rfl, hg, a, hroom, h5, by rw [b, h6], ?_⟩⟩
        rw [c, Nat.zero_add, h7, List.take_append_of_le_length (by omega), ← hlen, List.take_length]
    · refine ⟨_, _, run_append_grow_src w t tx ty e i z ht hi hz (some ⟨g, 0, none⟩) n cap xs ?_ x m news hsrc (by omega) (by omega) (growslice_fits (by omega) hb), ?_, ?_, .inr rfl⟩
      · refine run_firstCells_some _ _ _ _ _ _ xs h1 (fun j u hu => ?_)
        have hadd : (⟨g, 0, none⟩ : Addr).add j = ⟨g, j, none⟩ := by unfold Addr.add; split <;> simp_all
        rw [hadd]
        show w.cell? _ = _
        rw [cell_of_row w g j cur e (0, 0) hh]
        rw [← h7, List.getElem?_take] at hu
        split at hu
        · simpa using hu
        · cases hu
      · exact grown cap (by omega)
      · exact ((Fr.refl _ w).drew).alloc _

theorem wpList_app {P : Program} {w : World} {ops : Array Oper} {rest : List Oper} {o : Oper} {a : Act} {Q : Exit → Act → World → Prop} (hgd : o.guard = none) (s x : Operand) (t tx : TypeId)
    (ho : o.op = .call { callee := .builtin .append, args := #[s, x], argTypes := #[t, tx] })
    (e : TypeId) (i : TypeInfo) (z : Value) (k bytes : Nat) (ht : P.underlying t = some (.slice e)) (hi : P.info? e = some i) (hz : i.zero = some z)
    (hsize : i.size = k) (hby : i.bytes = bytes) (hzs : z.cells.size = k) (hk : 0 < k) (S : List Nat) (hS : ∀ b, b ∈ S → b < w.heap.size)
    (v : Value) (n : Nat) (xs : List Value) (hs : a.eval s = v) (hown : Own S w e k v n xs) (xv : Value) (m : Nat) (news : List Value) (hx : a.eval x = xv) (hsrc : Src P k tx xv m news w)
    (hb : (n + m) * bytes ≤ 140737488355328) (hml : n + m ≤ maxLen)
    (h : ∀ v' w', Own S w' e k v' (n + m) (xs ++ news) → Fr (Value.blk v) w w' → (Value.blk v' = Value.blk v ∨ Value.blk v' = [w.heap.size]) → wpList P ops Q rest (a.put o.dst v') w') :
    wpList P ops Q (o :: rest) a w := by
  obtain ⟨v', w', h1, h2, h3, h4⟩ := run_app w t tx o.type e i z k bytes ht hi hz hsize hby hzs hk hS hown hsrc hb hml
  refine wpList_plain hgd fun K hK => ?_
  unfold Oper.wp execOp
  simp only [ho, resolve, invoke, builtin, Sem.run_bind, Sem.run_pure, Result.andThen_ok, List.map_toArray, List.map_cons, List.map_nil, hs, hx, h1]
  exact hK _ _ (h v' w' h2 h3 h4)

/-- A byte in its cell. -/
def B (c : UInt8) : Value := .int .u8 (c.toNat : Int)

/-- A result that lies in a block of the call's own. -/
theorem ret_cell {P : Program} {fn : Func} {R : Ending → World → Prop} {a : Act} {w : World} {p : Tmp} {ty T : TypeId} {d : TypeDesc} {g : Nat} {cs : List Value} (h : fn.results = #[.cell p ty]) (hp : a.tmps.getD p undef = .pointer (some ⟨g, 0, none⟩))
    (hL : Loc w g cs T) (hu : P.underlying ty = some d) (hd : (match d with | .struct _ | .array _ _ => true | _ => false) = true) (hi : (P.info? ty).map (·.size) = some cs.length) (hdf : a.defers = []) (hR : R (.returned (.agg cs.toArray)) w) :
    bodyPost P fn R .ret a w :=
  bodyPost_ret (results_cell_row h _ _ g T cs.toArray (0, 0) d hp hL hu hd (by simpa using hi)) hdf hR

theorem ne_of_beqI {c k : Int} (h : (c == k) = false) : c ≠ k := by simpa using h
theorem eq_of_beqI {c k : Int} (h : (c == k) = true) : c = k := by simpa using h

/-- The slice's memory came new. -/
def New (w : World) (v : Value) : Prop := ∀ b, b ∈ Value.blk v → w.heap.size ≤ b
theorem New.nil (w : World) : New w (.slice none 0 0) := fun _ h => by cases h
theorem New.app {w0 : World} {v v' : Value} (h : New w0 v) {g : Nat} (hb : Value.blk v' = Value.blk v ∨ Value.blk v' = [g]) (hs : w0.heap.size ≤ g) : New w0 v' := by
  intro b hm
  rcases hb with hb | hb
  · rw [hb] at hm; exact h b hm
  · rw [hb] at hm; simp at hm; omega
theorem New.not {w0 : World} {v : Value} (h : New w0 v) {b : Nat} (hb : b < w0.heap.size) : b ∉ Value.blk v := fun hv => by have := h b hv; omega
theorem New.mono {w0 w1 : World} {v : Value} (h : New w1 v) (hs : w0.heap.size ≤ w1.heap.size) : New w0 v := fun b hb => Nat.le_trans hs (h b hb)
theorem Fr.app {w0 w w' : World} {S : List Nat} {v : Value} (h : Fr S w0 w) (hf : Fr (Value.blk v) w w') (hn : New w0 v) : Fr S w0 w' := h.then hf fun b hb => .inr (hn b hb)
theorem src1 {P : Program} {w : World} {g c : Nat} {u : Value} {tx e' : TypeId} (hk : P.underlying tx = some (.slice e')) (h : w.cell? ⟨g, 0, none⟩ = some u) (h1 : u.oneCell' = true) : Src P 1 tx (.slice (some ⟨g, 0, none⟩) 1 c) 1 [u] w :=
  Src.ofSlice w hk _ _ _ _ rfl (fun j u hu => by match j, hu with | 0, hu => simp at hu; subst hu; exact h) (by simpa using h1)

/-- The slice of one element that 'append(b, x)' lays for x. -/
theorem src_new {P : Program} {tx e' : TypeId} (hk : P.underlying tx = some (.slice e')) (w : World) (u : Value) (e : TypeId) (c : Nat) (h1 : u.oneCell' = true) : Src P 1 tx (.slice (some ⟨w.heap.size, 0, none⟩) 1 c) 1 [u] (w.alloc (.cells #[u] e)) :=
  src1 hk (by simp) h1
theorem Own.alloc {S : List Nat} {w : World} {e : TypeId} {k n : Nat} {v : Value} {xs : List Value} (h : Own S w e k v n xs) (o : Obj) : Own S (w.alloc o) e k v n xs := h.fr ((Fr.refl [] w).alloc o) (by simp)

/-- The slice of one element of several cells that 'append(l, x)' lays for x. -/
theorem src_alloc {P : Program} {tx e' : TypeId} (hk : P.underlying tx = some (.slice e')) (w : World) (cs : List Value) (k : Nat) (e : TypeId) (c : Nat) (hl : cs.length = k) (h1 : ∀ u ∈ cs, u.oneCell' = true) :
    Src P k tx (.slice (some ⟨w.heap.size, 0, none⟩) 1 c) 1 cs (w.alloc (.cells cs.toArray e)) :=
  Src.ofSlice _ hk _ _ _ _ (by omega) (fun j u hu => by
    have hadd : (⟨w.heap.size, 0, none⟩ : Addr).add j = ⟨w.heap.size, j, none⟩ := by unfold Addr.add; split <;> simp_all
    rw [hadd, World.cell?_alloc_new]; simpa using hu) h1

theorem info_u8 : (Tryz.prog.info? 5).map (fun i => (i.zero, i.size, i.bytes)) = some (some (.int .u8 0), 1, 1) := by kernel_rfl
theorem und_bytes : Tryz.prog.underlying 26 = some (.slice 5) := by kernel_rfl
/-- append on a []byte of the call's own. -/
theorem app_u8 {w : World} {ops : Array Oper} {rest : List Oper} {o : Oper} {a : Act} {Q : Exit → Act → World → Prop} (hgd : o.guard = none) (s x : Operand) (tx : TypeId)
    (ho : o.op = .call { callee := .builtin .append, args := #[s, x], argTypes := #[26, tx] })
    (v : Value) (n : Nat) (xs : List Value) (hs : a.eval s = v) (hown : Own [] w 5 1 v n xs) (xv : Value) (m : Nat) (news : List Value) (hx : a.eval x = xv) (hsrc : Src Tryz.prog 1 tx xv m news w)
    (hb : n + m ≤ 140737488355328)
    (h : ∀ v' w', Own [] w' 5 1 v' (n + m) (xs ++ news) → Fr (Value.blk v) w w' → (Value.blk v' = Value.blk v ∨ Value.blk v' = [w.heap.size]) → wpList Tryz.prog ops Q rest (a.put o.dst v') w') :
    wpList Tryz.prog ops Q (o :: rest) a w := by
  obtain ⟨i0, hi, hz0, hz1, hz2⟩ := info_parts info_u8
  exact wpList_app hgd s x _ tx ho _ i0 _ 1 1 und_bytes hi hz0 hz1 hz2 rfl (by decide) [] (by simp) v n xs hs hown xv m news hx hsrc (by omega) (by unfold maxLen; omega) h

theorem Sl.take {S : List Nat} {w : World} {a : Option Addr} {n cap c : Nat} {cs : List Value} (h : Sl S w 1 (.slice a n cap) n cs) (hc : c ≤ n) : Sl S w 1 (.slice a c cap) c (cs.take c) := by
  obtain ⟨h1, h2, a', cap', h3, h4, h5, hN, h6⟩ := h
  injection h3 with e1 e2 e3
  subst e1 e3
  refine ⟨by simp; omega, fun u hu => h2 u (List.mem_of_mem_take hu), a, cap, rfl, by omega, h5, hN, ?_⟩
  rcases h6 with h6 | ⟨b, off, e, hn, hb, hcell⟩
  · exact .inl (by omega)
  · refine .inr ⟨b, off, e, hn, hb, fun j hj => ?_⟩
    rw [hcell j (by omega), List.getElem?_take, if_pos (by omega)]
end Go.Proofs.YtokneepfknepaaaGreatDoor

set_option linter.unusedSimpArgs false
set_option linter.unusedVariables false
namespace Go.Proofs.YtokneepfknepaaaGreatDoor

/-- Whether a byte's places beyond the bits that are left are as they must be. -/
def lebFits (c : Nat) (left : Nat) (sg : Bool) : Bool :=
  if 7 ≤ left then true
  else if sg then c % 128 / 2 ^ (left - 1) == 0 || c % 128 / 2 ^ (left - 1) == 127 / 2 ^ (left - 1)
  else c % 128 / 2 ^ left == 0

/-- The bits from d on set, of 64. -/
def lebSign (n d : Nat) : Nat := if d < 64 then n + (18446744073709551616 - 2 ^ d) else n

/-- Reads on: the value, the place behind it, the error. -/
def lebGo (sg : Bool) (bits : Nat) : List UInt8 → Nat → Nat → Nat → Nat × Nat × Nat
  | [], _, _, _ => (0, 0, 10)
  | c :: r, at_, done, n =>
    if lebFits c.toNat (bits - done) sg = false then (0, 0, 11)
    else if c.toNat < 128 then
      (if sg && decide (64 ≤ c.toNat) then lebSign ((n + c.toNat % 128 * 2 ^ done) % 18446744073709551616) (done + 7)
        else (n + c.toNat % 128 * 2 ^ done) % 18446744073709551616, at_ + 1, 0)
    else if bits ≤ done + 7 then (0, 0, 11)
    else lebGo sg bits r (at_ + 1) (done + 7) ((n + c.toNat % 128 * 2 ^ done) % 18446744073709551616)

/-- leb.read at a place that is there and so many bits. -/
def lebRead (bs : List UInt8) (at_ bits : Nat) (sg : Bool) : Nat × Nat × Nat :=
  if at_ ≤ bs.length then lebGo sg bits (bs.drop at_) at_ 0 0 else (0, 0, 2)

/-- A number of 64 bits as a signed one. -/
def toI64 (n : Nat) : Int := if n < 9223372036854775808 then (n : Int) else (n : Int) - 18446744073709551616

/-- The shortest bytes of an unsigned number. -/
def putU (n : Nat) : List UInt8 :=
  if n < 128 then [UInt8.ofNat n] else UInt8.ofNat (n % 128 + 128) :: putU (n / 128)
termination_by n
decreasing_by omega

/-- The shortest bytes of a signed number. -/
def putS (n : Int) : List UInt8 :=
  if -64 ≤ n ∧ n < 64 then [UInt8.ofNat (n % 128).toNat] else UInt8.ofNat ((n % 128).toNat + 128) :: putS (n / 128)
termination_by n.natAbs
decreasing_by omega

end Go.Proofs.YtokneepfknepaaaGreatDoor

set_option linter.unusedSimpArgs false
set_option linter.unusedVariables false
namespace Go.Proofs.YtokneepfknepaaaGreatDoor

theorem u8_ofNat (n : Nat) (h : n < 256) : (UInt8.ofNat n).toNat = n := by simp; omega
theorem putU_small (n : Nat) (h : n < 128) : putU n = [UInt8.ofNat n] := by rw [putU]; simp [h]
theorem putU_big (n : Nat) (h : 128 ≤ n) : putU n = UInt8.ofNat (n % 128 + 128) :: putU (n / 128) := by rw [putU]; simp; omega
theorem putS_small (n : Int) (h : -64 ≤ n) (h' : n < 64) : putS n = [UInt8.ofNat (n % 128).toNat] := by rw [putS]; simp [h, h']
theorem putS_big (n : Int) (h : n < -64 ∨ 64 ≤ n) : putS n = UInt8.ofNat ((n % 128).toNat + 128) :: putS (n / 128) := by
  rw [putS, if_neg (by omega)]
theorem putU_pos (n : Nat) : 0 < (putU n).length := by
  by_cases h : n < 128
  · simp [putU_small n h]
  · simp [putU_big n (by omega)]
theorem putS_pos (n : Int) : 0 < (putS n).length := by
  by_cases h : -64 ≤ n ∧ n < 64
  · simp [putS_small n h.1 h.2]
  · simp [putS_big n (by omega)]

theorem pow_add7 (d : Nat) : 2 ^ (d + 7) = 2 ^ d * 128 := by rw [Nat.pow_add]
theorem pow_sub7 {b : Nat} (h : 7 ≤ b) : 2 ^ b = 2 ^ (b - 7) * 128 := by rw [← pow_add7]; congr 1; omega
theorem pow_split {a b : Nat} (h : a ≤ b) : 2 ^ b = 2 ^ (b - a) * 2 ^ a := by rw [← Nat.pow_add]; congr 1; omega
theorem pow64 {b : Nat} (h : b ≤ 64) : 2 ^ b ≤ 18446744073709551616 := by
  have := Nat.pow_le_pow_right (n := 2) (by omega) h
  simpa using this

/-- acc + x * 2^d < 2^b, if acc < 2^d, x < 2^(b-d). -/
theorem join_lt {acc x d b : Nat} (ha : acc < 2 ^ d) (hx : x < 2 ^ (b - d)) (hd : d ≤ b) : acc + x * 2 ^ d < 2 ^ b := by
  rw [pow_split hd]
  have := Nat.mul_le_mul_right (2 ^ d) (Nat.succ_le_of_lt hx)
  rw [Nat.succ_mul] at this
  omega

theorem toI64_small (n : Nat) (h : n < 9223372036854775808) : toI64 n = n := by simp [toI64, h]
/-- the last byte of a signed number -/
theorem last_s (acc : Nat) (n : Int) (done : Nat) (hd : done < 64) (h7 : done % 7 = 0) (ha : acc < 2 ^ done) (hs : -64 ≤ n) (hs' : n < 64) (h63 : done = 63 → -1 ≤ n ∧ n < 1) (sg : Bool) (hsg : sg = decide (64 ≤ (n % 128).toNat)) :
    toI64 (if sg then lebSign ((acc + (n % 128).toNat % 128 * 2 ^ done) % 18446744073709551616) (done + 7) else (acc + (n % 128).toNat % 128 * 2 ^ done) % 18446744073709551616) = (acc : Int) + n * 2 ^ done := by
  have hc : done = 0 ∨ done = 7 ∨ done = 14 ∨ done = 21 ∨ done = 28 ∨ done = 35 ∨ done = 42 ∨ done = 49 ∨ done = 56 ∨ done = 63 := by omega
  by_cases hn : 0 ≤ n
  · have : sg = false := by rw [hsg]; simp; omega
    subst this
    have e : (n % 128).toNat % 128 = n.toNat := by omega
    rw [e]
    simp only [Bool.false_eq_true, if_false]
    unfold toI64
    rcases hc with rfl | rfl | rfl | rfl | rfl | rfl | rfl | rfl | rfl | rfl <;> simp at ha h63 ⊢ <;> split <;> omega
  · have : sg = true := by rw [hsg]; simp; omega
    subst this
    have e : (n % 128).toNat % 128 = (n + 128).toNat := by omega
    rw [e]
    simp only [if_true]
    unfold toI64 lebSign
    rcases hc with rfl | rfl | rfl | rfl | rfl | rfl | rfl | rfl | rfl | rfl <;> simp at ha h63 ⊢ <;> split <;> omega

/-- What is read: the place moves on, within the bytes. -/
theorem lebGo_ok (sg : Bool) (bits : Nat) : ∀ (l : List UInt8) (at_ done acc v nx : Nat), lebGo sg bits l at_ done acc = (v, nx, 0) → at_ < nx ∧ nx ≤ at_ + l.length := by
  intro l
  induction l with
  | nil => intro at_ done acc v nx h; simp [lebGo] at h
  | cons c r ih =>
    intro at_ done acc v nx h
    simp only [lebGo] at h
    split at h
    · simp at h
    · split at h
      · simp at h
        exact ⟨by omega, by simp; omega⟩
      · split at h
        · simp at h
        · have := ih _ _ _ _ _ h
          simp; omega

theorem fits_u_back (c left : Nat) (h : lebFits c left false = true) (hc : c < 128) : c < 2 ^ left := by
  unfold lebFits at h
  split at h
  · have : 2 ^ 7 ≤ 2 ^ left := Nat.pow_le_pow_right (by omega) (by omega)
    omega
  · simp at h
    omega

theorem lebGo_back_u (bits : Nat) (hb : bits ≤ 64) : ∀ (l : List UInt8) (at_ done acc v nx : Nat), done < bits → acc < 2 ^ done → lebGo false bits l at_ done acc = (v, nx, 0) →
    ∃ n, v = acc + n * 2 ^ done ∧ n < 2 ^ (bits - done) ∧ at_ + (putU n).length ≤ nx := by
  intro l
  induction l with
  | nil => intro at_ done acc v nx _ _ h; simp [lebGo] at h
  | cons c r ih =>
    intro at_ done acc v nx hd ha h
    have h64 := pow64 hb
    simp only [lebGo] at h
    split at h
    · simp at h
    · rename_i hf
      have hf : lebFits c.toNat (bits - done) false = true := by simpa using hf
      split at h
      · rename_i hc
        simp at h
        have hx := fits_u_back _ _ hf hc
        have h1 := join_lt ha hx (by omega)
        have e : c.toNat % 128 = c.toNat := by omega
        rw [e, Nat.mod_eq_of_lt (by omega)] at h
        refine ⟨c.toNat, h.1.symm, hx, ?_⟩
        rw [putU_small _ hc]; simp; omega
      · rename_i hc
        split at h
        · simp at h
        · rename_i hbd
          have hlt : acc + c.toNat % 128 * 2 ^ done < 2 ^ (done + 7) := join_lt ha (by rw [show done + 7 - done = 7 by omega]; omega) (by omega)
          have hle : 2 ^ (done + 7) ≤ 2 ^ bits := Nat.pow_le_pow_right (by omega) (by omega)
          rw [Nat.mod_eq_of_lt (a := acc + c.toNat % 128 * 2 ^ done) (by omega)] at h
          obtain ⟨n, h1, h2, h3⟩ := ih _ _ _ _ _ (by omega) hlt h
          have hp := pow_sub7 (b := bits - done) (by omega)
          rw [show bits - done - 7 = bits - (done + 7) by omega] at hp
          refine ⟨c.toNat % 128 + n * 128, ?_, by omega, ?_⟩
          · rw [h1, Nat.add_mul, pow_add7, Nat.mul_assoc, Nat.mul_comm 128, Nat.add_assoc]
          · by_cases hs : c.toNat % 128 + n * 128 < 128
            · rw [putU_small _ hs]; simp; omega
            · rw [putU_big _ (by omega), show (c.toNat % 128 + n * 128) / 128 = n by omega]; simp; omega

theorem fits_s_back (c left : Nat) (h1 : 1 ≤ left) (h : lebFits c left true = true) (hc : c < 128) :
    -(2 ^ (left - 1)) ≤ (if 64 ≤ c then (c : Int) - 128 else c) ∧ (if 64 ≤ c then (c : Int) - 128 else c) < 2 ^ (left - 1) := by
  unfold lebFits at h
  split at h
  · have : 2 ^ 6 ≤ 2 ^ (left - 1) := Nat.pow_le_pow_right (by omega) (by omega)
    have : (64 : Int) ≤ 2 ^ (left - 1) := by exact_mod_cast this
    split <;> omega
  · have hl : left = 1 ∨ left = 2 ∨ left = 3 ∨ left = 4 ∨ left = 5 ∨ left = 6 := by omega
    have hm : c % 128 = c := by omega
    simp only [hm, if_true] at h
    rw [Bool.or_eq_true, beq_iff_eq, beq_iff_eq] at h
    rcases hl with rfl | rfl | rfl | rfl | rfl | rfl <;> simp at h ⊢ <;> split <;> omega

theorem lebGo_back_s (bits : Nat) (hb : bits ≤ 64) : ∀ (l : List UInt8) (at_ done acc v nx : Nat), done < bits → done % 7 = 0 → acc < 2 ^ done → lebGo true bits l at_ done acc = (v, nx, 0) →
    ∃ n : Int, toI64 v = (acc : Int) + n * 2 ^ done ∧ -(2 ^ (bits - done - 1)) ≤ n ∧ n < 2 ^ (bits - done - 1) ∧ at_ + (putS n).length ≤ nx := by
  intro l
  induction l with
  | nil => intro at_ done acc v nx _ _ _ h; simp [lebGo] at h
  | cons c r ih =>
    intro at_ done acc v nx hd h7 ha h
    have h64 := pow64 hb
    simp only [lebGo] at h
    split at h
    · simp at h
    · rename_i hf
      have hf : lebFits c.toNat (bits - done) true = true := by simpa using hf
      split at h
      · rename_i hc
        have hx := fits_s_back _ _ (by omega) hf hc
        generalize hn : (if 64 ≤ c.toNat then (c.toNat : Int) - 128 else c.toNat) = n at hx
        have e : (n % 128).toNat = c.toNat := by rw [← hn]; split <;> omega
        have hr : -64 ≤ n ∧ n < 64 := by rw [← hn]; split <;> omega
        have hl := last_s acc n done (by omega) h7 ha hr.1 hr.2 (by
          rintro rfl
          have : bits = 64 := by omega
          subst this
          simp at hx; omega) (true && decide (64 ≤ c.toNat)) (by simp [e])
        rw [e] at hl
        simp only [Prod.mk.injEq] at h
        refine ⟨n, ?_, hx.1, hx.2, ?_⟩
        · rw [← h.1]; exact hl
        · rw [putS_small _ hr.1 hr.2]; simp; omega
      · rename_i hc
        split at h
        · simp at h
        · rename_i hbd
          have hlt : acc + c.toNat % 128 * 2 ^ done < 2 ^ (done + 7) := join_lt ha (by rw [show done + 7 - done = 7 by omega]; omega) (by omega)
          have hle : 2 ^ (done + 7) ≤ 2 ^ bits := Nat.pow_le_pow_right (by omega) (by omega)
          rw [Nat.mod_eq_of_lt (a := acc + c.toNat % 128 * 2 ^ done) (by omega)] at h
          obtain ⟨n, h1, h2, h3, h4⟩ := ih _ _ _ _ _ (by omega) (by omega) hlt h
          have hp : (2 : Int) ^ (bits - done - 1) = 2 ^ (bits - (done + 7) - 1) * 128 := by
            have := pow_sub7 (b := bits - done - 1) (by omega)
            rw [show bits - done - 1 - 7 = bits - (done + 7) - 1 by omega] at this
            exact_mod_cast this
          refine ⟨(c.toNat % 128 : Nat) + n * 128, ?_, by omega, by omega, ?_⟩
          · rw [h1, Int.add_mul, show (2 : Int) ^ (done + 7) = 2 ^ done * 128 from by rw [Int.pow_add]; rfl, Int.mul_assoc, Int.mul_comm 128, ← Int.add_assoc]
            push_cast
            rfl
          · by_cases hs : -64 ≤ ((c.toNat % 128 : Nat) : Int) + n * 128 ∧ ((c.toNat % 128 : Nat) : Int) + n * 128 < 64
            · rw [putS_small _ hs.1 hs.2]; simp; have := putS_pos n; omega
            · rw [putS_big _ (by omega), show (((c.toNat % 128 : Nat) : Int) + n * 128) / 128 = n by omega]; simp; omega

/-- The value is a number of 64 bits. -/
theorem lebGo_lt (sg : Bool) (bits : Nat) : ∀ (l : List UInt8) (at_ done acc : Nat), acc < 2 ^ done → (lebGo sg bits l at_ done acc).1 < 18446744073709551616 := by
  intro l
  induction l with
  | nil => intro at_ done acc _; simp [lebGo]
  | cons c r ih =>
    intro at_ done acc ha
    have hlt : acc + c.toNat % 128 * 2 ^ done < 2 ^ (done + 7) := join_lt ha (by rw [show done + 7 - done = 7 by omega]; omega) (by omega)
    have hm : (acc + c.toNat % 128 * 2 ^ done) % 18446744073709551616 < 2 ^ (done + 7) := Nat.lt_of_le_of_lt (Nat.mod_le _ _) hlt
    simp only [lebGo]
    split
    · simp
    · split
      · simp only
        split
        · unfold lebSign
          split
          · rename_i hd
            have := pow64 (b := done + 7) (by omega)
            omega
          · exact Nat.mod_lt _ (by omega)
        · exact Nat.mod_lt _ (by omega)
      · split
        · simp
        · exact ih _ _ _ hm

theorem lebGo_cut (sg : Bool) (bits : Nat) : ∀ (l : List UInt8) (at_ done acc v nx m : Nat), lebGo sg bits l at_ done acc = (v, nx, 0) →
    lebGo sg bits (l.take m) at_ done acc = if at_ + m < nx then (0, 0, 10) else (v, nx, 0) := by
  intro l
  induction l with
  | nil => intro at_ done acc v nx m h; simp [lebGo] at h
  | cons c r ih =>
    intro at_ done acc v nx m h
    have hok := lebGo_ok _ _ _ _ _ _ _ _ h
    cases m with
    | zero => simp [lebGo]; omega
    | succ m =>
      simp only [List.take_succ_cons, lebGo] at h ⊢
      split at h
      · simp at h
      · rename_i hf
        rw [if_neg hf]
        split at h
        · rename_i hc
          rw [if_pos hc, h]
          simp at h
          rw [if_neg (by omega)]
        · rename_i hc
          rw [if_neg hc]
          split at h
          · simp at h
          · rename_i hb
            rw [if_neg hb, ih _ _ _ _ _ m h]
            simp only [show at_ + 1 + m = at_ + (m + 1) by omega]

end Go.Proofs.YtokneepfknepaaaGreatDoor

set_option linter.unusedSimpArgs false
set_option linter.unusedVariables false
namespace Go.Proofs.YtokneepfknepaaaGreatDoor
open Go.RowKit

theorem u8_and127 (c : Nat) (h : c < 256) : bits .and .u8 (c : Int) 127 = ((c % 128 : Nat) : Int) := by
  have := u8_and_nat c 127 h (by decide)
  rw [nat_mask7] at this
  exact this
theorem dq0 (a n : Nat) : ((a : Int) / 2 ^ n == 0) = (a / 2 ^ n == 0) := by
  rw [Bool.eq_iff_iff, beq_iff_eq, beq_iff_eq]
  constructor <;> intro h <;> exact_mod_cast h
theorem dq1 (a b n : Nat) : ((a : Int) / 2 ^ n == (b : Int) / 2 ^ n) = (a / 2 ^ n == b / 2 ^ n) := by
  rw [Bool.eq_iff_iff, beq_iff_eq, beq_iff_eq]
  constructor <;> intro h <;> exact_mod_cast h
theorem ret_bool {a b : Bool} (h : a = b) : Ending.returned (.bool a) = .returned (.bool b) := by rw [h]

set_option maxRecDepth 100000 in
set_option maxHeartbeats 400000 in
theorem fits_any (c : Nat) (left : Int) (sg : Bool) (w : World) (hc : c < 256) (h1 : 1 ≤ left) (h2 : left ≤ 64) :
    Calls Tryz.prog 119 #[.int .u8 c, .int .i64 left, .bool sg] w fun e w' => e = .returned (.bool (lebFits c left.toNat sg)) ∧ w = w' := by
  have H := Lib.hid (u8_and127 c hc)
  cases sg
  · go_enter Tryz.func119, Tryz.ntmps119
    go_wp2
    · go_ret
      have : 7 ≤ left := by assumption
      exact ⟨by simp [lebFits]; omega, rfl⟩
    · go_ret
      have : left < 7 := by assumption
      refine ⟨ret_bool ?_, rfl⟩
      rw [H.out, dq0]
      unfold lebFits
      rw [if_neg (by omega)]
      rfl
  · go_enter Tryz.func119, Tryz.ntmps119
    go_wp2
    · go_ret
      have : 7 ≤ left := by assumption
      exact ⟨by simp [lebFits]; omega, rfl⟩
    · go_ret
      have h7 : left < 7 := by assumption
      have h0 : bits BinOp.and IntKind.u8 (↑c) 127 / 2 ^ (left.toNat - 1) = 0 := by assumption
      refine ⟨ret_bool ?_, rfl⟩
      rw [H.out] at h0
      have h0 : (((c % 128 : Nat) : Int) / 2 ^ (left.toNat - 1) == 0) = true := by simpa using h0
      rw [dq0] at h0
      unfold lebFits
      rw [if_neg (by omega), if_pos rfl, h0]
      rfl
    · go_ret
      have h7 : left < 7 := by assumption
      refine ⟨ret_bool ?_, rfl⟩
      rw [H.out, dq0, show (127 : Int) = ((127 : Nat) : Int) from rfl, dq1]
      unfold lebFits
      rw [if_neg (by omega), if_pos rfl]


theorem and128_lt (c : Nat) (h : c < 128) : (bits .and .u8 (c : Int) 128 == 0) = true := by
  have := u8_and_nat c 128 (by omega) (by decide)
  rw [show (128 : Nat) = 2 ^ 7 from rfl, nat_bit 7 c, Nat.div_eq_of_lt h] at this
  rw [show (128 : Int) = ((2 ^ 7 : Nat) : Int) from rfl, this]; rfl
theorem and128_ge (c : Nat) (h : ¬ c < 128) (h2 : c < 256) : (bits .and .u8 (c : Int) 128 == 0) = false := by
  have := u8_and_nat c 128 (by omega) (by decide)
  rw [show (128 : Nat) = 2 ^ 7 from rfl, nat_bit 7 c, show c / 2 ^ 7 = 1 by omega] at this
  rw [show (128 : Int) = ((2 ^ 7 : Nat) : Int) from rfl, this]; rfl
theorem and64 (c : Nat) (h : c < 128) : (bits .and .u8 (c : Int) 64 != 0) = decide (64 ≤ c) := by
  have := u8_and_nat c 64 (by omega) (by decide)
  rw [show (64 : Nat) = 2 ^ 6 from rfl, nat_bit 6 c] at this
  rw [show (64 : Int) = ((2 ^ 6 : Nat) : Int) from rfl, this]
  by_cases h6 : 64 ≤ c
  · rw [show c / 2 ^ 6 = 1 by omega]; simp [h6]
  · rw [show c / 2 ^ 6 = 0 by omega]; simp [h6]

def ReadJ (r : Nat × Nat × Nat) (w : World) (a : Act) (w' : World) : Prop :=
  a.defers = [] ∧ a.tmps.size = 76 ∧ a.tmps.getD 13 undef = .int .i64 (r.2.2 : Int) ∧ r.1 = 0 ∧ r.2.1 = 0 ∧ w' = w

theorem jump_ret {l : Nat} {J : Act → World → Prop} {Q : Exit → Act → World → Prop} {a : Act} {w : World} : Exit.jump l J Q .ret a w = Q .ret a w := rfl
theorem or_val (nk dk c : Nat) (hn : nk < 2 ^ dk) (hd : dk < 64) (hc : c < 256) :
    bits BinOp.or IntKind.u64 (nk : Int) (IntKind.u64.wrap (IntKind.u64.wrap (bits BinOp.and IntKind.u8 (c : Int) 127) * 2 ^ dk)) = (((nk + c % 128 * 2 ^ dk) % 18446744073709551616 : Nat) : Int) := by
  have h64 : 2 ^ dk ≤ 9223372036854775808 := by
    have := Nat.pow_le_pow_right (n := 2) (by omega) (show dk ≤ 63 by omega)
    simpa using this
  rw [u8_and127 c hc, IntKind.wrap_u64, IntKind.wrap_u64]
  have e1 : ((c % 128 : Nat) : Int) % 18446744073709551616 = ((c % 128 : Nat) : Int) := by omega
  rw [e1]
  have e2 : ((c % 128 : Nat) : Int) * 2 ^ dk % 18446744073709551616 = ((c % 128 * 2 ^ dk % 18446744073709551616 : Nat) : Int) := by
    generalize c % 128 = q
    rw [Int.natCast_emod, Int.natCast_mul, Int.natCast_pow]; rfl
  rw [e2, u64_or_nat nk _ (by omega) (Nat.mod_lt _ (by omega))]
  congr 1
  have hp : (18446744073709551616 : Nat) = 2 ^ (64 - dk) * 2 ^ dk := by rw [← Nat.pow_add, show 64 - dk + dk = 64 by omega]
  have e3 : c % 128 * 2 ^ dk % 18446744073709551616 = c % 128 % 2 ^ (64 - dk) * 2 ^ dk := by
    rw [hp, Nat.mul_mod_mul_right]
  rw [e3, Nat.or_comm, nat_join dk _ nk (Nat.mul_mod_left _ _) hn]
  have hlt : c % 128 % 2 ^ (64 - dk) < 2 ^ (64 - dk) := Nat.mod_lt _ (Nat.two_pow_pos _)
  have h1 := join_lt hn hlt (by omega : dk ≤ 64)
  have : nk + c % 128 * 2 ^ dk = (nk + c % 128 % 2 ^ (64 - dk) * 2 ^ dk) + 18446744073709551616 * (c % 128 / 2 ^ (64 - dk)) := by
    conv => lhs; rw [← Nat.mod_add_div (c % 128) (2 ^ (64 - dk))]
    rw [Nat.add_mul, hp, Nat.mul_right_comm (2 ^ (64 - dk)) (2 ^ dk)]
    omega
  have h1 : nk + c % 128 % 2 ^ (64 - dk) * 2 ^ dk < 18446744073709551616 := h1
  rw [this, Nat.add_mul_mod_self_left, Nat.mod_eq_of_lt h1]
  omega
theorem sign_val (n d : Nat) (hn : n < 18446744073709551616) (hd : d < 64 → n < 2 ^ d) :
    bits BinOp.or IntKind.u64 (n : Int) (IntKind.u64.wrap (18446744073709551615 * 2 ^ d)) = ((lebSign n d : Nat) : Int) := by
  rw [IntKind.wrap_u64]
  unfold lebSign
  split
  · rename_i h
    have hn := hd h
    have hp : (18446744073709551616 : Nat) = 2 ^ (64 - d) * 2 ^ d := by rw [← Nat.pow_add, show 64 - d + d = 64 by omega]
    have h1 : 1 ≤ 2 ^ (64 - d) := Nat.one_le_two_pow
    have h2 := Nat.two_pow_pos d
    have hle : 2 ^ d ≤ 18446744073709551616 := by rw [hp]; exact Nat.le_mul_of_pos_left _ h1
    have e : (18446744073709551615 * 2 ^ d : Int) % 18446744073709551616 = ((18446744073709551616 - 2 ^ d : Nat) : Int) := by
      have : ((18446744073709551615 * 2 ^ d : Nat) : Int) % ((18446744073709551616 : Nat) : Int) = (((18446744073709551615 * 2 ^ d) % 18446744073709551616 : Nat) : Int) := (Int.natCast_emod _ _).symm
      have e2 : 18446744073709551615 * 2 ^ d % 18446744073709551616 = 18446744073709551616 - 2 ^ d := by
        have : 18446744073709551615 * 2 ^ d = (18446744073709551616 - 2 ^ d) + 18446744073709551616 * (2 ^ d - 1) := by omega
        rw [this, Nat.add_mul_mod_self_left, Nat.mod_eq_of_lt (by omega)]
      rw [e2] at this
      rw [← this, Int.natCast_mul, Int.natCast_pow]; rfl
    rw [e, u64_or_nat n _ (by omega) (by omega)]
    congr 1
    have hm : (18446744073709551616 - 2 ^ d) % 2 ^ d = 0 := by
      have : 18446744073709551616 - 2 ^ d = (2 ^ (64 - d) - 1) * 2 ^ d := by rw [Nat.sub_mul, ← hp]; omega
      rw [this, Nat.mul_mod_left]
    rw [Nat.or_comm, nat_join d _ n hm hn]
    omega
  · rename_i h
    have hp : 2 ^ d = 2 ^ (d - 64) * 18446744073709551616 := by rw [show (18446744073709551616 : Nat) = 2 ^ 64 from rfl, ← Nat.pow_add]; congr 1; omega
    have e : (18446744073709551615 * 2 ^ d : Int) % 18446744073709551616 = 0 := by
      have hp' : (2 : Int) ^ d = 2 ^ (d - 64) * 18446744073709551616 := by
        have := congrArg (fun n : Nat => (n : Int)) hp
        simp only [Int.natCast_mul, Int.natCast_pow] at this
        exact this
      rw [hp', ← Int.mul_assoc, Int.mul_emod_left]
    rw [e]
    have := u64_or_nat n 0 hn (by decide)
    rw [Nat.or_zero] at this
    exact this

theorem sign_min (n d : Nat) (hn : n < 18446744073709551616) (hd : d < 64 → n < 2 ^ d) :
    bits BinOp.or IntKind.u64 (n : Int) (IntKind.u64.wrap (18446744073709551615 * 2 ^ min d 64)) = ((lebSign n d : Nat) : Int) := by
  rw [sign_val n (min d 64) hn (fun h => by rw [Nat.min_eq_left (by omega)]; exact hd (by omega))]
  rcases Nat.lt_or_ge d 64 with h | h
  · rw [Nat.min_eq_left (by omega)]
  · rw [Nat.min_eq_right (by omega)]; simp [lebSign, show ¬ d < 64 by omega]
theorem ret3 {a b c a' b' c' : Int} (h1 : a = a') (h2 : b = b') (h3 : c = c') : Ending.returned (.tuple #[.int .u64 a, .int .i64 b, .int .i64 c]) = .returned (.tuple #[.int .u64 a', .int .i64 b', .int .i64 c']) := by rw [h1, h2, h3]

set_option maxRecDepth 100000 in
set_option maxHeartbeats 800000 in
theorem read_cons (b off len cap : Nat) (bs : List UInt8) (at_ nb : Nat) (sg : Bool) (w : World) (hl : bs.length = len) (hlen : len ≤ 1099511627776) (hat : at_ ≤ len) (h1 : 1 ≤ nb) (h2 : nb ≤ 64)
    (hc : ∀ j, j < len → w.cell? ⟨b, off + j, none⟩ = some (.int .u8 ((bs.getD j 0).toNat : Int))) (r : Nat × Nat × Nat) (hr : Hid (lebGo sg nb (bs.drop at_) at_ 0 0 = r)) :
    Calls Tryz.prog 115 #[.slice (some ⟨b, off, none⟩) len cap, .int .i64 at_, .int .i64 nb, .bool sg] w fun e w' => e = .returned (.tuple #[.int .u64 r.1, .int .i64 r.2.1, .int .i64 r.2.2]) ∧ w = w' := by
  have HL := Lib.hid hl; clear hl
  have HC := Lib.hid hc; clear hc
  have hd4 : decide (len < at_) = false := by simp; omega
  go_enter Tryz.func115, Tryz.ntmps115
  go_wp2
  refine wp_scope_jumps 0 (ReadJ r w) (fun _ _ => 0) rfl ?first ?pass
  case pass =>
    rintro ⟨tm, df⟩ w1 ⟨rfl, hs, h13, hr1, hr2, rfl⟩
    simp only at hs h13
    refine wp_seq (wp_skip ?_)
    refine wp_seq ?_
    refine wp_region_lit ?_
    refine wpList_plain rfl fun K hK => BigFrame.wp_move _ rfl (hK _ _ ?_)
    clear hK K
    refine wpList_plain rfl fun K hK => BigFrame.wp_assign _ rfl (hK _ _ ?_)
    clear hK K
    refine wpList_plain rfl fun K hK => BigFrame.wp_assign _ rfl (hK _ _ ?_)
    clear hK K
    refine wpList_plain rfl fun K hK => BigFrame.wp_assign _ rfl (hK _ _ ?_)
    clear hK K
    refine wpList_nil ?_
    refine wp_ret ?_
    rw [jump_ret]
    refine bodyPost_ret (results_tmp3 rfl _ _ _) rfl ⟨?_, rfl⟩
    simp only [Act.put, Act.eval] at h13 ⊢
    have g : ∀ (l : Array Value) (i j : Nat) (v : Value), l.size = 76 → j < 76 → (l.setIfInBounds i v).getD j undef = if i = j then v else l.getD j undef := by
      intro l i j v hl hj
      simp only [Array.getD_eq_getD_getElem?, Array.getElem?_setIfInBounds]
      split <;> simp [*]
    simp only [g, Array.size_setIfInBounds, hs, h13]
    simp [hr1, hr2, hs]
  case first =>
    go_wp2
    go_loop [1, 11, 12, 13, 14] (fun p n c e d => ∃ (pk nk ck : Nat) (ek : Int) (dk : Nat), p = .int .i64 pk ∧ n = .int .u64 nk ∧ c = .int .u8 ck ∧ e = .int .i64 ek ∧ d = .int .i64 dk ∧ pk ≤ len ∧ nk < 2 ^ dk ∧ dk < nb ∧ dk % 7 = 0 ∧ Hid (lebGo sg nb (bs.drop pk) pk dk nk = r)) (fun p _ _ _ _ => len - (intOf p).toNat)
    case atStart => exact ⟨at_, 0, 0, 2, 0, rfl, rfl, rfl, rfl, rfl, hat, by decide, by omega, rfl, hr⟩
    case round =>
      obtain ⟨pk, nk, ck, ek, dk, rfl, rfl, rfl, rfl, rfl, hp, hn, hd, hd7, hg⟩ := hrel
      have hfg := hg.out
      by_cases hlt : pk < len
      · have hcell := HC.out pk hlt
        have hdr : bs.drop pk = bs.getD pk 0 :: bs.drop (pk + 1) := by
          have : pk < bs.length := by rw [HL.out]; exact hlt
          rw [List.drop_eq_getElem_cons this]; simp [List.getD, this]
        rw [hdr] at hfg
        simp only [lebGo] at hfg
        have hc256 : (bs.getD pk 0).toNat < 256 := (bs.getD pk 0).toNat_lt
        generalize (bs.getD pk 0).toNat = c at hcell hfg hc256
        have hp7 : (0 : Int) ≤ (dk : Int) + 7 := by omega
        have hov := Lib.hid (or_val nk dk c hn (by omega) hc256)
        have hnx : (nk + c % 128 * 2 ^ dk) % 18446744073709551616 < 2 ^ (dk + 7) := by
          have h3 := join_lt hn (show c % 128 < 2 ^ (dk + 7 - dk) by rw [show dk + 7 - dk = 7 by omega]; omega) (by omega : dk ≤ dk + 7)
          exact Nat.lt_of_le_of_lt (Nat.mod_le _ _) h3
        clear hdr
        by_cases hf : lebFits c (nb - dk) sg = true
        · have hf1 : (!lebFits c (nb - dk) sg) = false := by rw [hf]; rfl
          rw [if_neg (by simp [hf])] at hfg
          by_cases hc7 : c < 128
          · rw [if_pos hc7] at hfg
            have h128 := and128_lt c hc7
            have h64 := and64 c hc7
            have HH := Lib.hid hfg; clear hfg hg
            by_cases hs : 64 ≤ c
            · have hs' : decide (64 ≤ c) = true := by simpa using hs
              cases sg
              · go_wp2_with (go_at_call 119; refine (fits_any _ _ _ _ (by omega) (by omega) (by omega)).mono ?_; rintro e w' ⟨rfl, rfl⟩)
                rw [jump_ret]
                go_ret3
                refine ⟨ret3 ?_ ?_ ?_, rfl⟩
                · rw [hov.out, ← HH.out]; rfl
                · rw [← HH.out]; push_cast; rfl
                · rw [← HH.out]; rfl
              · go_wp2_with (go_at_call 119; refine (fits_any _ _ _ _ (by omega) (by omega) (by omega)).mono ?_; rintro e w' ⟨rfl, rfl⟩)
                rw [jump_ret]
                go_ret3
                refine ⟨ret3 ?_ ?_ ?_, rfl⟩
                · rw [hov.out, ← HH.out, hs', sign_min _ _ (Nat.mod_lt _ (by omega)) (fun _ => hnx)]; rfl
                · rw [← HH.out]; push_cast; rfl
                · rw [← HH.out]; rfl
            · have hs' : decide (64 ≤ c) = false := by simpa using hs
              go_wp2_with (go_at_call 119; refine (fits_any _ _ _ _ (by omega) (by omega) (by omega)).mono ?_; rintro e w' ⟨rfl, rfl⟩)
              all_goals
                rw [jump_ret]
                go_ret3
                refine ⟨ret3 ?_ ?_ ?_, rfl⟩
                · rw [hov.out, ← HH.out, hs']; simp
                · rw [← HH.out]; push_cast; rfl
                · rw [← HH.out]; rfl
          · rw [if_neg hc7] at hfg
            have h128 := and128_ge c hc7 hc256
            by_cases hnd : nb ≤ dk + 7
            · rw [if_pos hnd] at hfg
              have HH := Lib.hid hfg; clear hfg hg
              go_wp2_with (go_at_call 119; refine (fits_any _ _ _ _ (by omega) (by omega) (by omega)).mono ?_; rintro e w' ⟨rfl, rfl⟩)
              apply wp_goto
              exact ⟨rfl, rfl, rfl, by rw [← HH.out]; rfl, by rw [← HH.out], by rw [← HH.out], rfl⟩
            · rw [if_neg hnd] at hfg
              have HH := Lib.hid hfg; clear hfg hg
              go_wp2_with (go_at_call 119; refine (fits_any _ _ _ _ (by omega) (by omega) (by omega)).mono ?_; rintro e w' ⟨rfl, rfl⟩)
              go_round
              case rel =>
                exact ⟨pk + 1, _, c, 11, dk + 7, by go_num, by rw [hov.out], rfl, rfl, by go_num, by omega, hnx, by omega, by omega, HH⟩
              case measure => simp [intOf]; omega
        · have hf1 : (!lebFits c (nb - dk) sg) = true := by simp [hf]
          rw [if_pos (by simpa using hf)] at hfg
          have HH := Lib.hid hfg; clear hfg hg
          go_wp2_with (go_at_call 119; refine (fits_any _ _ _ _ (by omega) (by omega) (by omega)).mono ?_; rintro e w' ⟨rfl, rfl⟩)
          apply wp_goto
          exact ⟨rfl, rfl, rfl, by rw [← HH.out]; rfl, by rw [← HH.out], by rw [← HH.out], rfl⟩
      · have hnil : bs.drop pk = [] := List.drop_eq_nil_of_le (by rw [HL.out]; omega)
        rw [hnil] at hfg
        have HH := Lib.hid hfg; clear hfg hg hnil
        go_wp2
        apply wp_goto
        exact ⟨rfl, rfl, rfl, by rw [← HH.out]; rfl, by rw [← HH.out]; rfl, by rw [← HH.out]; rfl, rfl⟩

set_option maxRecDepth 100000 in
set_option maxHeartbeats 800000 in
theorem read_nil (a : Option Addr) (cap nb : Nat) (sg : Bool) (w : World) (h1 : 1 ≤ nb) (h2 : nb ≤ 64) :
    Calls Tryz.prog 115 #[.slice a 0 cap, .int .i64 0, .int .i64 nb, .bool sg] w fun e w' => e = .returned (.tuple #[.int .u64 0, .int .i64 0, .int .i64 10]) ∧ w = w' := by
  go_enter Tryz.func115, Tryz.ntmps115
  go_wp2
  refine wp_scope_jumps 0 (ReadJ (0, 0, 10) w) (fun _ _ => 0) rfl ?first ?pass
  case pass =>
    rintro ⟨tm, df⟩ w1 ⟨rfl, hs, h13, hr1, hr2, rfl⟩
    simp only at hs h13
    refine wp_seq (wp_skip ?_)
    refine wp_seq ?_
    refine wp_region_lit ?_
    refine wpList_plain rfl fun K hK => BigFrame.wp_move _ rfl (hK _ _ ?_)
    clear hK K
    refine wpList_plain rfl fun K hK => BigFrame.wp_assign _ rfl (hK _ _ ?_)
    clear hK K
    refine wpList_plain rfl fun K hK => BigFrame.wp_assign _ rfl (hK _ _ ?_)
    clear hK K
    refine wpList_plain rfl fun K hK => BigFrame.wp_assign _ rfl (hK _ _ ?_)
    clear hK K
    refine wpList_nil ?_
    refine wp_ret ?_
    rw [jump_ret]
    refine bodyPost_ret (results_tmp3 rfl _ _ _) rfl ⟨?_, rfl⟩
    simp only [Act.put, Act.eval] at h13 ⊢
    have g : ∀ (l : Array Value) (i j : Nat) (v : Value), l.size = 76 → j < 76 → (l.setIfInBounds i v).getD j undef = if i = j then v else l.getD j undef := by
      intro l i j v hl hj
      simp only [Array.getD_eq_getD_getElem?, Array.getElem?_setIfInBounds]
      split <;> simp [*]
    simp only [g, Array.size_setIfInBounds, hs, h13]
    simp [hs]
  case first =>
    go_wp2
    refine wp_loop_rounds 1 ?_
    rw [rounds_succ]
    go_wp2
    apply wp_goto
    exact ⟨rfl, rfl, rfl, rfl, rfl, rfl, rfl⟩

/-- leb.read at a place that is there. -/
theorem read_any (S : List Nat) (bv : Value) (bs : List UInt8) (at_ nb : Nat) (sg : Bool) (w : World) (hb : Sl S w 1 bv bs.length (bs.map B)) (hlen : bs.length ≤ 1099511627776) (hat : at_ ≤ bs.length) (h1 : 1 ≤ nb) (h2 : nb ≤ 64) :
    Calls Tryz.prog 115 #[bv, .int .i64 at_, .int .i64 nb, .bool sg] w fun e w' =>
      e = .returned (.tuple #[.int .u64 (lebRead bs at_ nb sg).1, .int .i64 (lebRead bs at_ nb sg).2.1, .int .i64 (lebRead bs at_ nb sg).2.2]) ∧ w = w' := by
  obtain ⟨_, _, a, cap, rfl, _, _, _, h6⟩ := hb
  rcases h6 with h0 | ⟨b, off, rfl, _, _, hc⟩
  · have : bs = [] := by simpa using h0
    subst this
    have : at_ = 0 := by simpa using hat
    subst this
    exact read_nil a cap nb sg w h1 h2
  · unfold lebRead
    rw [if_pos hat]
    refine read_cons b off bs.length cap bs at_ nb sg w rfl hlen hat h1 h2 (fun j hj => ?_) _ (Lib.hid rfl)
    rw [hc j (by omega)]
    simp [B, hj]

set_option maxRecDepth 100000 in
set_option maxHeartbeats 400000 in
theorem lebU_any (S : List Nat) (bv : Value) (bs : List UInt8) (at_ nb : Nat) (w : World) (hb : Sl S w 1 bv bs.length (bs.map B)) (hlen : bs.length ≤ 1099511627776) (hat : at_ ≤ bs.length) (h1 : 1 ≤ nb) (h2 : nb ≤ 64) :
    Calls Tryz.prog 113 #[bv, .int .i64 at_, .int .i64 nb] w fun e w' =>
      e = .returned (.tuple #[.int .u64 (lebRead bs at_ nb false).1, .int .i64 (lebRead bs at_ nb false).2.1, .int .i64 (lebRead bs at_ nb false).2.2]) ∧ w = w' := by
  go_enter Tryz.func113, Tryz.ntmps113
  go_wp2_with (go_at_call 115; refine (read_any S _ bs _ _ _ _ hb hlen hat h1 h2).mono ?_; rintro e w' ⟨rfl, rfl⟩)
  go_ret3
  exact ⟨rfl, rfl⟩

theorem toI64_wrap (n : Nat) (h : n < 18446744073709551616) : wrap64 (n : Int) = toI64 n := by
  unfold wrap64 toI64
  split <;> omega
theorem lebRead_lt (bs : List UInt8) (at_ nb : Nat) (sg : Bool) : (lebRead bs at_ nb sg).1 < 18446744073709551616 := by
  unfold lebRead
  split
  · exact lebGo_lt _ _ _ _ _ _ (by simp)
  · simp
set_option maxRecDepth 100000 in
set_option maxHeartbeats 400000 in
theorem lebS_any (S : List Nat) (bv : Value) (bs : List UInt8) (at_ nb : Nat) (w : World) (hb : Sl S w 1 bv bs.length (bs.map B)) (hlen : bs.length ≤ 1099511627776) (hat : at_ ≤ bs.length) (h1 : 1 ≤ nb) (h2 : nb ≤ 64) :
    Calls Tryz.prog 103 #[bv, .int .i64 at_, .int .i64 nb] w fun e w' =>
      e = .returned (.tuple #[.int .i64 (toI64 (lebRead bs at_ nb true).1), .int .i64 (lebRead bs at_ nb true).2.1, .int .i64 (lebRead bs at_ nb true).2.2]) ∧ w = w' := by
  go_enter Tryz.func103, Tryz.ntmps103
  go_wp2_with (go_at_call 115; refine (read_any S _ bs _ _ _ _ hb hlen hat h1 h2).mono ?_; rintro e w' ⟨rfl, rfl⟩)
  go_ret3
  refine ⟨?_, rfl⟩
  rw [← toI64_wrap _ (lebRead_lt _ _ _ _)]
  rfl

theorem putU_len (n : Nat) (h : n < 18446744073709551616) : (putU n).length ≤ 10 := by
  have key : ∀ k n, n < 128 ^ (k + 1) → (putU n).length ≤ k + 1 := by
    intro k
    induction k with
    | zero => intro n h; rw [putU_small n (by simpa using h)]; simp
    | succ k ih =>
      intro n h
      by_cases hs : n < 128
      · rw [putU_small n hs]; simp
      · rw [putU_big n (by omega)]
        have := ih (n / 128) (by rw [Nat.div_lt_iff_lt_mul (by omega)]; rw [Nat.pow_succ] at h; exact h)
        simp; omega
  exact key 9 n (by omega)
theorem u64_and127 (m : Nat) (h : m < 18446744073709551616) : bits .and .u64 (m : Int) 127 % 256 = ((m % 128 : Nat) : Int) := by
  have := u64_and_nat m 127 h (by decide)
  rw [nat_mask7] at this
  rw [show (127 : Int) = ((127 : Nat) : Int) from rfl, this]
  omega
theorem B_small (m : Nat) (h : m < 256) : B (UInt8.ofNat m) = .int .u8 (m : Int) := by unfold B; rw [u8_ofNat m h]

set_option maxRecDepth 100000 in
set_option maxHeartbeats 800000 in
theorem putU64_any (N : Nat) (w : World) (hN : N < 18446744073709551616) :
    Calls Tryz.prog 86 #[.int .u64 N] w fun e w' => ∃ v, e = .returned v ∧ Own [] w' 5 1 v (putU N).length ((putU N).map B) ∧ New w v ∧ Fr [] w w' := by
  have hneg : decide ((N : Int) < 0) = false := by simp
  go_enter Tryz.func86, Tryz.ntmps86
  go_wp2
  go_loopw [0, 6] (fun n v wr => ∃ (m : Nat) (bs : List UInt8), n = .int .u64 m ∧ m < 18446744073709551616 ∧ Own [] wr 5 1 v bs.length (bs.map B) ∧ New w v ∧ Fr [] w wr ∧ Hid (putU N = bs ++ putU m)) (fun n _ _ => (intOf n).toNat)
  case atStart => exact ⟨N, [], rfl, hN, Own.nil _ _ _ _, New.nil _, Fr.refl _ _, Lib.hid rfl⟩
  case round =>
    obtain ⟨m, bs, rfl, hm, hown, hnew, hfr, hg⟩ := hrel
    have hlen : bs.length ≤ 10 := by
      have h1 := congrArg List.length hg.out
      have h2 := putU_len N hN
      simp at h1; omega
    have hc := Lib.hid (u64_and127 m hm)
    by_cases hs : m < 128
    · have hq : (m : Int) / 128 = 0 := by omega
      go_wp2_with (at_builtin; (refine app_u8 rfl (.tmp 34) (.tmp 36) _ rfl _ bs.length (bs.map B) rfl ?hown _ 1 [.int .u8 (bits BinOp.and IntKind.u64 (↑m) 127 % 256)] rfl ?hsrc ?hb ?_))
      case hown => exact hown.fr ((Fr.refl [] wr).alloc _) (by simp)
      case hsrc => exact src1 und_bytes (by simp) rfl
      case hb => omega
      intro v' w1 hown1 hf1 hb1
      have e : bs.map B ++ [Value.int .u8 (bits BinOp.and IntKind.u64 (↑m) 127 % 256)] = (putU N).map B := by
        rw [hg.out, putU_small m hs, List.map_append, hc.out]
        have : m % 128 = m := by omega
        simp [B_small m (by omega), this]
      have e2 : bs.length + 1 = (putU N).length := by rw [hg.out, putU_small m hs]; simp
      rw [e, e2] at hown1
      clear e e2
      go_wp2
      go_ret
      exact ⟨v', rfl, hown1, hnew.app hb1 (by have := hfr.size; omega), (hfr.alloc _).app hf1 hnew⟩
    · have hq : ((m : Int) / 128 == 0) = false := by simp; omega
      have hor : Hid (bits BinOp.or IntKind.u8 (bits BinOp.and IntKind.u64 (↑m) 127 % 256) 128 = ((m % 128 + 128 : Nat) : Int)) := by
        have := u8_or128_right ((m % 128 : Nat) : Int) (by omega) (by omega)
        apply Lib.hid
        rw [hc.out, this]; omega
      go_wp2_with (at_builtin; (refine app_u8 rfl (.tmp 38) (.tmp 41) _ rfl _ bs.length (bs.map B) rfl ?hown2 _ 1 [.int .u8 (bits BinOp.or IntKind.u8 (bits BinOp.and IntKind.u64 (↑m) 127 % 256) 128)] rfl ?hsrc2 ?hb2 ?_))
      case hown2 => exact hown.fr ((Fr.refl [] wr).alloc _) (by simp)
      case hsrc2 => exact src1 und_bytes (by simp) rfl
      case hb2 => omega
      intro v' w1 hown1 hf1 hb1
      rw [hor.out, ← B_small _ (by omega)] at hown1
      go_wp2
      go_roundw
      case rel =>
        refine ⟨m / 128, bs ++ [UInt8.ofNat (m % 128 + 128)], by go_num, by omega, by simpa using hown1, hnew.app hb1 (by have := hfr.size; omega), (hfr.alloc _).app hf1 hnew, Lib.hid ?_⟩
        rw [hg.out, putU_big m (by omega)]; simp
      case measure => simp [intOf]; omega

end Go.Proofs.YtokneepfknepaaaGreatDoor

set_option linter.unusedSimpArgs false
set_option linter.unusedVariables false
namespace Go.Proofs.YtokneepfknepaaaGreatDoor
open Go.RowKit

theorem putS_len (n : Int) (h : -9223372036854775808 ≤ n) (h2 : n < 9223372036854775808) : (putS n).length ≤ 10 := by
  have key : ∀ (k : Nat) (n : Int), -(64 * 128 ^ k) ≤ n → n < 64 * 128 ^ k → (putS n).length ≤ k + 1 := by
    intro k
    induction k with
    | zero => intro n h h2; rw [putS_small n (by simpa using h) (by simpa using h2)]; simp
    | succ k ih =>
      intro n h h2
      by_cases hs : -64 ≤ n ∧ n < 64
      · rw [putS_small n hs.1 hs.2]; simp
      · rw [putS_big n (by omega)]
        rw [Int.pow_succ] at h h2
        have := ih (n / 128) (by omega) (by omega)
        simp; omega
  exact key 9 n (by omega) (by omega)

theorem and64' (c : Nat) (h : c < 128) : (bits .and .u8 (c : Int) 64 == 64) = decide (64 ≤ c) := by
  have := u8_and_nat c 64 (by omega) (by decide)
  rw [show (64 : Nat) = 2 ^ 6 from rfl, nat_bit 6 c] at this
  rw [show (64 : Int) = ((2 ^ 6 : Nat) : Int) from rfl, this]
  by_cases h6 : 64 ≤ c
  · rw [show c / 2 ^ 6 = 1 by omega]; simp [h6]
  · rw [show c / 2 ^ 6 = 0 by omega]; simp [h6]
theorem and64z' (c : Nat) (h : c < 128) : (bits .and .u8 (c : Int) 64 == 0) = decide (c < 64) := by
  have := u8_and_nat c 64 (by omega) (by decide)
  rw [show (64 : Nat) = 2 ^ 6 from rfl, nat_bit 6 c] at this
  rw [show (64 : Int) = ((2 ^ 6 : Nat) : Int) from rfl, this]
  by_cases h6 : c < 64
  · rw [show c / 2 ^ 6 = 0 by omega]; simp [h6]
  · rw [show c / 2 ^ 6 = 1 by omega]; simp [h6]

set_option maxRecDepth 100000 in
set_option maxHeartbeats 1600000 in
theorem putS64_any (N : Int) (w : World) (hlo : -9223372036854775808 ≤ N) (hhi : N < 9223372036854775808) :
    Calls Tryz.prog 87 #[.int .i64 N] w fun e w' => ∃ v, e = .returned v ∧ Own [] w' 5 1 v (putS N).length ((putS N).map B) ∧ New w v ∧ Fr [] w w' := by
  have hx : bits BinOp.xor IntKind.i64 (-1) 0 = -1 := by decide
  by_cases hneg : N < 0
  · have hneg' : decide (N < 0) = true := by simpa using hneg
    go_enter Tryz.func87, Tryz.ntmps87
    go_wp2
    go_loopw [0, 6] (fun n v wr => ∃ (m : Int) (bs : List UInt8), n = .int .i64 m ∧ -9223372036854775808 ≤ m ∧ m < 9223372036854775808 ∧ m < 0 ∧ Own [] wr 5 1 v bs.length (bs.map B) ∧ New w v ∧ Fr [] w wr ∧ Hid (putS N = bs ++ putS m)) (fun n _ _ => (intOf n).natAbs)
    case atStart => exact ⟨N, [], rfl, hlo, hhi, by omega, Own.nil _ _ _ _, New.nil _, Fr.refl _ _, Lib.hid rfl⟩
    case round =>
      obtain ⟨m, bs, rfl, hm, hm2, hm0, hown, hnew, hfr, hg⟩ := hrel
      have hlen : bs.length ≤ 10 := by
        have h1 := congrArg List.length hg.out
        have h2 := putS_len N hlo hhi
        simp at h1; omega
      have hbnd : bs.length + 1 ≤ 140737488355328 := by omega
      have hc : bits BinOp.and IntKind.i64 m 127 % 256 = ((m % 128).toNat : Int) := by rw [i64_and127]; omega
      have h64 : (bits BinOp.and IntKind.u8 (bits BinOp.and IntKind.i64 m 127 % 256) 64 == 64) = decide (64 ≤ (m % 128).toNat) := by
        rw [hc]; exact and64' _ (by omega)
      have hor : bits BinOp.or IntKind.u8 (bits BinOp.and IntKind.i64 m 127 % 256) 128 = (((m % 128).toNat + 128 : Nat) : Int) := by
        have := u8_or128_right (((m % 128).toNat : Nat) : Int) (by omega) (by omega)
        rw [hc, this]; omega
      have Hc := Lib.hid hc
      have Hor := Lib.hid hor
      clear hc hor
      by_cases hs : -64 ≤ m
      · have hq : m / 128 = -1 := by omega
        have hd : decide (64 ≤ (m % 128).toNat) = true := by simp; omega
        rw [hd] at h64
        go_wp2_with (at_builtin; refine app_u8 rfl (.tmp 34) (.tmp 36) _ rfl _ _ _ rfl (hown.alloc _) _ _ _ rfl (src_new und_bytes _ _ _ _ rfl) hbnd ?_)
        intro v' w1 hown1 hf1 hb1
        have e2 : bs.length + 1 = (putS N).length := by rw [hg.out, putS_small m (by omega) (by omega)]; simp
        rw [Hc.out, ← B_small _ (by omega), e2, show bs.map B ++ [B (UInt8.ofNat (m % 128).toNat)] = (putS N).map B by rw [hg.out, putS_small m (by omega) (by omega)]; simp] at hown1
        clear e2 hq
        go_wp2
        go_ret
        exact ⟨v', rfl, hown1, hnew.app hb1 (by have := hfr.size; omega), (hfr.alloc _).app hf1 hnew⟩
      · by_cases hs2 : -128 ≤ m
        all_goals
          first
            | (have hq : m / 128 = -1 := by omega
               have hd : decide (64 ≤ (m % 128).toNat) = false := by simp; omega
               rw [hd] at h64)
            | (have hq : (m / 128 == -1) = false := by simp; omega)
          go_wp2_with (at_builtin; refine app_u8 rfl (.tmp 38) (.tmp 41) _ rfl _ _ _ rfl (hown.alloc _) _ _ _ rfl (src_new und_bytes _ _ _ _ rfl) hbnd ?_)
          intro v' w1 hown1 hf1 hb1
          rw [Hor.out, ← B_small _ (by omega)] at hown1
          go_wp2
          go_roundw
          case rel =>
            refine ⟨m / 128, bs ++ [UInt8.ofNat ((m % 128).toNat + 128)], by first | rfl | rw [hq], by omega, by omega, by omega, by simpa using hown1, hnew.app hb1 (by have := hfr.size; omega), (hfr.alloc _).app hf1 hnew, Lib.hid ?_⟩
            rw [hg.out, putS_big m (by omega)]; simp
          case measure => simp [intOf]; omega
  · have hneg' : decide (N < 0) = false := by simpa using hneg
    go_enter Tryz.func87, Tryz.ntmps87
    go_wp2
    go_loopw [0, 6] (fun n v wr => ∃ (m : Int) (bs : List UInt8), n = .int .i64 m ∧ -9223372036854775808 ≤ m ∧ m < 9223372036854775808 ∧ 0 ≤ m ∧ Own [] wr 5 1 v bs.length (bs.map B) ∧ New w v ∧ Fr [] w wr ∧ Hid (putS N = bs ++ putS m)) (fun n _ _ => (intOf n).natAbs)
    case atStart => exact ⟨N, [], rfl, hlo, hhi, by omega, Own.nil _ _ _ _, New.nil _, Fr.refl _ _, Lib.hid rfl⟩
    case round =>
      obtain ⟨m, bs, rfl, hm, hm2, hm0, hown, hnew, hfr, hg⟩ := hrel
      have hlen : bs.length ≤ 10 := by
        have h1 := congrArg List.length hg.out
        have h2 := putS_len N hlo hhi
        simp at h1; omega
      have hbnd : bs.length + 1 ≤ 140737488355328 := by omega
      have hc : bits BinOp.and IntKind.i64 m 127 % 256 = ((m % 128).toNat : Int) := by rw [i64_and127]; omega
      have h64 : (bits BinOp.and IntKind.u8 (bits BinOp.and IntKind.i64 m 127 % 256) 64 == 0) = decide ((m % 128).toNat < 64) := by
        rw [hc]; exact and64z' _ (by omega)
      have hor : bits BinOp.or IntKind.u8 (bits BinOp.and IntKind.i64 m 127 % 256) 128 = (((m % 128).toNat + 128 : Nat) : Int) := by
        have := u8_or128_right (((m % 128).toNat : Nat) : Int) (by omega) (by omega)
        rw [hc, this]; omega
      have Hc := Lib.hid hc
      have Hor := Lib.hid hor
      clear hc hor
      by_cases hs : m < 64
      · have hq : m / 128 = 0 := by omega
        have hd : decide ((m % 128).toNat < 64) = true := by simp; omega
        rw [hd] at h64
        go_wp2_with (at_builtin; refine app_u8 rfl (.tmp 34) (.tmp 36) _ rfl _ _ _ rfl (hown.alloc _) _ _ _ rfl (src_new und_bytes _ _ _ _ rfl) hbnd ?_)
        intro v' w1 hown1 hf1 hb1
        have e2 : bs.length + 1 = (putS N).length := by rw [hg.out, putS_small m (by omega) (by omega)]; simp
        rw [Hc.out, ← B_small _ (by omega), e2, show bs.map B ++ [B (UInt8.ofNat (m % 128).toNat)] = (putS N).map B by rw [hg.out, putS_small m (by omega) (by omega)]; simp] at hown1
        clear e2 hq
        go_wp2
        go_ret
        exact ⟨v', rfl, hown1, hnew.app hb1 (by have := hfr.size; omega), (hfr.alloc _).app hf1 hnew⟩
      · by_cases hs2 : m < 128
        all_goals
          first
            | (have hq : m / 128 = 0 := by omega
               have hd : decide ((m % 128).toNat < 64) = false := by simp; omega
               rw [hd] at h64)
            | (have hq : (m / 128 == 0) = false := by simp; omega)
          go_wp2_with (at_builtin; refine app_u8 rfl (.tmp 38) (.tmp 41) _ rfl _ _ _ rfl (hown.alloc _) _ _ _ rfl (src_new und_bytes _ _ _ _ rfl) hbnd ?_)
          intro v' w1 hown1 hf1 hb1
          rw [Hor.out, ← B_small _ (by omega)] at hown1
          go_wp2
          go_roundw
          case rel =>
            refine ⟨m / 128, bs ++ [UInt8.ofNat ((m % 128).toNat + 128)], by first | rfl | rw [hq], by omega, by omega, by omega, by simpa using hown1, hnew.app hb1 (by have := hfr.size; omega), (hfr.alloc _).app hf1 hnew, Lib.hid ?_⟩
            rw [hg.out, putS_big m (by omega)]; simp
          case measure => simp [intOf]; omega


set_option maxRecDepth 100000 in
set_option maxHeartbeats 400000 in
theorem PutU_any (N : Nat) (w : World) (hN : N < 18446744073709551616) :
    Calls Tryz.prog 50 #[.int .u64 N] w fun e w' => ∃ v, e = .returned v ∧ Own [] w' 5 1 v (putU N).length ((putU N).map B) ∧ New w v ∧ Fr [] w w' := by
  go_enter Tryz.func50, Tryz.ntmps50
  go_wp2_with (go_at_call 86; refine (putU64_any N _ hN).mono ?_; rintro e w' ⟨v, rfl, h1, h2, h3⟩)
  go_ret
  exact ⟨_, rfl, h1, h2, h3⟩
set_option maxRecDepth 100000 in
set_option maxHeartbeats 400000 in
theorem PutS_any (N : Int) (w : World) (hlo : -9223372036854775808 ≤ N) (hhi : N < 9223372036854775808) :
    Calls Tryz.prog 51 #[.int .i64 N] w fun e w' => ∃ v, e = .returned v ∧ Own [] w' 5 1 v (putS N).length ((putS N).map B) ∧ New w v ∧ Fr [] w w' := by
  go_enter Tryz.func51, Tryz.ntmps51
  go_wp2_with (go_at_call 87; refine (putS64_any N _ hlo hhi).mono ?_; rintro e w' ⟨v, rfl, h1, h2, h3⟩)
  go_ret
  exact ⟨_, rfl, h1, h2, h3⟩

end Go.Proofs.YtokneepfknepaaaGreatDoor

set_option linter.unusedSimpArgs false
set_option linter.unusedVariables false
namespace Go.Proofs.YtokneepfknepaaaGreatDoor

structure HeapT where
  kind : Int
  n : Int
deriving DecidableEq, Inhabited

structure ValT where
  kind : Int
  null : Bool
  heap : HeapT
deriving DecidableEq, Inhabited

structure FieldT where
  pack : Int
  val : ValT
  mut_ : Bool
deriving DecidableEq, Inhabited

structure CompT where
  kind : Int
  params : List ValT
  results : List ValT
  fields : List FieldT
deriving DecidableEq, Inhabited

structure SubT where
  final_ : Bool
  supers : List HeapT
  comp : CompT
deriving DecidableEq, Inhabited

def HeapT.zero : HeapT := ⟨0, 0⟩
def ValT.zero : ValT := ⟨0, false, ⟨0, 0⟩⟩
def CompT.zero : CompT := ⟨0, [], [], []⟩
def SubT.zero : SubT := ⟨false, [], ⟨0, [], [], []⟩⟩

/-- Where a reader stands: its place, the first error, that one's place. -/
structure RdS where
  at_ : Nat
  err : Int
  errAt : Int
deriving DecidableEq, Inhabited

def RdS.fail (s : RdS) (e a : Int) : RdS := if s.err = 0 ∧ e ≠ 0 then { s with err := e, errAt := a } else s
def RdS.refuse (s : RdS) (e : Int) (a : Nat) : RdS := { s.fail e a with at_ := a }
def RdS.form (s : RdS) (a : Nat) : RdS := if s.err = 0 then s.refuse 60 a else s
def RdS.next (s : RdS) : RdS := { s with at_ := s.at_ + 1 }
def RdS.told {α : Type} (s : RdS) (z t : α) : α := if s.err = 0 then t else z

def rPeek (bs : List UInt8) (s : RdS) : Nat := if s.err = 0 ∧ s.at_ < bs.length then (bs.getD s.at_ 0).toNat else 0
def rByte (bs : List UInt8) (s : RdS) : Nat × RdS :=
  if s.err = 0 ∧ s.at_ < bs.length then ((bs.getD s.at_ 0).toNat, s.next) else (0, s.fail 10 s.at_)
def rU (bs : List UInt8) (bits : Nat) (s : RdS) : Nat × RdS :=
  if s.err = 0 then
    if (lebRead bs s.at_ bits false).2.2 = 0 then ((lebRead bs s.at_ bits false).1, { s with at_ := (lebRead bs s.at_ bits false).2.1 })
    else (0, s.fail (lebRead bs s.at_ bits false).2.2 s.at_)
  else (0, s)
def rS (bs : List UInt8) (bits : Nat) (s : RdS) : Int × RdS :=
  if s.err = 0 then
    if (lebRead bs s.at_ bits true).2.2 = 0 then (toI64 (lebRead bs s.at_ bits true).1, { s with at_ := (lebRead bs s.at_ bits true).2.1 })
    else (0, s.fail (lebRead bs s.at_ bits true).2.2 s.at_)
  else (0, s)
def rCount (bs : List UInt8) (s : RdS) : Nat × RdS :=
  if bs.length - (rU bs 32 s).2.at_ < (rU bs 32 s).1 then (0, (rU bs 32 s).2.refuse 10 s.at_) else rU bs 32 s

def heapsL : List Int := [11, 5, 4, 3, 2, 1, 9, 7, 6, 10, 8, 12]
/-- The heap type of one byte; kind 0: none. -/
def givenK (c : Nat) : Int := if c < 105 ∨ 117 ≤ c then 0 else heapsL.getD (c - 105) 0

def rHeap (bs : List UInt8) (s : RdS) : HeapT × RdS :=
  if givenK (rPeek bs s) = 0 then
    if (rS bs 33 s).1 < 0 then (HeapT.zero, (rS bs 33 s).2.refuse 60 s.at_)
    else ((rS bs 33 s).2.told HeapT.zero ⟨13, (rS bs 33 s).1⟩, (rS bs 33 s).2)
  else (⟨givenK (rPeek bs s), 0⟩, s.next)

def rVal (bs : List UInt8) (s : RdS) : ValT × RdS :=
  if (rByte bs s).1 = 127 then (⟨1, false, ⟨0, 0⟩⟩, (rByte bs s).2)
  else if (rByte bs s).1 = 126 then (⟨2, false, ⟨0, 0⟩⟩, (rByte bs s).2)
  else if (rByte bs s).1 = 100 ∨ (rByte bs s).1 = 99 then
    ((rHeap bs (rByte bs s).2).2.told ValT.zero ⟨3, (rByte bs s).1 == 99, (rHeap bs (rByte bs s).2).1⟩, (rHeap bs (rByte bs s).2).2)
  else if (rByte bs s).1 = 125 ∨ (rByte bs s).1 = 124 ∨ (rByte bs s).1 = 123 then (ValT.zero, (rByte bs s).2.refuse 61 s.at_)
  else if givenK (rByte bs s).1 = 0 then (ValT.zero, (rByte bs s).2.form s.at_)
  else (⟨3, true, ⟨givenK (rByte bs s).1, 0⟩⟩, (rByte bs s).2)

/-- So many of what f reads, till an error is met. -/
def rMany {α : Type} (f : RdS → α × RdS) : Nat → RdS → List α × RdS
  | 0, s => ([], s)
  | n + 1, s => if s.err = 0 then ((f s).1 :: (rMany f n (f s).2).1, (rMany f n (f s).2).2) else ([], s)
def rList {α : Type} (bs : List UInt8) (f : RdS → α × RdS) (s : RdS) : List α × RdS :=
  ((rMany f (rCount bs s).1 (rCount bs s).2).2.told [] (rMany f (rCount bs s).1 (rCount bs s).2).1, (rMany f (rCount bs s).1 (rCount bs s).2).2)

def rVals (bs : List UInt8) (s : RdS) : List ValT × RdS := rList bs (rVal bs) s
def rSuper (bs : List UInt8) (s : RdS) : HeapT × RdS := (⟨13, (rU bs 32 s).1⟩, (rU bs 32 s).2)

/-- What stands in a field, ahead of whether it may change. -/
def rStore (bs : List UInt8) (s : RdS) : (Int × ValT) × RdS :=
  if rPeek bs s = 120 then ((8, ⟨1, false, ⟨0, 0⟩⟩), s.next)
  else if rPeek bs s = 119 then ((16, ⟨1, false, ⟨0, 0⟩⟩), s.next)
  else ((0, (rVal bs s).1), (rVal bs s).2)
/-- A byte that is 0 or 1. -/
def rBit (bs : List UInt8) (s : RdS) : Bool × RdS :=
  ((rByte bs s).1 == 1, if 1 < (rByte bs s).1 then (rByte bs s).2.form s.at_ else (rByte bs s).2)
def rField (bs : List UInt8) (s : RdS) : FieldT × RdS :=
  (⟨(rStore bs s).1.1, (rStore bs s).1.2, (rBit bs (rStore bs s).2).1⟩, (rBit bs (rStore bs s).2).2)
def rComp (bs : List UInt8) (s : RdS) : CompT × RdS :=
  if (rByte bs s).1 = 96 then
    (⟨1, (rVals bs (rByte bs s).2).1, (rVals bs (rVals bs (rByte bs s).2).2).1, []⟩, (rVals bs (rVals bs (rByte bs s).2).2).2)
  else if (rByte bs s).1 = 95 then (⟨2, [], [], (rList bs (rField bs) (rByte bs s).2).1⟩, (rList bs (rField bs) (rByte bs s).2).2)
  else if (rByte bs s).1 = 94 then (⟨3, [], [], [(rField bs (rByte bs s).2).1]⟩, (rField bs (rByte bs s).2).2)
  else (CompT.zero, (rByte bs s).2.form s.at_)
/-- Whether a type is final, and its supers. -/
def rHead (bs : List UInt8) (s : RdS) : (Bool × List HeapT) × RdS :=
  if rPeek bs s = 80 ∨ rPeek bs s = 79 then ((rPeek bs s == 79, (rList bs (rSuper bs) s.next).1), (rList bs (rSuper bs) s.next).2)
  else ((true, []), s)
def rSub (bs : List UInt8) (s : RdS) : SubT × RdS :=
  ((rComp bs (rHead bs s).2).2.told SubT.zero ⟨(rHead bs s).1.1, (rHead bs s).1.2, (rComp bs (rHead bs s).2).1⟩, (rComp bs (rHead bs s).2).2)
def rRec (bs : List UInt8) (s : RdS) : List SubT × RdS :=
  if rPeek bs s = 78 then rList bs (rSub bs) s.next else ((rSub bs s).2.told [] [(rSub bs s).1], (rSub bs s).2)

def rOpen : RdS := ⟨0, 0, 0⟩

/- What is plain. -/
def indexedH (h : HeapT) : Bool := decide (h.kind = 13 ∧ 0 ≤ h.n ∧ h.n ≤ 4294967295)
def givenH (h : HeapT) : Bool := decide (1 ≤ h.kind ∧ h.kind ≤ 12 ∧ h.n = 0)
def plainVal (v : ValT) : Bool :=
  if v.kind = 1 ∨ v.kind = 2 then decide (v = ⟨v.kind, false, ⟨0, 0⟩⟩)
  else if v.kind = 3 then givenH v.heap || indexedH v.heap
  else false
/- What is put. -/
def heapByte (k : Int) : List UInt8 := ((List.range 12).filter fun i => heapsL.getD i 0 == k).map fun i => UInt8.ofNat (105 + i)
def pHeap (h : HeapT) : List UInt8 := if h.kind = 13 then putS h.n else heapByte h.kind
def pVal (v : ValT) : List UInt8 :=
  if v.kind = 1 then [127] else if v.kind = 2 then [126]
  else if v.null = false then 100 :: pHeap v.heap
  else if v.heap.kind = 13 then 99 :: pHeap v.heap
  else pHeap v.heap
def pList {α : Type} (f : α → List UInt8) (l : List α) : List UInt8 := putU l.length ++ l.flatMap f
end Go.Proofs.YtokneepfknepaaaGreatDoor

set_option linter.unusedSimpArgs false
set_option linter.unusedVariables false
namespace Go.Proofs.YtokneepfknepaaaGreatDoor
open Go.RowKit

/-- The table of heap types, as the program's text lays it. -/
structure Gl (S : List Nat) (w : World) : Prop where
  lt : 1 < w.heap.size
  not : 1 ∉ S
  cell : ∀ o, o < 12 → w.cell? ⟨1, o, none⟩ = some (.int .i64 (heapsL.getD o 0))
theorem Gl.fr {S S' : List Nat} {w w' : World} (h : Gl S w) (hf : Fr S' w w') (hs : ∀ b, b < w.heap.size → b ∈ S' → b ∈ S) : Gl S w' :=
  ⟨Nat.lt_of_lt_of_le h.lt hf.size, h.not, fun o ho => by rw [hf.cell h.lt (fun hm => h.not (hs _ h.lt hm))]; exact h.cell o ho⟩
theorem Gl.sub {S S' : List Nat} {w : World} (h : Gl S w) (hs : ∀ b, b < w.heap.size → b ∈ S' → b ∈ S) : Gl S' w := ⟨h.lt, fun hm => h.not (hs _ h.lt hm), h.cell⟩

def rdCells (rb : Nat) (bv : Value) (s : RdS) : List Value := [.int .i64 s.at_, .int .i64 s.err, .int .i64 s.errAt, bv, .pointer (some ⟨rb, 0, none⟩)]
/-- A reader that Open made, at block rb, of the bytes bs, standing at s. S: the blocks that may be written. -/
structure Rd (S : List Nat) (w : World) (rb : Nat) (bv : Value) (bs : List UInt8) (s : RdS) : Prop where
  mem : rb ∈ S
  lt : ∀ b, b ∈ S → b < w.heap.size
  loc : Loc w rb (rdCells rb bv s) 87
  sl : Sl S w 1 bv bs.length (bs.map B)
  gl : Gl S w
  le : s.at_ ≤ bs.length
  small : bs.length ≤ 1099511627776

theorem Rd.step {S : List Nat} {w w' : World} {rb : Nat} {bv : Value} {bs : List UInt8} {s s' : RdS} (h : Rd S w rb bv bs s) (hf : Fr [rb] w w') (hl : Loc w' rb (rdCells rb bv s') 87) (hle : s'.at_ ≤ bs.length) : Rd S w' rb bv bs s' :=
  have hs : ∀ b, b < w.heap.size → b ∈ [rb] → b ∈ S := fun b _ hb => by simp at hb; subst hb; exact h.mem
  ⟨h.mem, fun b hb => Nat.lt_of_lt_of_le (h.lt b hb) hf.size, hl, h.sl.fr hf hs, h.gl.fr hf hs, hle, h.small⟩
/-- Other blocks of S have been written, others have come. -/
theorem Rd.fr {S S' : List Nat} {w w' : World} {rb : Nat} {bv : Value} {bs : List UInt8} {s : RdS} (h : Rd S w rb bv bs s) (hf : Fr S' w w') (hs : ∀ b, b < w.heap.size → b ∈ S' → b ∈ S) (hn : rb ∉ S') : Rd S w' rb bv bs s :=
  ⟨h.mem, fun b hb => Nat.lt_of_lt_of_le (h.lt b hb) hf.size, h.loc.fr hf hn, h.sl.fr hf hs, h.gl.fr hf hs, h.le, h.small⟩
theorem Rd.alloc {S : List Nat} {w : World} {rb : Nat} {bv : Value} {bs : List UInt8} {s : RdS} (h : Rd S w rb bv bs s) (o : Obj) : Rd S (w.alloc o) rb bv bs s := h.fr ((Fr.refl [] w).alloc o) (by simp) (by simp)
theorem Rd.drew {S : List Nat} {w : World} {rb : Nat} {bv : Value} {bs : List UInt8} {s : RdS} (h : Rd S w rb bv bs s) : Rd S w.drew rb bv bs s := h.fr (Fr.refl [] w).drew (by simp) (by simp)
theorem Rd.drewN {S : List Nat} {w : World} {rb : Nat} {bv : Value} {bs : List UInt8} {s : RdS} (h : Rd S w rb bv bs s) (n : Nat) : Rd S (w.drewN n) rb bv bs s := h.fr ((Fr.refl [] w).drewN n) (by simp) (by simp)
/-- With more blocks that may be written: new ones. -/
theorem Rd.more {S S' : List Nat} {w w' : World} {rb : Nat} {bv : Value} {bs : List UInt8} {s : RdS} (h : Rd S w rb bv bs s) (hf : Fr [] w w') (hs : ∀ b, b ∈ S' → b ∈ S ∨ w.heap.size ≤ b) (hlt : ∀ b, b ∈ S' → b < w'.heap.size) (hm : rb ∈ S') : Rd S' w' rb bv bs s :=
  have hh : ∀ b, b < w.heap.size → b ∈ S' → b ∈ S := fun b hb hm => (hs b hm).elim id (fun h => by omega)
  ⟨hm, hlt, h.loc.fr hf (by simp), (h.sl.sub hh).fr hf (by simp), (h.gl.sub hh).fr hf (by simp), h.le, h.small⟩
theorem Rd.less {S S' : List Nat} {w : World} {rb : Nat} {bv : Value} {bs : List UInt8} {s : RdS} (h : Rd S w rb bv bs s) (hs : ∀ b, b ∈ S' → b ∈ S) (hm : rb ∈ S') : Rd S' w rb bv bs s :=
  ⟨hm, fun b hb => h.lt b (hs b hb), h.loc, h.sl.sub fun b _ hb => hs b hb, h.gl.sub fun b _ hb => hs b hb, h.le, h.small⟩

/-- A new block that will be written. -/
theorem Rd.loc1 {S : List Nat} {w : World} {rb : Nat} {bv : Value} {bs : List UInt8} {s : RdS} (h : Rd S w rb bv bs s) (o : Obj) : Rd (w.heap.size :: S) (w.alloc o) rb bv bs s :=
  h.more ((Fr.refl [] w).alloc o) (fun b hb => by
    rcases List.mem_cons.1 hb with rfl | hb
    · exact .inr (Nat.le_refl _)
    · exact .inl hb) (fun b hb => by
    rcases List.mem_cons.1 hb with rfl | hb
    · simp
    · have := h.lt b hb; simp; omega) (List.mem_cons_of_mem _ h.mem)
theorem Rd.setLoc {S : List Nat} {w : World} {rb : Nat} {bv : Value} {bs : List UInt8} {s : RdS} (h : Rd S w rb bv bs s) {lb : Nat} (hm : lb ∈ S) (hn : lb ≠ rb) (o : Nat) (v : Value) : Rd S (w.setCell ⟨lb, o, none⟩ v) rb bv bs s :=
  h.fr (S' := [lb]) ((Fr.refl _ _).setCell (by simp) _) (fun b _ hb => by simp at hb; subst hb; exact hm) (by simpa using fun h => hn h.symm)
theorem Rd.un1 {S : List Nat} {w : World} {rb lb : Nat} {bv : Value} {bs : List UInt8} {s : RdS} (h : Rd (lb :: S) w rb bv bs s) (hm : rb ∈ S) : Rd S w rb bv bs s := h.less (fun b hb => List.mem_cons_of_mem _ hb) hm

/-- Two pointers that are one: of Readers. -/
theorem eql_rd (a : Addr) (w : World) : (binOp .eql 46 (.pointer (some a)) (.pointer (some a))).run Tryz.prog w = .ok (.bool true) w :=
  run_eql_ptr_same (te := 87) (j := (Tryz.prog.info? 87).get (by kernel_rfl)) w a (by kernel_rfl) (by kernel_rfl)
attribute [go_sem] eql_rd


set_option maxRecDepth 100000 in
set_option maxHeartbeats 400000 in
theorem rd_made {S : List Nat} {w : World} {rb : Nat} {bv : Value} {bs : List UInt8} {s : RdS} (h : Rd S w rb bv bs s) :
    Calls Tryz.prog 48 #[.pointer (some ⟨rb, 0, none⟩)] w fun e w' => e = .returned (.bool true) ∧ w = w' := by
  have hC := h.loc.cell; have hF := h.loc.frz; simp only [rdCells] at hC
  go_enter Tryz.func48, Tryz.ntmps48
  go_wp2
  go_ret
  exact ⟨rfl, rfl⟩
set_option maxRecDepth 100000 in
set_option maxHeartbeats 400000 in
theorem rd_reads {S : List Nat} {w : World} {rb : Nat} {bv : Value} {bs : List UInt8} {s : RdS} (h : Rd S w rb bv bs s) :
    Calls Tryz.prog 85 #[.pointer (some ⟨rb, 0, none⟩)] w fun e w' => e = .returned (.bool (s.err == 0)) ∧ w = w' := by
  have hC := h.loc.cell; have hF := h.loc.frz; simp only [rdCells] at hC
  go_enter Tryz.func85, Tryz.ntmps85
  go_wp2_with (go_at_call 48; refine (rd_made (by assumption)).mono ?_; rintro e w' ⟨rfl, rfl⟩)
  go_ret
  exact ⟨rfl, rfl⟩
set_option maxRecDepth 100000 in
set_option maxHeartbeats 400000 in
theorem rd_at {S : List Nat} {w : World} {rb : Nat} {bv : Value} {bs : List UInt8} {s : RdS} (h : Rd S w rb bv bs s) :
    Calls Tryz.prog 43 #[.pointer (some ⟨rb, 0, none⟩)] w fun e w' => e = .returned (.int .i64 s.at_) ∧ w = w' := by
  have hC := h.loc.cell; have hF := h.loc.frz; simp only [rdCells] at hC
  go_enter Tryz.func43, Tryz.ntmps43
  go_wp2_with (go_at_call 48; refine (rd_made (by assumption)).mono ?_; rintro e w' ⟨rfl, rfl⟩)
  go_ret
  exact ⟨rfl, rfl⟩

def DrewN (w w' : World) : Prop := ∃ n, w' = w.drewN n
set_option maxRecDepth 100000 in
set_option maxHeartbeats 400000 in
theorem rd_left {S : List Nat} {w : World} {rb : Nat} {bv : Value} {bs : List UInt8} {s : RdS} (h : Rd S w rb bv bs s) :
    Calls Tryz.prog 114 #[.pointer (some ⟨rb, 0, none⟩)] w fun e w' => e = .returned (.int .i64 ((bs.length : Int) - s.at_)) ∧ DrewN w w' := by
  have hC := h.loc.cell; have hF := h.loc.frz; simp only [rdCells] at hC
  have hle := h.le
  have hsm := h.small
  obtain ⟨a, cap, hbv, _⟩ := h.sl.2.2
  subst hbv
  go_enter Tryz.func114, Tryz.ntmps114
  go_wp2_with (go_at_call 48; refine (rd_made (by assumption)).mono ?_; rintro e w' ⟨rfl, rfl⟩)
  go_quiet (fail)
  go_wp2
  go_ret
  exact ⟨rfl, _, rfl⟩
set_option maxRecDepth 100000 in
set_option maxHeartbeats 400000 in
theorem rd_err {S : List Nat} {w : World} {rb : Nat} {bv : Value} {bs : List UInt8} {s : RdS} (h : Rd S w rb bv bs s) :
    Calls Tryz.prog 18 #[.pointer (some ⟨rb, 0, none⟩)] w fun e w' => e = .returned (.tuple #[.int .i64 s.err, .int .i64 s.errAt]) ∧ DrewN w w' := by
  have hC := h.loc.cell; have hF := h.loc.frz; simp only [rdCells] at hC
  go_enter Tryz.func18, Tryz.ntmps18
  go_wp2_with (go_at_call 48; refine (rd_made (by assumption)).mono ?_; rintro e w' ⟨rfl, rfl⟩)
  go_quiet (fail)
  go_wp2
  go_ret2
  exact ⟨rfl, _, rfl⟩

set_option maxRecDepth 100000 in
set_option maxHeartbeats 400000 in
theorem rd_fail {S : List Nat} {w : World} {rb : Nat} {bv : Value} {bs : List UInt8} {s : RdS} (h : Rd S w rb bv bs s) (e0 a0 : Int) :
    Calls Tryz.prog 46 #[.pointer (some ⟨rb, 0, none⟩), .int .i64 e0, .int .i64 a0] w fun e w' => e = .returned (.tuple #[]) ∧ Rd S w' rb bv bs (s.fail e0 a0) ∧ Fr [rb] w w' := by
  have hC := h.loc.cell; have hF := h.loc.frz; simp only [rdCells] at hC
  by_cases h1 : s.err = 0
  · have g1 : (s.err == 0) = true := by simp [h1]
    by_cases h2 : e0 = 0
    · have g2 : (e0 == 0) = true := by simp [h2]
      have g3 : (e0 != 0) = false := by simp [h2]
      have hh : s.fail e0 a0 = s := by simp [RdS.fail, h2]
      have HH := Lib.hid hh
      clear h1 h2 hh
      go_enter Tryz.func46, Tryz.ntmps46
      go_wp2_with (go_at_call 85; refine (rd_reads (by assumption)).mono ?_; rintro e w' ⟨rfl, rfl⟩)
      go_end0
      exact ⟨rfl, by rw [HH.out]; exact h, Fr.refl _ _⟩
    · have g2 : (e0 == 0) = false := by simp [h2]
      have g3 : (e0 != 0) = true := by simp [h2]
      have hh : s.fail e0 a0 = { s with err := e0, errAt := a0 } := by simp [RdS.fail, h1, h2]
      have HH := Lib.hid hh
      clear h1 h2 hh
      go_enter Tryz.func46, Tryz.ntmps46
      go_wp2_with (go_at_call 85; refine (rd_reads (by assumption)).mono ?_; rintro e w' ⟨rfl, rfl⟩)
      go_end0
      have hf : Fr [rb] w ((w.setCell ⟨rb, 1, none⟩ (.int .i64 e0)).setCell ⟨rb, 2, none⟩ (.int .i64 a0)) := ((Fr.refl _ _).setCell (by simp) _).setCell (by simp) _
      refine ⟨rfl, ?_, hf⟩
      rw [HH.out]
      exact h.step hf ((h.loc.set 1 _).set 2 _) h.le
  · have g1 : (s.err == 0) = false := by simp [h1]
    have hh : s.fail e0 a0 = s := by simp [RdS.fail, h1]
    have HH := Lib.hid hh
    clear h1 hh
    go_enter Tryz.func46, Tryz.ntmps46
    go_wp2_with (go_at_call 85; refine (rd_reads (by assumption)).mono ?_; rintro e w' ⟨rfl, rfl⟩)
    go_end0
    exact ⟨rfl, by rw [HH.out]; exact h, Fr.refl _ _⟩

set_option maxRecDepth 100000 in
set_option maxHeartbeats 400000 in
theorem rd_refuse {S : List Nat} {w : World} {rb : Nat} {bv : Value} {bs : List UInt8} {s : RdS} (h : Rd S w rb bv bs s) (e0 : Int) (a0 : Nat) (ha : a0 ≤ bs.length) :
    Calls Tryz.prog 106 #[.pointer (some ⟨rb, 0, none⟩), .int .i64 e0, .int .i64 a0] w fun e w' => e = .returned (.tuple #[]) ∧ Rd S w' rb bv bs (s.refuse e0 a0) ∧ Fr [rb] w w' := by
  go_enter Tryz.func106, Tryz.ntmps106
  go_wp2_with (go_at_call 46; refine (rd_fail (by assumption) _ _).mono ?_; rintro e w1 ⟨rfl, hR1, hF1⟩; have hC1 := hR1.loc.cell; have hG1 := hR1.loc.frz; simp only [rdCells] at hC1)
  go_end0
  have hf : Fr [rb] w (w1.setCell ⟨rb, 0, none⟩ (.int .i64 a0)) := hF1.setCell (by simp) _
  exact ⟨rfl, h.step hf (hR1.loc.set 0 _) ha, hf⟩

end Go.Proofs.YtokneepfknepaaaGreatDoor

set_option linter.unusedSimpArgs false
set_option linter.unusedVariables false
namespace Go.Proofs.YtokneepfknepaaaGreatDoor

abbrev Pars (α : Type) := List UInt8 → RdS → α × RdS
def RdS.adv (s : RdS) (k : Nat) : RdS := { s with at_ := s.at_ + k }
theorem adv_zero (s : RdS) : s.adv 0 = s := rfl
theorem adv_adv (s : RdS) (a b : Nat) : (s.adv a).adv b = s.adv (a + b) := by simp [RdS.adv, Nat.add_assoc]
@[simp] theorem adv_err (s : RdS) (k : Nat) : (s.adv k).err = s.err := rfl
@[simp] theorem adv_errAt (s : RdS) (k : Nat) : (s.adv k).errAt = s.errAt := rfl
@[simp] theorem adv_at (s : RdS) (k : Nat) : (s.adv k).at_ = s.at_ + k := rfl

/-- Behind an error nothing turns. -/
def Stuck {α : Type} (F : Pars α) : Prop := ∀ bs s, s.err ≠ 0 → (F bs s).2 = s
/-- What was read without an error. -/
def Back {α : Type} (F : Pars α) (P : α → Nat → Prop) : Prop :=
  ∀ bs s, s.err = 0 → s.at_ ≤ bs.length → (F bs s).2.err = 0 → ∃ k, (F bs s).2 = s.adv k ∧ s.at_ + k ≤ bs.length ∧ P (F bs s).1 k
/-- There was an end too early. -/
def Early (s : RdS) (c : Nat) : Prop := s.err = 10 ∧ 0 ≤ s.errAt ∧ s.errAt ≤ c
def CutAt {α : Type} (F : Pars α) (bs : List UInt8) (s : RdS) (k c : Nat) : Prop :=
  (s.at_ + k ≤ c → F (bs.take c) s = F bs s) ∧ (c < s.at_ + k → Early (F (bs.take c) s).2 c)
def Cut1 {α : Type} (F : Pars α) : Prop :=
  ∀ bs s k, s.err = 0 → s.at_ ≤ bs.length → (F bs s).2 = s.adv k → ∀ c, s.at_ < c → c ≤ bs.length → CutAt F bs s k c
def Cut {α : Type} (F : Pars α) : Prop :=
  ∀ bs s k, s.err = 0 → s.at_ ≤ bs.length → (F bs s).2 = s.adv k → ∀ c, s.at_ ≤ c → c ≤ bs.length → CutAt F bs s k c

def pBind {α β : Type} (F : Pars α) (G : Nat → α → Pars β) : Pars β := fun bs s => G s.at_ (F bs s).1 bs (F bs s).2
def pMap {α β : Type} (F : Pars α) (m : α → β) : Pars β := fun bs s => (m (F bs s).1, (F bs s).2)

theorem Back.mono {α : Type} {F : Pars α} {P Q : α → Nat → Prop} (h : Back F P) (hq : ∀ x k, P x k → Q x k) : Back F Q :=
  fun bs s he ha h0 => let ⟨k, h1, h2, h3⟩ := h bs s he ha h0; ⟨k, h1, h2, hq _ _ h3⟩

theorem adv_inj {s : RdS} {a b : Nat} (h : s.adv a = s.adv b) : a = b := by
  have := congrArg RdS.at_ h; simp at this; exact this

theorem Back.bind {α β : Type} {F : Pars α} {G : Nat → α → Pars β} {P : α → Nat → Prop} {Q : α → β → Nat → Prop} (hF : Back F P) (hFs : Stuck F) (hZ : ∀ (bs : List UInt8) (s : RdS), (F bs s).2.err ≠ 0 → Stuck (G s.at_ (F bs s).1))
    (hG : ∀ a x k, P x k → Back (G a x) (Q x)) : Back (pBind F G) (fun y k => ∃ x k1 k2, k = k1 + k2 ∧ P x k1 ∧ Q x y k2) := by
  intro bs s he ha h0
  have h1 : (F bs s).2.err = 0 := by
    by_cases hc : (F bs s).2.err = 0
    · exact hc
    · have := hZ bs s hc bs (F bs s).2 hc
      unfold pBind at h0
      rw [this] at h0
      exact absurd h0 hc
  obtain ⟨k1, e1, l1, p1⟩ := hF bs s he ha h1
  obtain ⟨k2, e2, l2, p2⟩ := hG s.at_ _ _ p1 bs (F bs s).2 h1 (by rw [e1]; exact l1) h0
  refine ⟨k1 + k2, ?_, ?_, _, k1, k2, rfl, p1, p2⟩
  · unfold pBind; rw [e2, e1, adv_adv]
  · rw [e1] at l2; simp at l2; omega

theorem bind_mid {α β : Type} {F : Pars α} {G : Nat → α → Pars β} {P : α → Nat → Prop} {Q : α → β → Nat → Prop} (hF : Back F P) (hZ : ∀ (bs : List UInt8) (s : RdS), (F bs s).2.err ≠ 0 → Stuck (G s.at_ (F bs s).1))
    (hG : ∀ a x k, P x k → Back (G a x) (Q x)) {bs : List UInt8} {s : RdS} {k : Nat} (he : s.err = 0) (ha : s.at_ ≤ bs.length) (hk : (pBind F G bs s).2 = s.adv k) :
    ∃ k1 k2, k = k1 + k2 ∧ (F bs s).2 = s.adv k1 ∧ s.at_ + k1 ≤ bs.length ∧ P (F bs s).1 k1 ∧ (G s.at_ (F bs s).1 bs (s.adv k1)).2 = (s.adv k1).adv k2 := by
  have h1 : (F bs s).2.err = 0 := by
    by_cases hc : (F bs s).2.err = 0
    · exact hc
    · have := hZ bs s hc bs (F bs s).2 hc
      unfold pBind at hk
      rw [this] at hk
      rw [hk] at hc
      exact absurd he hc
  obtain ⟨k1, e1, l1, p1⟩ := hF bs s he ha h1
  unfold pBind at hk
  rw [e1] at hk
  obtain ⟨k2, e2, l2, p2⟩ := hG s.at_ _ _ p1 bs (s.adv k1) he l1 (by rw [hk]; exact he)
  refine ⟨k1, k2, ?_, e1, l1, p1, e2⟩
  rw [hk, adv_adv] at e2
  exact adv_inj e2

theorem cut_bind_at {α β : Type} {F : Pars α} {G : Nat → α → Pars β} {P : α → Nat → Prop} {Q : α → β → Nat → Prop} (hF : Back F P)
    (hZ : ∀ (bs : List UInt8) (s : RdS), (F bs s).2.err ≠ 0 → Stuck (G s.at_ (F bs s).1)) (hG : ∀ a x k, P x k → Back (G a x) (Q x)) (hGc : ∀ a x k, P x k → Cut (G a x))
    {bs : List UInt8} {s : RdS} {k c : Nat} (he : s.err = 0) (ha : s.at_ ≤ bs.length) (hk : (pBind F G bs s).2 = s.adv k) (hc : c ≤ bs.length)
    (hFc : ∀ k1, (F bs s).2 = s.adv k1 → CutAt F bs s k1 c) : CutAt (pBind F G) bs s k c := by
  obtain ⟨k1, k2, rfl, e1, l1, p1, e2⟩ := bind_mid hF hZ hG he ha hk
  obtain ⟨f1, f2⟩ := hFc k1 e1
  rcases Nat.lt_or_ge c (s.at_ + k1) with h | h
  · refine ⟨by omega, fun _ => ?_⟩
    have hE := f2 h
    unfold pBind
    rw [hZ _ _ (by rw [hE.1]; decide) (bs.take c) _ (by rw [hE.1]; decide)]
    exact hE
  · have hFe := f1 h
    have := hGc s.at_ _ _ p1 bs (s.adv k1) k2 he l1 e2 c (by simpa using h) hc
    unfold CutAt at this
    simp only [adv_at, Nat.add_assoc] at this
    unfold CutAt pBind
    rw [hFe, e1]
    simpa only [Nat.add_assoc] using this

theorem Cut.bind {α β : Type} {F : Pars α} {G : Nat → α → Pars β} {P : α → Nat → Prop} {Q : α → β → Nat → Prop} (hF : Back F P) (hFc : Cut F)
    (hZ : ∀ (bs : List UInt8) (s : RdS), (F bs s).2.err ≠ 0 → Stuck (G s.at_ (F bs s).1)) (hG : ∀ a x k, P x k → Back (G a x) (Q x)) (hGc : ∀ a x k, P x k → Cut (G a x)) : Cut (pBind F G) :=
  fun bs s _ he ha hk c hac hc => cut_bind_at hF hZ hG hGc he ha hk hc fun k1 h1 => hFc bs s k1 he ha h1 c hac hc
theorem Cut1.bind {α β : Type} {F : Pars α} {G : Nat → α → Pars β} {P : α → Nat → Prop} {Q : α → β → Nat → Prop} (hF : Back F P) (hFc : Cut1 F)
    (hZ : ∀ (bs : List UInt8) (s : RdS), (F bs s).2.err ≠ 0 → Stuck (G s.at_ (F bs s).1)) (hG : ∀ a x k, P x k → Back (G a x) (Q x)) (hGc : ∀ a x k, P x k → Cut (G a x)) : Cut1 (pBind F G) :=
  fun bs s _ he ha hk c hac hc => cut_bind_at hF hZ hG hGc he ha hk hc fun k1 h1 => hFc bs s k1 he ha h1 c hac hc

/-- The same parser, but for its value behind an error. -/
def Alike {α : Type} (F G : Pars α) : Prop := ∀ bs s, (F bs s).2 = (G bs s).2 ∧ ((G bs s).2.err = 0 → (F bs s).1 = (G bs s).1)
theorem Alike.stuck {α : Type} {F G : Pars α} (h : Alike F G) (hG : Stuck G) : Stuck F := fun bs s he => (h bs s).1.trans (hG bs s he)
theorem Alike.back {α : Type} {F G : Pars α} {P : α → Nat → Prop} (h : Alike F G) (hG : Back G P) : Back F P := fun bs s he ha h0 => by
  have h1 := h bs s
  rw [h1.1] at h0
  obtain ⟨k, a, b, c⟩ := hG bs s he ha h0
  exact ⟨k, h1.1.trans a, b, by rw [h1.2 h0]; exact c⟩
theorem Alike.cut {α : Type} {F G : Pars α} (h : Alike F G) (hG : Cut G) : Cut F := fun bs s k he ha hk c hac hc => by
  have h1 := h bs s
  rw [h1.1] at hk
  obtain ⟨a, b⟩ := hG bs s k he ha hk c hac hc
  have h2 := h (bs.take c) s
  refine ⟨fun hh => ?_, fun hh => by rw [h2.1]; exact b hh⟩
  have e := a hh
  have h0 : (G bs s).2.err = 0 := by rw [hk]; exact he
  refine Prod.ext ?_ ?_
  · rw [h2.2 (by rw [e]; exact h0), h1.2 h0, e]
  · rw [h2.1, h1.1, e]

theorem pMap_back {α β : Type} {F : Pars α} {P : α → Nat → Prop} {Q : β → Nat → Prop} (h : Back F P) (m : α → β) (hq : ∀ x k, P x k → Q (m x) k) : Back (pMap F m) Q :=
  fun bs s he ha h0 => let ⟨k, h1, h2, h3⟩ := h bs s he ha h0; ⟨k, h1, h2, hq _ _ h3⟩
theorem pMap_cut {α β : Type} {F : Pars α} (h : Cut F) (m : α → β) : Cut (pMap F m) := fun bs s k he ha hk c hac hc => by
  obtain ⟨a, b⟩ := h bs s k he ha hk c hac hc
  exact ⟨fun hh => by unfold pMap; rw [a hh], b⟩

def pRet {α : Type} (x : α) : Pars α := fun _ s => (x, s)
theorem pRet_stuck {α : Type} (x : α) : Stuck (pRet x) := fun _ _ _ => rfl
theorem pRet_back {α : Type} {x : α} {Q : α → Nat → Prop} (h : Q x 0) : Back (pRet x) Q := fun _ s _ ha _ => ⟨0, (adv_zero s).symm, by omega, h⟩
theorem pRet_cut {α : Type} (x : α) : Cut (pRet x) := fun bs s k he ha hk c hac hc => by
  have : k = 0 := by have := congrArg RdS.at_ hk; simp [pRet] at this; exact this
  subst this
  exact ⟨fun _ => rfl, fun h => by omega⟩

/-- A parser that ends in an error. -/
def Fails {α : Type} (F : Pars α) : Prop := ∀ bs s, s.err = 0 → (F bs s).2.err ≠ 0
theorem Fails.back {α : Type} {F : Pars α} (h : Fails F) (Q : α → Nat → Prop) : Back F Q := fun bs s he _ h0 => absurd h0 (h bs s he)
theorem Fails.cut {α : Type} {F : Pars α} (h : Fails F) : Cut F := fun bs s k he _ hk => absurd (by rw [hk]; exact he) (h bs s he)

/- The single readers. -/
theorem fail_stuck {s : RdS} (h : s.err ≠ 0) (e a : Int) : s.fail e a = s := by simp [RdS.fail, h]
theorem fail_ok {s : RdS} (h : s.err = 0) {e : Int} (he : e ≠ 0) (a : Int) : s.fail e a = { s with err := e, errAt := a } := by simp [RdS.fail, h, he]
theorem form_stuck {s : RdS} (h : s.err ≠ 0) (a : Nat) : s.form a = s := by simp [RdS.form, h]
theorem form_err {s : RdS} (h : s.err = 0) (a : Nat) : (s.form a).err = 60 := by simp [RdS.form, RdS.refuse, RdS.fail, h]
theorem refuse_err {s : RdS} (h : s.err = 0) {e : Int} (he : e ≠ 0) (a : Nat) : (s.refuse e a).err = e := by simp [RdS.refuse, RdS.fail, h, he]

theorem rByte_stuck : Stuck rByte := fun bs s h => by simp [rByte, h, fail_stuck h]
theorem rByte_errz (bs : List UInt8) (s : RdS) (h : (rByte bs s).2.err ≠ 0) : (rByte bs s).1 = 0 := by
  unfold rByte at h ⊢
  split at h
  · rename_i hc; exact absurd hc.1 h
  · rename_i hc; rw [if_neg hc]
theorem rByte_back : Back rByte fun x k => k = 1 ∧ x < 256 := fun bs s he ha h0 => by
  unfold rByte at h0 ⊢
  split at h0
  · rename_i hc
    rw [if_pos hc]
    exact ⟨1, rfl, by omega, rfl, by have := (bs.getD s.at_ 0).toNat_lt; omega⟩
  · rw [fail_ok he (by decide)] at h0
    simp at h0
theorem take_getD (bs : List UInt8) (i c : Nat) (h : i < c) : (bs.take c).getD i 0 = bs.getD i 0 := by
  simp [List.getD, List.getElem?_take, h]
theorem rByte_cut : Cut rByte := fun bs s k he ha hk c hac hc => by
  have hk1 : k = 1 ∧ s.at_ < bs.length := by
    unfold rByte at hk
    split at hk
    · rename_i h; exact ⟨(adv_inj (a := 1) hk).symm, h.2⟩
    · rw [fail_ok he (by decide)] at hk
      have := congrArg RdS.err hk; simp [he] at this
  obtain ⟨rfl, hl⟩ := hk1
  refine ⟨fun h => ?_, fun h => ?_⟩
  · have h1 : s.at_ < (bs.take c).length := by simp; omega
    unfold rByte
    rw [if_pos ⟨he, h1⟩, if_pos ⟨he, hl⟩, take_getD _ _ _ (by omega)]
  · have h1 : ¬ s.at_ < (bs.take c).length := by simp; omega
    unfold rByte
    rw [if_neg (fun hh => h1 hh.2), fail_ok he (by decide)]
    exact ⟨rfl, by simp, by simp; omega⟩

theorem rU_stuck (bits : Nat) : Stuck (fun bs => rU bs bits) := fun bs s h => by simp [rU, h]
theorem rS_stuck (bits : Nat) : Stuck (fun bs => rS bs bits) := fun bs s h => by simp [rS, h]
theorem rU_errz (bs : List UInt8) (bits : Nat) (s : RdS) (h : (rU bs bits s).2.err ≠ 0) : (rU bs bits s).1 = 0 := by
  unfold rU at h ⊢
  split at h
  · rename_i h0
    split at h
    · exact absurd h0 h
    · rename_i h1; rw [if_pos h0, if_neg h1]
  · rename_i h0; rw [if_neg h0]
theorem rS_errz (bs : List UInt8) (bits : Nat) (s : RdS) (h : (rS bs bits s).2.err ≠ 0) : (rS bs bits s).1 = 0 := by
  unfold rS at h ⊢
  split at h
  · rename_i h0
    split at h
    · exact absurd h0 h
    · rename_i h1; rw [if_pos h0, if_neg h1]
  · rename_i h0; rw [if_neg h0]

theorem lebRead_eq {bs : List UInt8} {at_ bits : Nat} {sg : Bool} (h : at_ ≤ bs.length) : lebRead bs at_ bits sg = lebGo sg bits (bs.drop at_) at_ 0 0 := by simp [lebRead, h]
theorem lebRead_cut {bs : List UInt8} {at_ bits : Nat} {sg : Bool} {v nx c : Nat} (h : lebRead bs at_ bits sg = (v, nx, 0)) (ha : at_ ≤ bs.length) (hac : at_ ≤ c) (hc : c ≤ bs.length) :
    lebRead (bs.take c) at_ bits sg = if c < nx then (0, 0, 10) else (v, nx, 0) := by
  rw [lebRead_eq ha] at h
  rw [lebRead_eq (by simp; omega), List.drop_take, lebGo_cut _ _ _ _ _ _ _ _ _ h]
  simp only [show at_ + (c - at_) = c by omega]

theorem rU_inv {bs : List UInt8} {bits : Nat} {s : RdS} (he : s.err = 0) (h0 : (rU bs bits s).2.err = 0) :
    ∃ v nx, lebRead bs s.at_ bits false = (v, nx, 0) ∧ rU bs bits s = (v, { s with at_ := nx }) := by
  unfold rU at h0 ⊢
  rw [if_pos he] at h0 ⊢
  split at h0
  · rename_i h1
    rw [if_pos h1]
    exact ⟨_, _, Prod.ext rfl (Prod.ext rfl h1), rfl⟩
  · rename_i h1
    rw [fail_ok he (by exact_mod_cast h1)] at h0
    exact absurd h0 (by simpa using h1)
theorem rS_inv {bs : List UInt8} {bits : Nat} {s : RdS} (he : s.err = 0) (h0 : (rS bs bits s).2.err = 0) :
    ∃ v nx, lebRead bs s.at_ bits true = (v, nx, 0) ∧ rS bs bits s = (toI64 v, { s with at_ := nx }) := by
  unfold rS at h0 ⊢
  rw [if_pos he] at h0 ⊢
  split at h0
  · rename_i h1
    rw [if_pos h1]
    exact ⟨_, _, Prod.ext rfl (Prod.ext rfl h1), rfl⟩
  · rename_i h1
    rw [fail_ok he (by exact_mod_cast h1)] at h0
    exact absurd h0 (by simpa using h1)
theorem adv_to (s : RdS) {nx : Nat} (h : s.at_ ≤ nx) : ({ s with at_ := nx } : RdS) = s.adv (nx - s.at_) := by
  simp [RdS.adv]; omega

theorem rU_back (bits : Nat) (h1 : 1 ≤ bits) (hb : bits ≤ 64) : Back (fun bs => rU bs bits) fun x k => (putU x).length ≤ k ∧ x < 2 ^ bits := fun bs s he ha h0 => by
  obtain ⟨v, nx, hr, hu⟩ := rU_inv he h0
  rw [lebRead_eq ha] at hr
  have hok := lebGo_ok _ _ _ _ _ _ _ _ hr
  obtain ⟨n, e1, e2, e3⟩ := lebGo_back_u bits hb _ _ _ _ _ _ (by omega) (by simp) hr
  simp at e1 e2
  subst e1
  refine ⟨nx - s.at_, ?_, ?_, ?_⟩
  · simp only [hu]; exact adv_to s (by omega)
  · simp at hok; omega
  · simp only [hu]; exact ⟨by omega, e2⟩
theorem rS_back (bits : Nat) (h1 : 1 ≤ bits) (hb : bits ≤ 64) : Back (fun bs => rS bs bits) fun x k => (putS x).length ≤ k ∧ -(2 ^ (bits - 1)) ≤ x ∧ x < 2 ^ (bits - 1) := fun bs s he ha h0 => by
  obtain ⟨v, nx, hr, hu⟩ := rS_inv he h0
  rw [lebRead_eq ha] at hr
  have hok := lebGo_ok _ _ _ _ _ _ _ _ hr
  obtain ⟨n, e1, e2, e3, e4⟩ := lebGo_back_s bits hb _ _ _ _ _ _ (by omega) (by simp) (by simp) hr
  simp at e1 e2 e3
  refine ⟨nx - s.at_, ?_, ?_, ?_⟩
  · simp only [hu]; exact adv_to s (by omega)
  · simp at hok; omega
  · simp only [hu, e1]; exact ⟨by omega, e2, e3⟩

theorem rU_cut (bits : Nat) : Cut (fun bs => rU bs bits) := fun bs s k he ha hk c hac hc => by
  obtain ⟨v, nx, hr, hu⟩ := rU_inv (bs := bs) (bits := bits) he (by show (rU bs bits s).2.err = 0; rw [show (rU bs bits s).2 = s.adv k from hk]; exact he)
  have hl := lebRead_eq ha ▸ hr
  have hok := lebGo_ok _ _ _ _ _ _ _ _ hl
  have hk' : s.at_ + k = nx := by
    have : (rU bs bits s).2.at_ = s.at_ + k := by rw [show (rU bs bits s).2 = s.adv k from hk]; rfl
    rw [hu] at this; simp at this; omega
  have hcut := lebRead_cut hr ha hac hc
  unfold CutAt
  rw [hk']
  refine ⟨fun h => ?_, fun h => ?_⟩
  · rw [if_neg (by omega)] at hcut
    show rU (bs.take c) bits s = rU bs bits s
    rw [hu]; simp [rU, he, hcut]
  · rw [if_pos h] at hcut
    show Early (rU (bs.take c) bits s).2 c
    simp [rU, he, hcut, fail_ok he, Early]
    omega
theorem rS_cut (bits : Nat) : Cut (fun bs => rS bs bits) := fun bs s k he ha hk c hac hc => by
  obtain ⟨v, nx, hr, hu⟩ := rS_inv (bs := bs) (bits := bits) he (by show (rS bs bits s).2.err = 0; rw [show (rS bs bits s).2 = s.adv k from hk]; exact he)
  have hl := lebRead_eq ha ▸ hr
  have hok := lebGo_ok _ _ _ _ _ _ _ _ hl
  have hk' : s.at_ + k = nx := by
    have : (rS bs bits s).2.at_ = s.at_ + k := by rw [show (rS bs bits s).2 = s.adv k from hk]; rfl
    rw [hu] at this; simp at this; omega
  have hcut := lebRead_cut hr ha hac hc
  unfold CutAt
  rw [hk']
  refine ⟨fun h => ?_, fun h => ?_⟩
  · rw [if_neg (by omega)] at hcut
    show rS (bs.take c) bits s = rS bs bits s
    rw [hu]; simp [rS, he, hcut]
  · rw [if_pos h] at hcut
    show Early (rS (bs.take c) bits s).2 c
    simp [rS, he, hcut, fail_ok he, Early]
    omega

end Go.Proofs.YtokneepfknepaaaGreatDoor

set_option linter.unusedSimpArgs false
set_option linter.unusedVariables false
namespace Go.Proofs.YtokneepfknepaaaGreatDoor
open Go.RowKit

theorem Rd.cellAt {S : List Nat} {w : World} {rb : Nat} {bv : Value} {bs : List UInt8} {s : RdS} (h : Rd S w rb bv bs s) (hlt : s.at_ < bs.length) :
    ∃ b off cap, bv = .slice (some ⟨b, off, none⟩) bs.length cap ∧ w.cell? ⟨b, off + s.at_, none⟩ = some (.int .u8 ((bs.getD s.at_ 0).toNat : Int)) := by
  obtain ⟨_, _, a, cap, hbv, _, _, _, h6⟩ := h.sl
  rcases h6 with h0 | ⟨b, off, rfl, _, _, hc⟩
  · omega
  · refine ⟨b, off, cap, hbv, ?_⟩
    rw [hc _ (by omega)]
    simp [B, hlt]

theorem drewN_two (w : World) (a b : Nat) : (w.drewN a).drewN b = w.drewN (a + b) := by simp [World.drewN, Nat.add_assoc]
def peekV (bs : List UInt8) (s : RdS) : Bool := decide (s.err = 0 ∧ s.at_ < bs.length)
set_option maxRecDepth 100000 in
set_option maxHeartbeats 800000 in
theorem rd_peek {S : List Nat} {w : World} {rb : Nat} {bv : Value} {bs : List UInt8} {s : RdS} (h : Rd S w rb bv bs s) :
    Calls Tryz.prog 104 #[.pointer (some ⟨rb, 0, none⟩)] w fun e w' => e = .returned (.tuple #[.int .u8 (rPeek bs s : Nat), .bool (peekV bs s)]) ∧ DrewN w w' := by
  have hC := h.loc.cell; have hF := h.loc.frz; simp only [rdCells] at hC
  have hle := h.le
  have hsm := h.small
  by_cases h1 : s.err = 0
  · have g1 : (s.err == 0) = true := by simp [h1]
    by_cases h2 : s.at_ < bs.length
    · obtain ⟨b, off, cap, hbv, hc⟩ := h.cellAt h2
      have hp : rPeek bs s = (bs.getD s.at_ 0).toNat := by unfold rPeek; rw [if_pos ⟨h1, h2⟩]
      have hv : peekV bs s = true := by simp [peekV, h1, h2]
      have g2 : decide (bs.length ≤ s.at_) = false := by simp; omega
      rw [hv, hp]
      clear h1 hp hv
      generalize (bs.getD s.at_ 0).toNat = c at hc ⊢
      subst hbv
      go_enter Tryz.func104, Tryz.ntmps104
      go_wp2_with fail
      go_quiet ((go_at_call 85; exact Calls.quiet_of_same ((rd_reads (h.drewN _)).mono fun e w' hh => ⟨hh.1, hh.2.symm⟩)))
      go_wp2
      go_quiet (fail)
      go_wp2
      go_ret2
      exact ⟨rfl, _, drewN_two _ _ _⟩
    · have hp : rPeek bs s = 0 := by unfold rPeek; rw [if_neg (fun hh => h2 hh.2)]
      have hv : peekV bs s = false := by simp [peekV, h2]
      have g2 : decide (bs.length ≤ s.at_) = true := by simp; omega
      rw [hv, hp]
      clear h1 hp hv h2
      obtain ⟨a, cap, hbv, _⟩ := h.sl.2.2
      subst hbv
      go_enter Tryz.func104, Tryz.ntmps104
      go_wp2_with fail
      go_quiet ((go_at_call 85; exact Calls.quiet_of_same ((rd_reads (h.drewN _)).mono fun e w' hh => ⟨hh.1, hh.2.symm⟩)))
      go_wp2
      go_ret2
      exact ⟨rfl, _, rfl⟩
  · have g1 : (s.err == 0) = false := by simp [h1]
    have hp : rPeek bs s = 0 := by unfold rPeek; rw [if_neg (fun hh => h1 hh.1)]
    have hv : peekV bs s = false := by simp [peekV, h1]
    rw [hv, hp]
    clear h1 hp hv
    go_enter Tryz.func104, Tryz.ntmps104
    go_wp2_with fail
    go_quiet ((go_at_call 85; exact Calls.quiet_of_same ((rd_reads (h.drewN _)).mono fun e w' hh => ⟨hh.1, hh.2.symm⟩)))
    go_wp2
    go_ret2
    exact ⟨rfl, _, rfl⟩

theorem Fr.of_drewN (S : List Nat) (w : World) (n : Nat) : Fr S w (w.drewN n) := (Fr.refl S w).drewN n
set_option maxRecDepth 100000 in
set_option maxHeartbeats 800000 in
theorem rd_byte {S : List Nat} {w : World} {rb : Nat} {bv : Value} {bs : List UInt8} {s : RdS} (h : Rd S w rb bv bs s) :
    Calls Tryz.prog 97 #[.pointer (some ⟨rb, 0, none⟩)] w fun e w' => e = .returned (.int .u8 ((rByte bs s).1 : Nat)) ∧ Rd S w' rb bv bs (rByte bs s).2 ∧ Fr [rb] w w' := by
  have hC := h.loc.cell; have hF := h.loc.frz; simp only [rdCells] at hC
  have hle := h.le
  have hsm := h.small
  by_cases h1 : s.err = 0 ∧ s.at_ < bs.length
  · have hv : peekV bs s = true := by simp [peekV, h1]
    have hp : rByte bs s = (rPeek bs s, s.next) := by unfold rByte rPeek; rw [if_pos h1, if_pos h1]
    have hs : s.next.at_ ≤ bs.length := by simp [RdS.next]; omega
    rw [hp]
    clear hp h1
    go_enter Tryz.func97, Tryz.ntmps97
    go_wp2_with (go_at_call 104; refine (rd_peek (by assumption)).mono ?_; rintro e w' ⟨rfl, nq, rfl⟩)
    go_ret
    have hf : Fr [rb] w ((w.drewN nq).setCell ⟨rb, 0, none⟩ (.int .i64 (s.at_ + 1))) := (Fr.of_drewN _ _ _).setCell (by simp) _
    exact ⟨rfl, h.step hf ((h.loc.drewN nq).set 0 _) hs, hf⟩
  · have hv : peekV bs s = false := by simp [peekV]; omega
    have hp : rByte bs s = (0, s.fail 10 s.at_) := by unfold rByte; rw [if_neg h1]
    have hr := h.drewN
    rw [hp]
    clear hp h1
    go_enter Tryz.func97, Tryz.ntmps97
    go_wp2_with first | (go_at_call 104; refine (rd_peek (by assumption)).mono ?_; rintro e w' ⟨rfl, nq, rfl⟩) | (go_at_call 43; refine (rd_at (hr _)).mono ?_; rintro e w' ⟨rfl, rfl⟩) | (go_at_call 46; refine (rd_fail (hr _) _ _).mono ?_; rintro e w1 ⟨rfl, hR1, hF1⟩)
    go_ret
    exact ⟨rfl, hR1, (Fr.of_drewN _ _ _).trans hF1⟩

set_option maxRecDepth 100000 in
set_option maxHeartbeats 400000 in
theorem rd_form {S : List Nat} {w : World} {rb : Nat} {bv : Value} {bs : List UInt8} {s : RdS} (h : Rd S w rb bv bs s) (a0 : Nat) (ha : a0 ≤ bs.length) :
    Calls Tryz.prog 118 #[.pointer (some ⟨rb, 0, none⟩), .int .i64 a0] w fun e w' => e = .returned (.tuple #[]) ∧ Rd S w' rb bv bs (s.form a0) ∧ Fr [rb] w w' := by
  by_cases h1 : s.err = 0
  · have g1 : (s.err == 0) = true := by simp [h1]
    have hh : s.form a0 = s.refuse 60 a0 := by simp [RdS.form, h1]
    rw [hh]
    clear h1 hh
    go_enter Tryz.func118, Tryz.ntmps118
    go_wp2_with first | (go_at_call 85; refine (rd_reads (by assumption)).mono ?_; rintro e w' ⟨rfl, rfl⟩) | (go_at_call 106; refine (rd_refuse (by assumption) _ _ ha).mono ?_; rintro e w1 ⟨rfl, hR1, hF1⟩)
    go_end0
    exact ⟨rfl, hR1, hF1⟩
  · have g1 : (s.err == 0) = false := by simp [h1]
    have hh : s.form a0 = s := by simp [RdS.form, h1]
    rw [hh]
    clear h1 hh
    go_enter Tryz.func118, Tryz.ntmps118
    go_wp2_with (go_at_call 85; refine (rd_reads (by assumption)).mono ?_; rintro e w' ⟨rfl, rfl⟩)
    go_end0
    exact ⟨rfl, h, Fr.refl _ _⟩

end Go.Proofs.YtokneepfknepaaaGreatDoor

set_option linter.unusedSimpArgs false
set_option linter.unusedVariables false
namespace Go.Proofs.YtokneepfknepaaaGreatDoor
open Go.RowKit

set_option maxRecDepth 100000 in
set_option maxHeartbeats 400000 in
theorem u1_any (S : List Nat) (bv : Value) (bs : List UInt8) (at_ nb cb : Nat) (w : World) (hb : Sl S w 1 bv bs.length (bs.map B)) (hlen : bs.length ≤ 1099511627776) (hat : at_ ≤ bs.length) (h1 : 1 ≤ nb) (h2 : nb ≤ 64)
    (hc : w.cell? ⟨cb, 0, none⟩ = some (.int .i64 nb)) :
    Calls Tryz.prog 112 #[bv, .int .i64 at_, .pointer (some ⟨cb, 0, none⟩)] w fun e w' =>
      e = .returned (.tuple #[.int .u64 (lebRead bs at_ nb false).1, .int .i64 (lebRead bs at_ nb false).2.1, .int .i64 (lebRead bs at_ nb false).2.2]) ∧ w = w' := by
  go_enter Tryz.func112, Tryz.ntmps112
  go_wp2_with (go_at_call 113; refine (lebU_any S _ bs _ _ _ hb hlen hat h1 h2).mono ?_; rintro e w' ⟨rfl, rfl⟩)
  go_ret3
  exact ⟨rfl, rfl⟩
set_option maxRecDepth 100000 in
set_option maxHeartbeats 400000 in
theorem s1_any (S : List Nat) (bv : Value) (bs : List UInt8) (at_ nb cb : Nat) (w : World) (hb : Sl S w 1 bv bs.length (bs.map B)) (hlen : bs.length ≤ 1099511627776) (hat : at_ ≤ bs.length) (h1 : 1 ≤ nb) (h2 : nb ≤ 64)
    (hc : w.cell? ⟨cb, 0, none⟩ = some (.int .i64 nb)) :
    Calls Tryz.prog 102 #[bv, .int .i64 at_, .pointer (some ⟨cb, 0, none⟩)] w fun e w' =>
      e = .returned (.tuple #[.int .i64 (toI64 (lebRead bs at_ nb true).1), .int .i64 (lebRead bs at_ nb true).2.1, .int .i64 (lebRead bs at_ nb true).2.2]) ∧ w = w' := by
  go_enter Tryz.func102, Tryz.ntmps102
  go_wp2_with (go_at_call 103; refine (lebS_any S _ bs _ _ _ hb hlen hat h1 h2).mono ?_; rintro e w' ⟨rfl, rfl⟩)
  go_ret3
  exact ⟨rfl, rfl⟩

theorem lebRead_le {bs : List UInt8} {at_ nb : Nat} {sg : Bool} (ha : at_ ≤ bs.length) (h0 : (lebRead bs at_ nb sg).2.2 = 0) : (lebRead bs at_ nb sg).2.1 ≤ bs.length := by
  rw [lebRead_eq ha] at h0 ⊢
  generalize hq : lebGo sg nb (bs.drop at_) at_ 0 0 = q at h0 ⊢
  obtain ⟨v, nx, er⟩ := q
  simp only at h0 ⊢
  subst h0
  have := lebGo_ok _ _ _ _ _ _ _ _ hq
  simp only [List.length_drop] at this
  omega

set_option maxRecDepth 100000 in
set_option maxHeartbeats 800000 in
theorem item_u {S : List Nat} {w : World} {rb : Nat} {bv : Value} {bs : List UInt8} {s : RdS} (h : Rd S w rb bv bs s) (cb nb : Nat) (h1 : 1 ≤ nb) (h2 : nb ≤ 64) (hc : w.cell? ⟨cb, 0, none⟩ = some (.int .i64 nb)) :
    Calls Tryz.prog 111 #[.pointer (some ⟨rb, 0, none⟩), .func (.func 112) #[] #[.pointer (some ⟨cb, 0, none⟩)]] w fun e w' =>
      e = .returned (.int .u64 ((rU bs nb s).1 : Nat)) ∧ Rd S w' rb bv bs (rU bs nb s).2 ∧ Fr [rb] w w' := by
  have hC := h.loc.cell; have hF := h.loc.frz; simp only [rdCells] at hC
  have hle := h.le
  have hsm := h.small
  by_cases he : s.err = 0
  · have g1 : (s.err == 0) = true := by simp [he]
    by_cases hr : (lebRead bs s.at_ nb false).2.2 = 0
    · have hp : rU bs nb s = ((lebRead bs s.at_ nb false).1, { s with at_ := (lebRead bs s.at_ nb false).2.1 }) := by unfold rU; rw [if_pos he, if_pos hr]
      have hnx := lebRead_le hle hr
      have hcon := fun n => u1_any S bv bs s.at_ nb cb (w.drewN n) (h.drewN n).sl hsm hle h1 h2 hc
      rw [hp]
      generalize lebRead bs s.at_ nb false = q at hcon hr hnx ⊢
      obtain ⟨v, nx, er⟩ := q
      simp only at hcon hr hnx ⊢
      subst hr
      have Hcon := Lib.hid hcon
      clear hp hcon
      go_enter Tryz.func111, Tryz.ntmps111
      go_wp2_with (go_at_call 85; refine (rd_reads (by assumption)).mono ?_; rintro e w' ⟨rfl, rfl⟩)
      go_quiet ((go_at_call 112; exact Calls.quiet_of_same ((Hcon.out _).mono fun e w' hh => ⟨hh.1, hh.2.symm⟩)))
      go_wp2
      go_ret
      have hf : Fr [rb] w ((w.drewN nq).setCell ⟨rb, 0, none⟩ (.int .i64 nx)) := (Fr.of_drewN _ _ _).setCell (by simp) _
      exact ⟨rfl, h.step hf ((h.loc.drewN nq).set 0 _) hnx, hf⟩
    · have hp : rU bs nb s = (0, s.fail (lebRead bs s.at_ nb false).2.2 s.at_) := by unfold rU; rw [if_pos he, if_neg hr]
      have hcon := fun n => u1_any S bv bs s.at_ nb cb (w.drewN n) (h.drewN n).sl hsm hle h1 h2 hc
      rw [hp]
      generalize lebRead bs s.at_ nb false = q at hcon hr ⊢
      obtain ⟨v, nx, er⟩ := q
      simp only at hcon hr ⊢
      have hr2 : ((er : Int) != 0) = true := by simp; omega
      have hr3 : ((er : Int) == 0) = false := by simp; omega
      have Hcon := Lib.hid hcon
      have Hd := h.drewN
      clear hp hcon hr
      go_enter Tryz.func111, Tryz.ntmps111
      go_wp2_with (go_at_call 85; refine (rd_reads (by assumption)).mono ?_; rintro e w' ⟨rfl, rfl⟩)
      go_quiet ((go_at_call 112; exact Calls.quiet_of_same ((Hcon.out _).mono fun e w' hh => ⟨hh.1, hh.2.symm⟩)))
      go_wp2_with (go_at_call 46; refine (rd_fail (Hd _) _ _).mono ?_; rintro e w1 ⟨rfl, hR1, hF1⟩)
      go_ret
      exact ⟨rfl, hR1, (Fr.of_drewN _ _ _).trans hF1⟩
  · have g1 : (s.err == 0) = false := by simp [he]
    have hp : rU bs nb s = (0, s) := by unfold rU; rw [if_neg he]
    rw [hp]
    clear hp he
    go_enter Tryz.func111, Tryz.ntmps111
    go_wp2_with (go_at_call 85; refine (rd_reads (by assumption)).mono ?_; rintro e w' ⟨rfl, rfl⟩)
    go_ret
    exact ⟨rfl, h, Fr.refl _ _⟩

set_option maxRecDepth 100000 in
set_option maxHeartbeats 800000 in
theorem item_s {S : List Nat} {w : World} {rb : Nat} {bv : Value} {bs : List UInt8} {s : RdS} (h : Rd S w rb bv bs s) (cb nb : Nat) (h1 : 1 ≤ nb) (h2 : nb ≤ 64) (hc : w.cell? ⟨cb, 0, none⟩ = some (.int .i64 nb)) :
    Calls Tryz.prog 101 #[.pointer (some ⟨rb, 0, none⟩), .func (.func 102) #[] #[.pointer (some ⟨cb, 0, none⟩)]] w fun e w' =>
      e = .returned (.int .i64 (rS bs nb s).1) ∧ Rd S w' rb bv bs (rS bs nb s).2 ∧ Fr [rb] w w' := by
  have hC := h.loc.cell; have hF := h.loc.frz; simp only [rdCells] at hC
  have hle := h.le
  have hsm := h.small
  by_cases he : s.err = 0
  · have g1 : (s.err == 0) = true := by simp [he]
    by_cases hr : (lebRead bs s.at_ nb true).2.2 = 0
    · have hp : rS bs nb s = (toI64 (lebRead bs s.at_ nb true).1, { s with at_ := (lebRead bs s.at_ nb true).2.1 }) := by unfold rS; rw [if_pos he, if_pos hr]
      have hnx := lebRead_le hle hr
      have hcon := fun n => s1_any S bv bs s.at_ nb cb (w.drewN n) (h.drewN n).sl hsm hle h1 h2 hc
      rw [hp]
      generalize lebRead bs s.at_ nb true = q at hcon hr hnx ⊢
      obtain ⟨v, nx, er⟩ := q
      simp only at hcon hr hnx ⊢
      subst hr
      have Hcon := Lib.hid hcon
      clear hp hcon
      go_enter Tryz.func101, Tryz.ntmps101
      go_wp2_with (go_at_call 85; refine (rd_reads (by assumption)).mono ?_; rintro e w' ⟨rfl, rfl⟩)
      go_quiet ((go_at_call 102; exact Calls.quiet_of_same ((Hcon.out _).mono fun e w' hh => ⟨hh.1, hh.2.symm⟩)))
      go_wp2
      go_ret
      have hf : Fr [rb] w ((w.drewN nq).setCell ⟨rb, 0, none⟩ (.int .i64 nx)) := (Fr.of_drewN _ _ _).setCell (by simp) _
      exact ⟨rfl, h.step hf ((h.loc.drewN nq).set 0 _) hnx, hf⟩
    · have hp : rS bs nb s = (0, s.fail (lebRead bs s.at_ nb true).2.2 s.at_) := by unfold rS; rw [if_pos he, if_neg hr]
      have hcon := fun n => s1_any S bv bs s.at_ nb cb (w.drewN n) (h.drewN n).sl hsm hle h1 h2 hc
      rw [hp]
      generalize lebRead bs s.at_ nb true = q at hcon hr ⊢
      obtain ⟨v, nx, er⟩ := q
      simp only at hcon hr ⊢
      have hr2 : ((er : Int) != 0) = true := by simp; omega
      have hr3 : ((er : Int) == 0) = false := by simp; omega
      have Hcon := Lib.hid hcon
      have Hd := h.drewN
      clear hp hcon hr
      go_enter Tryz.func101, Tryz.ntmps101
      go_wp2_with (go_at_call 85; refine (rd_reads (by assumption)).mono ?_; rintro e w' ⟨rfl, rfl⟩)
      go_quiet ((go_at_call 102; exact Calls.quiet_of_same ((Hcon.out _).mono fun e w' hh => ⟨hh.1, hh.2.symm⟩)))
      go_wp2_with (go_at_call 46; refine (rd_fail (Hd _) _ _).mono ?_; rintro e w1 ⟨rfl, hR1, hF1⟩)
      go_ret
      exact ⟨rfl, hR1, (Fr.of_drewN _ _ _).trans hF1⟩
  · have g1 : (s.err == 0) = false := by simp [he]
    have hp : rS bs nb s = (0, s) := by unfold rS; rw [if_neg he]
    rw [hp]
    clear hp he
    go_enter Tryz.func101, Tryz.ntmps101
    go_wp2_with (go_at_call 85; refine (rd_reads (by assumption)).mono ?_; rintro e w' ⟨rfl, rfl⟩)
    go_ret
    exact ⟨rfl, h, Fr.refl _ _⟩


set_option maxRecDepth 100000 in
set_option maxHeartbeats 400000 in
theorem rd_u {S : List Nat} {w : World} {rb : Nat} {bv : Value} {bs : List UInt8} {s : RdS} (h : Rd S w rb bv bs s) (nb : Nat) (h1 : 1 ≤ nb) (h2 : nb ≤ 64) :
    Calls Tryz.prog 98 #[.pointer (some ⟨rb, 0, none⟩), .int .i64 nb] w fun e w' => e = .returned (.int .u64 ((rU bs nb s).1 : Nat)) ∧ Rd S w' rb bv bs (rU bs nb s).2 ∧ Fr [rb] w w' := by
  have hmf : ∀ (fn : Fn) (first cap : Array Value) (w : World), (Instr.makeFunc fn first cap).run Tryz.prog w = .ok (.func fn first cap) w := fun _ _ _ _ => rfl
  have hc : (w.alloc (.cells #[.int .i64 nb] 3)).cell? ⟨w.heap.size, 0, none⟩ = some (.int .i64 nb) := by simp
  have hH := h.alloc (.cells #[.int .i64 nb] 3)
  go_enter Tryz.func98, Tryz.ntmps98
  go_wp2_with (go_at_call 111; refine (item_u hH w.heap.size nb h1 h2 hc).mono ?_; rintro e w' ⟨rfl, hR1, hF1⟩)
  go_ret
  exact ⟨rfl, hR1, ((Fr.refl _ _).alloc _).trans hF1⟩
set_option maxRecDepth 100000 in
set_option maxHeartbeats 400000 in
theorem rd_s {S : List Nat} {w : World} {rb : Nat} {bv : Value} {bs : List UInt8} {s : RdS} (h : Rd S w rb bv bs s) (nb : Nat) (h1 : 1 ≤ nb) (h2 : nb ≤ 64) :
    Calls Tryz.prog 78 #[.pointer (some ⟨rb, 0, none⟩), .int .i64 nb] w fun e w' => e = .returned (.int .i64 (rS bs nb s).1) ∧ Rd S w' rb bv bs (rS bs nb s).2 ∧ Fr [rb] w w' := by
  have hmf : ∀ (fn : Fn) (first cap : Array Value) (w : World), (Instr.makeFunc fn first cap).run Tryz.prog w = .ok (.func fn first cap) w := fun _ _ _ _ => rfl
  have hc : (w.alloc (.cells #[.int .i64 nb] 3)).cell? ⟨w.heap.size, 0, none⟩ = some (.int .i64 nb) := by simp
  have hH := h.alloc (.cells #[.int .i64 nb] 3)
  go_enter Tryz.func78, Tryz.ntmps78
  go_wp2_with (go_at_call 101; refine (item_s hH w.heap.size nb h1 h2 hc).mono ?_; rintro e w' ⟨rfl, hR1, hF1⟩)
  go_ret
  exact ⟨rfl, hR1, ((Fr.refl _ _).alloc _).trans hF1⟩

theorem rU_lt (bs : List UInt8) (nb : Nat) (s : RdS) : (rU bs nb s).1 < 18446744073709551616 := by
  unfold rU
  split
  · split
    · exact lebRead_lt _ _ _ _
    · simp
  · simp

set_option maxRecDepth 100000 in
set_option maxHeartbeats 800000 in
theorem rd_count {S : List Nat} {w : World} {rb : Nat} {bv : Value} {bs : List UInt8} {s : RdS} (h : Rd S w rb bv bs s) :
    Calls Tryz.prog 100 #[.pointer (some ⟨rb, 0, none⟩)] w fun e w' => e = .returned (.int .i64 ((rCount bs s).1 : Nat)) ∧ Rd S w' rb bv bs (rCount bs s).2 ∧ Fr [rb] w w' := by
  have ha0 := h.le
  have hlt := rU_lt bs 32 s
  by_cases hg : bs.length - (rU bs 32 s).2.at_ < (rU bs 32 s).1
  · have hp : rCount bs s = (0, (rU bs 32 s).2.refuse 10 s.at_) := by unfold rCount; rw [if_pos hg]
    rw [hp]
    clear hp
    go_enter Tryz.func100, Tryz.ntmps100
    go_wp2_with first | (go_at_call 43; refine (rd_at (by assumption)).mono ?_; rintro e w' ⟨rfl, rfl⟩) | (go_at_call 98; refine (rd_u h 32 (by decide) (by decide)).mono ?_; rintro e w1 ⟨rfl, hR1, hF1⟩) | fail
    have hd := hR1.drewN
    have hle1 := hR1.le
    have hsm := hR1.small
    have hg2 : ((bs.length : Int) - ((rU bs 32 s).2.at_ : Int) < ((rU bs 32 s).1 : Int)) := by omega
    go_wp2_with first | (go_at_call 114; refine (rd_left (by assumption)).mono ?_; rintro e w' ⟨rfl, nq, rfl⟩) | (go_at_call 106; refine (rd_refuse (hd _) _ _ ha0).mono ?_; rintro e w2 ⟨rfl, hR2, hF2⟩)
    go_ret
    exact ⟨rfl, hR2, (hF1.drewN _).trans hF2⟩
  · have hp : rCount bs s = rU bs 32 s := by unfold rCount; rw [if_neg hg]
    rw [hp]
    clear hp
    go_enter Tryz.func100, Tryz.ntmps100
    go_wp2_with first | (go_at_call 43; refine (rd_at (by assumption)).mono ?_; rintro e w' ⟨rfl, rfl⟩) | (go_at_call 98; refine (rd_u h 32 (by decide) (by decide)).mono ?_; rintro e w1 ⟨rfl, hR1, hF1⟩) | fail
    have hd := hR1.drewN
    have hle1 := hR1.le
    have hsm := hR1.small
    have hg2 : ¬ ((bs.length : Int) - ((rU bs 32 s).2.at_ : Int) < ((rU bs 32 s).1 : Int)) := by omega
    have hg3 : ((rU bs 32 s).1 : Int) ≤ 1099511627776 := by omega
    go_wp2_with (go_at_call 114; refine (rd_left (by assumption)).mono ?_; rintro e w' ⟨rfl, nq, rfl⟩)
    go_ret
    exact ⟨rfl, hd _, hF1.drewN _⟩

end Go.Proofs.YtokneepfknepaaaGreatDoor

set_option linter.unusedSimpArgs false
set_option linter.unusedVariables false
namespace Go.Proofs.YtokneepfknepaaaGreatDoor

/-- The value behind an error is z. -/
def pTold {α β : Type} (F : Pars α) (z : β) (m : α → β) : Pars β := fun bs s => ((F bs s).2.told z (m (F bs s).1), (F bs s).2)
theorem pTold_alike {α β : Type} (F : Pars α) (z : β) (m : α → β) : Alike (pTold F z m) (pMap F m) := fun bs s => ⟨rfl, fun h => by
  have h : (F bs s).2.err = 0 := h
  simp [pTold, pMap, RdS.told, h]⟩
theorem peek_stuck {s : RdS} (bs : List UInt8) (h : s.err ≠ 0) : rPeek bs s = 0 := by simp [rPeek, h]
theorem peek_pos {s : RdS} {bs : List UInt8} (h : rPeek bs s ≠ 0) : s.err = 0 ∧ s.at_ < bs.length ∧ rPeek bs s = (bs.getD s.at_ 0).toNat := by
  unfold rPeek at h ⊢
  split at h
  · rename_i hc; rw [if_pos hc]; exact ⟨hc.1, hc.2, rfl⟩
  · exact absurd rfl h
theorem peek_cut {bs : List UInt8} {s : RdS} {c : Nat} (h : s.at_ < c) (hc : c ≤ bs.length) : rPeek (bs.take c) s = rPeek bs s := by
  unfold rPeek
  rw [take_getD _ _ _ h]
  have h1 : (s.at_ < (bs.take c).length) := by simp; omega
  have h2 : s.at_ < bs.length := by omega
  by_cases he : s.err = 0
  · rw [if_pos ⟨he, h1⟩, if_pos ⟨he, h2⟩]
  · rw [if_neg (fun h => he h.1), if_neg (fun h => he h.1)]
theorem peek_end {bs : List UInt8} {s : RdS} {c : Nat} (h : c ≤ s.at_) : rPeek (bs.take c) s = 0 := by
  unfold rPeek
  rw [if_neg]
  simp; omega

theorem givenK_lt {c : Nat} (h : givenK c ≠ 0) : 105 ≤ c ∧ c ≤ 116 := by
  unfold givenK at h
  split at h
  · exact absurd rfl h
  · omega
theorem givenK_facts {c : Nat} (h : givenK c ≠ 0) : 1 ≤ givenK c ∧ givenK c ≤ 12 ∧ heapByte (givenK c) = [UInt8.ofNat c] ∧ (UInt8.ofNat c).toNat = c := by
  have h2 := givenK_lt h
  have : c = 105 ∨ c = 106 ∨ c = 107 ∨ c = 108 ∨ c = 109 ∨ c = 110 ∨ c = 111 ∨ c = 112 ∨ c = 113 ∨ c = 114 ∨ c = 115 ∨ c = 116 := by omega
  rcases this with rfl | rfl | rfl | rfl | rfl | rfl | rfl | rfl | rfl | rfl | rfl | rfl <;> decide

def plainHeap (h : HeapT) : Bool := givenH h || indexedH h
def HeapP (h : HeapT) (k : Nat) : Prop := plainHeap h = true ∧ (pHeap h).length ≤ k ∧ 1 ≤ k

theorem rHeap_stuck : Stuck rHeap := fun bs s h => by
  unfold rHeap
  have h2 := rS_stuck 33 bs s h
  simp only at h2
  have h1 : (rS bs 33 s).1 = 0 := by simp [rS, h]
  simp [peek_stuck bs h, givenK, h1, h2]
theorem rHeap_back : Back rHeap HeapP := fun bs s he ha h0 => by
  unfold rHeap at h0 ⊢
  split at h0
  · rename_i h1
    simp only [if_pos h1]
    split at h0
    · rename_i h2
      by_cases h3 : (rS bs 33 s).2.err = 0
      · rw [show ((rS bs 33 s).2.refuse 60 s.at_).err = 60 from refuse_err h3 (by decide) _] at h0
        cases h0
      · rw [rS_errz bs 33 s h3] at h2
        exact absurd h2 (by decide)
    · rename_i h2
      simp only [if_neg h2]
      obtain ⟨k, e, l, p1, p2, p3⟩ := rS_back 33 (by decide) (by decide) bs s he ha h0
      simp only at e p1 p2 p3
      refine ⟨k, e, l, ?_⟩
      have h0' : (rS bs 33 s).2.err = 0 := h0
      simp only [RdS.told, if_pos h0', HeapP]
      refine ⟨?_, by simpa [pHeap] using p1, by have := putS_pos (rS bs 33 s).1; omega⟩
      simp only [plainHeap, indexedH, Bool.or_eq_true, decide_eq_true_eq]
      right
      have p3 : (rS bs 33 s).1 < 4294967296 := by simpa using p3
      refine ⟨trivial, by omega, by omega⟩
  · rename_i h1
    simp only [if_neg h1]
    have := peek_pos (s := s) (bs := bs) (fun h0 => h1 (by rw [h0]; rfl))
    obtain ⟨f1, f2, f3, _⟩ := givenK_facts h1
    refine ⟨1, rfl, by omega, ?_, ?_, by omega⟩
    · simp [plainHeap, givenH, f1, f2]
    · simp only [pHeap]
      rw [if_neg (by omega), f3]; simp
theorem rHeap_cut : Cut rHeap := fun bs s k he ha hk c hac hc => by
  by_cases h1 : givenK (rPeek bs s) = 0
  · have hS : (rHeap bs s).2.err = 0 := by rw [hk]; exact he
    have h2 : ¬ (rS bs 33 s).1 < 0 := by
      intro h2
      unfold rHeap at hS
      rw [if_pos h1, if_pos h2] at hS
      by_cases h3 : (rS bs 33 s).2.err = 0
      · rw [show ((rS bs 33 s).2.refuse 60 s.at_).err = 60 from refuse_err h3 (by decide) _] at hS
        cases hS
      · rw [rS_errz bs 33 s h3] at h2
        exact absurd h2 (by decide)
    have hk2 : (rS bs 33 s).2 = s.adv k := by
      unfold rHeap at hk
      rw [if_pos h1, if_neg h2] at hk
      exact hk
    have hp : givenK (rPeek (bs.take c) s) = 0 := by
      rcases Nat.lt_or_ge s.at_ c with h | h
      · rw [peek_cut h hc]; exact h1
      · rw [peek_end h]; rfl
    obtain ⟨a, b⟩ := rS_cut 33 bs s k he ha hk2 c hac hc
    refine ⟨fun h => ?_, fun h => ?_⟩
    · have a := a h
      simp only at a
      unfold rHeap
      rw [if_pos h1, if_pos hp, a]
    · have b := b h
      simp only at b
      have h3 : (rS (bs.take c) 33 s).2.err ≠ 0 := by rw [b.1]; decide
      have h4 := rS_errz _ _ _ h3
      unfold rHeap
      rw [if_pos hp, if_neg (by rw [h4]; decide)]
      exact b
  · have h2 := peek_pos (s := s) (bs := bs) (fun h0 => h1 (by rw [h0]; rfl))
    have hk1 : k = 1 := by
      unfold rHeap at hk
      rw [if_neg h1] at hk
      exact (adv_inj (a := 1) hk).symm
    subst hk1
    refine ⟨fun h => ?_, fun h => ?_⟩
    · unfold rHeap; rw [peek_cut (by omega) hc, if_neg h1, if_neg h1]
    · have hp : rPeek (bs.take c) s = 0 := peek_end (by omega)
      have hl : lebRead (bs.take c) s.at_ 33 true = (0, 0, 10) := by
        rw [lebRead_eq (by simp; omega), List.drop_eq_nil_of_le (by simp; omega)]; rfl
      have hr : rS (bs.take c) 33 s = (0, { s with err := 10, errAt := s.at_ }) := by simp [rS, he, hl, fail_ok he]
      unfold rHeap
      rw [hp, if_pos (by rfl), hr]
      simp [Early]; omega

def ValP (v : ValT) (k : Nat) : Prop := plainVal v = true ∧ (pVal v).length ≤ k ∧ 1 ≤ k

def rValG (a c : Nat) : Pars ValT :=
  if c = 127 then pRet ⟨1, false, ⟨0, 0⟩⟩
  else if c = 126 then pRet ⟨2, false, ⟨0, 0⟩⟩
  else if c = 100 ∨ c = 99 then pTold rHeap ValT.zero fun h => ⟨3, c == 99, h⟩
  else if c = 125 ∨ c = 124 ∨ c = 123 then fun _ s => (ValT.zero, s.refuse 61 a)
  else if givenK c = 0 then fun _ s => (ValT.zero, s.form a)
  else pRet ⟨3, true, ⟨givenK c, 0⟩⟩
theorem rVal_bind : rVal = pBind rByte rValG := by
  funext bs s
  unfold rVal pBind rValG
  generalize (rByte bs s).1 = c
  generalize (rByte bs s).2 = s'
  split
  · rfl
  · split
    · rfl
    · split
      · rfl
      · split
        · rfl
        · split <;> rfl

def ValQ (c : Nat) (v : ValT) (k : Nat) : Prop := plainVal v = true ∧ (pVal v).length ≤ 1 + k
theorem rValG_back (a c : Nat) : Back (rValG a c) (ValQ c) := by
  unfold rValG
  split
  · exact pRet_back ⟨by decide, by decide⟩
  · split
    · exact pRet_back ⟨by decide, by decide⟩
    · split
      · refine (pTold_alike _ _ _).back (pMap_back rHeap_back _ fun h k ⟨h1, h2, _⟩ => ⟨?_, ?_⟩)
        · simpa [plainVal, plainHeap] using h1
        · simp [pVal]
          repeat' split
          all_goals (try simp only [List.length_cons])
          all_goals omega
      · split
        · exact Fails.back (fun bs s he => by show (s.refuse 61 a).err ≠ 0; rw [refuse_err he (by decide)]; decide) _
        · split
          · exact Fails.back (fun bs s he => by show (s.form a).err ≠ 0; rw [form_err he]; decide) _
          · rename_i hg
            obtain ⟨f1, f2, f3, _⟩ := givenK_facts hg
            refine pRet_back ⟨?_, ?_⟩
            · simp [plainVal, givenH, f1, f2]
            · simp only [pVal, pHeap]
              simp
              rw [if_neg (by omega), if_neg (by omega), f3]; simp
theorem rValG_cut (a c : Nat) : Cut (rValG a c) := by
  unfold rValG
  split
  · exact pRet_cut _
  · split
    · exact pRet_cut _
    · split
      · exact (pTold_alike _ _ _).cut (pMap_cut rHeap_cut _)
      · split
        · exact Fails.cut (fun bs s he => by show (s.refuse 61 a).err ≠ 0; rw [refuse_err he (by decide)]; decide)
        · split
          · exact Fails.cut (fun bs s he => by show (s.form a).err ≠ 0; rw [form_err he]; decide)
          · exact pRet_cut _
theorem rValG_stuck0 (a : Nat) : Stuck (rValG a 0) := fun bs s h => by simp [rValG, givenK, form_stuck h]
theorem rByteZ {α : Type} {G : Nat → Nat → Pars α} (h : ∀ a, Stuck (G a 0)) (bs : List UInt8) (s : RdS) (hc : (rByte bs s).2.err ≠ 0) : Stuck (G s.at_ (rByte bs s).1) := by
  rw [rByte_errz bs s hc]; exact h _
theorem rVal_back : Back rVal ValP := by
  rw [rVal_bind]
  refine (Back.bind rByte_back rByte_stuck (rByteZ rValG_stuck0) (fun a x _ _ => rValG_back a x)).mono ?_
  rintro v k ⟨x, k1, k2, rfl, ⟨rfl, _⟩, h1, h2⟩
  exact ⟨h1, h2, by omega⟩
theorem rVal_cut : Cut rVal := by
  rw [rVal_bind]
  exact Cut.bind rByte_back rByte_cut (rByteZ rValG_stuck0) (fun a x _ _ => rValG_back a x) (fun a x _ _ => rValG_cut a x)

/- Lists. -/
inductive All2 {α β : Type} (R : α → β → Prop) : List α → List β → Prop
  | nil : All2 R [] []
  | cons {a : α} {b : β} {l : List α} {m : List β} (h : R a b) (t : All2 R l m) : All2 R (a :: l) (b :: m)

theorem rMany_stuck {α : Type} {F : Pars α} (n : Nat) : Stuck (fun bs s => rMany (F bs) n s) := fun bs s h => by
  cases n <;> simp [rMany, h]

theorem rMany_back {α : Type} {F : Pars α} {P : α → Nat → Prop} (hF : Back F P) (n : Nat) :
    Back (fun bs s => rMany (F bs) n s) fun l k => l.length = n ∧ ∃ ks : List Nat, k = ks.sum ∧ All2 P l ks := by
  induction n with
  | zero => exact fun bs s he ha _ => ⟨0, rfl, by omega, rfl, [], rfl, .nil⟩
  | succ n ih =>
    intro bs s he ha h0
    simp only [rMany, if_pos he] at h0 ⊢
    have h1 : (F bs s).2.err = 0 := by
      by_cases hc : (F bs s).2.err = 0
      · exact hc
      · have := rMany_stuck (F := F) n bs _ hc
        simp only at this
        rw [this] at h0; exact absurd h0 hc
    obtain ⟨k1, e1, l1, p1⟩ := hF bs s he ha h1
    obtain ⟨k2, e2, l2, p2, ks, p3, p4⟩ := ih bs _ h1 (by rw [e1]; exact l1) h0
    simp only at e2 p2 p4
    rw [e1] at l2
    simp at l2
    refine ⟨k1 + k2, by rw [e2, e1, adv_adv], by omega, by simp [p2], k1 :: ks, by simp [p3], .cons p1 p4⟩

theorem rMany_cut {α : Type} {F : Pars α} {P : α → Nat → Prop} (hF : Back F P) (hFc : Cut F) (n : Nat) : Cut (fun bs s => rMany (F bs) n s) := by
  induction n with
  | zero =>
    intro bs s k he ha hk c hac hc
    have : k = 0 := by have := congrArg RdS.at_ hk; simp [rMany] at this; exact this
    subst this
    exact ⟨fun _ => rfl, fun h => by omega⟩
  | succ n ih =>
    intro bs s k he ha hk c hac hc
    have hs := rMany_stuck (F := F) n
    have h1 : (F bs s).2.err = 0 := by
      by_cases h : (F bs s).2.err = 0
      · exact h
      · have h2 := hs bs _ h
        simp only [rMany, if_pos he] at hk h2
        rw [h2] at hk; rw [hk] at h; exact absurd he h
    obtain ⟨k1, e1, l1, p1⟩ := hF bs s he ha h1
    have hk2 : ∃ k2, (rMany (F bs) n (s.adv k1)).2 = (s.adv k1).adv k2 ∧ k = k1 + k2 := by
      simp only [rMany, if_pos he] at hk
      rw [e1] at hk
      obtain ⟨k2, e2, l2, _⟩ := rMany_back hF n bs (s.adv k1) he l1 (by simp only; rw [hk]; exact he)
      simp only at e2
      refine ⟨k2, e2, ?_⟩
      rw [hk, adv_adv] at e2
      exact adv_inj e2
    obtain ⟨k2, e2, rfl⟩ := hk2
    obtain ⟨f1, f2⟩ := hFc bs s k1 he ha e1 c hac hc
    unfold CutAt
    simp only [rMany, if_pos he]
    rcases Nat.lt_or_ge c (s.at_ + k1) with h | h
    · refine ⟨by omega, fun _ => ?_⟩
      have hE := f2 h
      have h3 := hs (bs.take c) (F (bs.take c) s).2 (by rw [hE.1]; decide)
      simp only at h3
      rw [h3]; exact hE
    · have hFe := f1 h
      have h4 := ih bs (s.adv k1) k2 he l1 e2 c (by simpa using h) hc
      unfold CutAt at h4
      simp only [adv_at, Nat.add_assoc] at h4
      rw [hFe, e1]
      refine ⟨fun hh => ?_, fun hh => h4.2 (by omega)⟩
      rw [h4.1 (by omega)]

def pListF {α : Type} (F : Pars α) : Pars (List α) := fun bs s => rList bs (F bs) s
def ListP {α : Type} (pl : α → Bool) (put : α → List UInt8) (l : List α) (k : Nat) : Prop := l.all pl = true ∧ (pList put l).length ≤ k ∧ 1 ≤ k

theorem rCount_inv {bs : List UInt8} {s : RdS} (he : s.err = 0) (ha : s.at_ ≤ bs.length) (h0 : (rCount bs s).2.err = 0) :
    ∃ k1, rCount bs s = rU bs 32 s ∧ (rU bs 32 s).2 = s.adv k1 ∧ s.at_ + k1 ≤ bs.length ∧ (putU (rU bs 32 s).1).length ≤ k1 ∧ (rU bs 32 s).1 ≤ bs.length - (s.at_ + k1) ∧ (rU bs 32 s).1 < 4294967296 := by
  unfold rCount at h0 ⊢
  split at h0
  · rename_i h1
    by_cases h2 : (rU bs 32 s).2.err = 0
    · simp only at h0
      rw [refuse_err h2 (by decide)] at h0
      cases h0
    · rw [rU_errz _ _ _ h2] at h1
      exact absurd h1 (by omega)
  · rename_i h1
    obtain ⟨k1, e, l, p1, p2⟩ := rU_back 32 (by decide) (by decide) bs s he ha h0
    simp only at e p1 p2
    rw [if_neg h1]
    rw [e] at h1
    simp at h1
    exact ⟨k1, rfl, e, l, p1, by omega, by simpa using p2⟩

theorem rCount_stuck : Stuck rCount := fun bs s h => by
  have h1 := rU_stuck 32 bs s h
  simp only at h1
  have h2 : (rU bs 32 s).1 = 0 := by simp [rU, h]
  simp [rCount, h1, h2]
theorem pListF_stuck {α : Type} (F : Pars α) : Stuck (pListF F) := fun bs s h => by
  have h1 := rCount_stuck bs s h
  unfold pListF rList
  rw [h1]
  exact rMany_stuck (F := F) _ bs s h

theorem sum_ge {α : Type} {P : α → Nat → Prop} (put : α → List UInt8) (h : ∀ x k, P x k → (put x).length ≤ k ∧ 1 ≤ k) {l : List α} {ks : List Nat} (hf : All2 P l ks) : (l.flatMap put).length ≤ ks.sum ∧ l.length ≤ ks.sum := by
  induction hf with
  | nil => simp
  | cons hp _ ih => have := h _ _ hp; simp only [List.flatMap_cons, List.length_append, List.length_cons, List.sum_cons]; omega
theorem forall_all {α : Type} {P : α → Nat → Prop} (pl : α → Bool) (h : ∀ x k, P x k → pl x = true) {l : List α} {ks : List Nat} (hf : All2 P l ks) : l.all pl = true := by
  induction hf with
  | nil => rfl
  | cons hp _ ih => simp [h _ _ hp]; simpa using ih

theorem pListF_back {α : Type} {F : Pars α} {P : α → Nat → Prop} {pl : α → Bool} {put : α → List UInt8} (hF : Back F P) (hP : ∀ x k, P x k → pl x = true ∧ (put x).length ≤ k ∧ 1 ≤ k) :
    Back (pListF F) (ListP pl put) := fun bs s he ha h0 => by
  unfold pListF rList at h0 ⊢
  simp only at h0 ⊢
  have h1 : (rCount bs s).2.err = 0 := by
    by_cases h : (rCount bs s).2.err = 0
    · exact h
    · have := rMany_stuck (F := F) (rCount bs s).1 bs _ h
      simp only at this
      rw [this] at h0; exact absurd h0 h
  obtain ⟨k1, e0, e1, l1, p1, p2, p3⟩ := rCount_inv he ha h1
  rw [e0, e1] at h0 ⊢
  obtain ⟨k2, e2, l2, q1, ks, q2, q3⟩ := rMany_back hF _ bs (s.adv k1) he l1 h0
  simp only at e2 q1 q3
  simp at l2
  have hs := sum_ge put (fun x k h => (hP x k h).2) q3
  refine ⟨k1 + k2, by rw [e2, adv_adv], by omega, ?_⟩
  simp only [RdS.told, if_pos h0]
  refine ⟨forall_all pl (fun x k h => (hP x k h).1) q3, ?_, by have := putU_pos (rU bs 32 s).1; omega⟩
  simp only [pList, List.length_append, q1]
  omega

theorem pListF_cut {α : Type} {F : Pars α} {P : α → Nat → Prop} (hF : Back F P) (hFc : Cut F) (hP : ∀ x k, P x k → 1 ≤ k) : Cut (pListF F) := fun bs s k he ha hk c hac hc => by
  unfold pListF rList at hk
  simp only at hk
  have h1 : (rCount bs s).2.err = 0 := by
    by_cases h : (rCount bs s).2.err = 0
    · exact h
    · have := rMany_stuck (F := F) (rCount bs s).1 bs _ h
      simp only at this
      rw [this] at hk; rw [hk] at h; exact absurd he h
  obtain ⟨k1, e0, e1, l1, p1, p2, p3⟩ := rCount_inv he ha h1
  rw [e0, e1] at hk
  obtain ⟨k2, e2, l2, q1, ks, q2, q3⟩ := rMany_back hF _ bs (s.adv k1) he l1 (by simp only; rw [hk]; exact he)
  simp only at e2 q1 q3
  simp at l2
  have hs := sum_ge (fun _ => []) (fun x k h => ⟨by simp, hP x k h⟩) q3
  have hkk : k = k1 + k2 := by rw [hk, adv_adv] at e2; exact adv_inj e2
  subst hkk
  obtain ⟨u1, u2⟩ := rU_cut 32 bs s k1 he ha e1 c hac hc
  simp only at u1 u2
  have hst := fun n => rMany_stuck (F := F) n
  have hE0 : pListF F bs s = ((rMany (F bs) (rU bs 32 s).1 (s.adv k1)).1, (s.adv k1).adv k2) := by
    unfold pListF rList
    rw [e0, e1, e2]
    simp [RdS.told, he]
  rcases Nat.lt_or_ge c (s.at_ + k1) with h | h
  · refine ⟨by omega, fun _ => ?_⟩
    have hE := u2 h
    have h3 : (rU (bs.take c) 32 s).2.err ≠ 0 := by rw [hE.1]; decide
    have h4 := rU_errz _ _ _ h3
    have h5 : rCount (bs.take c) s = rU (bs.take c) 32 s := by unfold rCount; rw [h4]; simp
    unfold pListF rList
    rw [h5]
    have h6 := hst (rU (bs.take c) 32 s).1 (bs.take c) (rU (bs.take c) 32 s).2 h3
    simp only at h6
    rw [h6]; exact hE
  · have hu := u1 h
    have hl : (bs.take c).length = c := by simp; omega
    by_cases hn : c - (s.at_ + k1) < (rU bs 32 s).1
    · refine ⟨by omega, fun _ => ?_⟩
      have h5 : rCount (bs.take c) s = (0, (s.adv k1).refuse 10 s.at_) := by
        unfold rCount; rw [hu, hl, e1, if_pos (by simpa using hn)]
      unfold pListF rList
      rw [h5]
      simp [rMany, RdS.refuse, fail_ok (s := s.adv k1) he (e := 10) (by decide), Early]
      omega
    · have h5 : rCount (bs.take c) s = rU bs 32 s := by
        unfold rCount; rw [hu, hl, e1, if_neg (by simpa using hn)]
      have h6 := rMany_cut hF hFc (rU bs 32 s).1 bs (s.adv k1) k2 he l1 e2 c (by simpa using h) hc
      unfold CutAt at h6
      simp only [adv_at] at h6
      refine ⟨fun hh => ?_, fun hh => ?_⟩
      · rw [hE0]
        unfold pListF rList
        rw [h5, e1, h6.1 (by omega), e2]
        simp [RdS.told, he]
      · unfold pListF rList
        rw [h5, e1]
        exact h6.2 (by omega)

theorem rVals_stuck : Stuck rVals := pListF_stuck rVal
theorem rVals_back : Back rVals (ListP plainVal pVal) := pListF_back rVal_back fun _ _ h => h
theorem rVals_cut : Cut rVals := pListF_cut rVal_back rVal_cut fun _ _ h => h.2.2

end Go.Proofs.YtokneepfknepaaaGreatDoor

set_option linter.unusedSimpArgs false
set_option linter.unusedVariables false
namespace Go.Proofs.YtokneepfknepaaaGreatDoor
open Go.RowKit

def heapV (h : HeapT) : Value := .agg #[.int .i64 h.kind, .int .i64 h.n]
def valV (v : ValT) : Value := .agg #[.int .i64 v.kind, .bool v.null, .int .i64 v.heap.kind, .int .i64 v.heap.n]
attribute [go_sem] heapV valV

set_option maxRecDepth 100000 in
set_option maxHeartbeats 400000 in
theorem given_any {S : List Nat} {w : World} (hg : Gl S w) (c : Nat) (hc : c < 256) :
    Calls Tryz.prog 105 #[.int .u8 c] w fun e w' => e = .returned (.tuple #[heapV ⟨givenK c, 0⟩, .bool (decide (105 ≤ c ∧ c < 117))]) ∧ Fr [] w w' := by
  by_cases h1 : 105 ≤ c ∧ c < 117
  · have hcell := fun o : Obj => (World.cell?_alloc_lt w o ⟨1, c - 105, none⟩ hg.lt).trans (hg.cell (c - 105) (by omega))
    have hk : givenK c = heapsL.getD (c - 105) 0 := by unfold givenK; rw [if_neg (by omega)]
    have hd : decide (105 ≤ c ∧ c < 117) = true := by simpa using h1
    rw [hd, hk]
    generalize heapsL.getD (c - 105) 0 = k at hcell ⊢
    have hi : ((c : Int) - 105).toNat = c - 105 := by omega
    clear hk hd
    obtain ⟨h1a, h1b⟩ := h1
    go_enter Tryz.func105, Tryz.ntmps105
    go_wp2
    refine bodyPost_ret (v := .tuple #[heapV ⟨k, 0⟩, .bool true]) (by simp [results, Tryz.results105, go_sem]) rfl ⟨rfl, ?_⟩
    repeat (first | (with_reducible exact Fr.refl _ _) | (with_reducible assumption) | (with_reducible apply Fr.alloc) | (with_reducible apply Fr.drew) | (with_reducible apply Fr.drewN) | (with_reducible refine Fr.setCell ?_ (by first | (left; simp; done) | (right; simp; done) | (right; simp; omega)) _))
  · have hk : givenK c = 0 := by unfold givenK; rw [if_pos (by omega)]
    have hd : decide (105 ≤ c ∧ c < 117) = false := by simpa using h1
    rw [hd, hk]
    clear hk hd
    go_enter Tryz.func105, Tryz.ntmps105
    go_wp2
    all_goals
      refine bodyPost_ret (v := .tuple #[heapV ⟨0, 0⟩, .bool false]) (by simp [results, Tryz.results105, go_sem]) rfl ⟨rfl, ?_⟩
      repeat (first | (with_reducible exact Fr.refl _ _) | (with_reducible assumption) | (with_reducible apply Fr.alloc) | (with_reducible apply Fr.drew) | (with_reducible apply Fr.drewN) | (with_reducible refine Fr.setCell ?_ (by first | (left; simp; done) | (right; simp; done) | (right; simp; omega)) _))

set_option maxRecDepth 100000 in
set_option maxHeartbeats 400000 in
theorem told_heap {S : List Nat} {w : World} {rb : Nat} {bv : Value} {bs : List UInt8} {s : RdS} (h : Rd S w rb bv bs s) (x : HeapT) :
    Calls Tryz.prog 107 #[.pointer (some ⟨rb, 0, none⟩), heapV x] w fun e w' => e = .returned (heapV (s.told HeapT.zero x)) ∧ Fr [] w w' := by
  have hR := fun o1 o2 => (h.alloc o1).alloc o2
  by_cases he : s.err = 0
  · have g1 : (s.err == 0) = true := by simp [he]
    have ht : s.told HeapT.zero x = x := by simp [RdS.told, he]
    rw [ht]
    unfold heapV
    clear ht he
    go_enter Tryz.func107, Tryz.ntmps107
    go_wp2_with (go_at_call 85; refine (rd_reads (hR _ _)).mono ?_; rintro e w' ⟨rfl, rfl⟩)
    refine bodyPost_ret (v := heapV x) (by simp [results, Tryz.results107, go_sem]) rfl ⟨rfl, ?_⟩
    repeat (first | (with_reducible exact Fr.refl _ _) | (with_reducible assumption) | (with_reducible apply Fr.alloc) | (with_reducible apply Fr.drew) | (with_reducible apply Fr.drewN) | (with_reducible refine Fr.setCell ?_ (by first | (left; simp; done) | (right; simp; done) | (right; simp; omega)) _))
  · have g1 : (s.err == 0) = false := by simp [he]
    have ht : s.told HeapT.zero x = HeapT.zero := by simp [RdS.told, he]
    rw [ht]
    unfold heapV
    clear ht he
    go_enter Tryz.func107, Tryz.ntmps107
    go_wp2_with (go_at_call 85; refine (rd_reads (hR _ _)).mono ?_; rintro e w' ⟨rfl, rfl⟩)
    refine bodyPost_ret (v := heapV HeapT.zero) (by simp [results, Tryz.results107, go_sem, HeapT.zero]) rfl ⟨rfl, ?_⟩
    repeat (first | (with_reducible exact Fr.refl _ _) | (with_reducible assumption) | (with_reducible apply Fr.alloc) | (with_reducible apply Fr.drew) | (with_reducible apply Fr.drewN) | (with_reducible refine Fr.setCell ?_ (by first | (left; simp; done) | (right; simp; done) | (right; simp; omega)) _))

set_option maxRecDepth 100000 in
set_option maxHeartbeats 400000 in
theorem told_val {S : List Nat} {w : World} {rb : Nat} {bv : Value} {bs : List UInt8} {s : RdS} (h : Rd S w rb bv bs s) (x : ValT) :
    Calls Tryz.prog 117 #[.pointer (some ⟨rb, 0, none⟩), valV x] w fun e w' => e = .returned (valV (s.told ValT.zero x)) ∧ Fr [] w w' := by
  have hR := fun o1 o2 => (h.alloc o1).alloc o2
  by_cases he : s.err = 0
  · have g1 : (s.err == 0) = true := by simp [he]
    have ht : s.told ValT.zero x = x := by simp [RdS.told, he]
    rw [ht]
    unfold valV
    clear ht he
    go_enter Tryz.func117, Tryz.ntmps117
    go_wp2_with (go_at_call 85; refine (rd_reads (hR _ _)).mono ?_; rintro e w' ⟨rfl, rfl⟩)
    refine bodyPost_ret (v := valV x) (by simp [results, Tryz.results117, go_sem]) rfl ⟨rfl, ?_⟩
    repeat (first | (with_reducible exact Fr.refl _ _) | (with_reducible assumption) | (with_reducible apply Fr.alloc) | (with_reducible apply Fr.drew) | (with_reducible apply Fr.drewN) | (with_reducible refine Fr.setCell ?_ (by first | (left; simp; done) | (right; simp; done) | (right; simp; omega)) _))
  · have g1 : (s.err == 0) = false := by simp [he]
    have ht : s.told ValT.zero x = ValT.zero := by simp [RdS.told, he]
    rw [ht]
    unfold valV
    clear ht he
    go_enter Tryz.func117, Tryz.ntmps117
    go_wp2_with (go_at_call 85; refine (rd_reads (hR _ _)).mono ?_; rintro e w' ⟨rfl, rfl⟩)
    refine bodyPost_ret (v := valV ValT.zero) (by simp [results, Tryz.results117, go_sem, ValT.zero]) rfl ⟨rfl, ?_⟩
    repeat (first | (with_reducible exact Fr.refl _ _) | (with_reducible assumption) | (with_reducible apply Fr.alloc) | (with_reducible apply Fr.drew) | (with_reducible apply Fr.drewN) | (with_reducible refine Fr.setCell ?_ (by first | (left; simp; done) | (right; simp; done) | (right; simp; omega)) _))


theorem rPeek_lt (bs : List UInt8) (s : RdS) : rPeek bs s < 256 := by
  unfold rPeek
  split
  · exact (bs.getD s.at_ 0).toNat_lt
  · decide
theorem given_iff (c : Nat) : decide (105 ≤ c ∧ c < 117) = !(givenK c == 0) := by
  by_cases h : 105 ≤ c ∧ c < 117
  · have : c = 105 ∨ c = 106 ∨ c = 107 ∨ c = 108 ∨ c = 109 ∨ c = 110 ∨ c = 111 ∨ c = 112 ∨ c = 113 ∨ c = 114 ∨ c = 115 ∨ c = 116 := by omega
    rcases this with rfl | rfl | rfl | rfl | rfl | rfl | rfl | rfl | rfl | rfl | rfl | rfl <;> decide
  · have : givenK c = 0 := by unfold givenK; rw [if_pos (by omega)]
    rw [this]; simpa using h
theorem rd_setAt {S : List Nat} {w : World} {rb : Nat} {bv : Value} {bs : List UInt8} {s : RdS} (h : Rd S w rb bv bs s) (n : Nat) (hn : n ≤ bs.length) : Rd S (w.setCell ⟨rb, 0, none⟩ (.int .i64 n)) rb bv bs { s with at_ := n } :=
  h.step ((Fr.refl _ _).setCell (by simp) _) (h.loc.set 0 _) hn

theorem rd_next {S : List Nat} {w : World} {rb : Nat} {bv : Value} {bs : List UInt8} {s : RdS} (h : Rd S w rb bv bs s) (hn : s.at_ < bs.length) : Rd S (w.setCell ⟨rb, 0, none⟩ (.int .i64 ((s.at_ : Int) + 1))) rb bv bs s.next :=
  rd_setAt h (s.at_ + 1) hn

set_option maxRecDepth 100000 in
set_option maxHeartbeats 1600000 in
theorem rd_heap {S : List Nat} {w : World} {rb : Nat} {bv : Value} {bs : List UInt8} {s : RdS} (h : Rd S w rb bv bs s) :
    Calls Tryz.prog 79 #[.pointer (some ⟨rb, 0, none⟩)] w fun e w' => e = .returned (heapV (rHeap bs s).1) ∧ Rd S w' rb bv bs (rHeap bs s).2 ∧ Fr [rb] w w' := by
  have hle := h.le
  have hsm := h.small
  have hrb := h.loc.lt
  have hcl := rPeek_lt bs s
  have hR := h.loc1 (.cells #[.int .i64 0, .int .i64 0] 34)
  have hgiff := given_iff (rPeek bs s)
  have hL : Loc (w.alloc (.cells #[.int .i64 0, .int .i64 0] 34)) w.heap.size [.int .i64 0, .int .i64 0] 34 := Loc.new _ _ _
  have f0 : Fr [rb] w (w.alloc (.cells #[.int .i64 0, .int .i64 0] 34)) := (Fr.refl _ _).alloc _
  by_cases hg : givenK (rPeek bs s) = 0
  · have hg2 : decide (105 ≤ rPeek bs s ∧ rPeek bs s < 117) = false := by rw [hgiff, hg]; rfl
    by_cases hn : (rS bs 33 s).1 < 0
    · have hp : rHeap bs s = (HeapT.zero, (rS bs 33 s).2.refuse 60 s.at_) := by unfold rHeap; rw [if_pos hg, if_pos hn]
      have ht : ((rS bs 33 s).2.refuse 60 s.at_).told HeapT.zero ⟨13, (rS bs 33 s).1⟩ = HeapT.zero := by
        by_cases h0 : (rS bs 33 s).2.err = 0
        · simp [RdS.told, RdS.refuse, RdS.fail, h0]
        · simp [RdS.told, RdS.refuse, RdS.fail, h0]
      have HT := Lib.hid ht
      rw [hp]
      clear hgiff hg hp ht
      go_enter Tryz.func79, Tryz.ntmps79
      go_wp2_with first | (go_at_call 43; refine (rd_at hR).mono ?_; rintro e w' ⟨rfl, rfl⟩) | (go_at_call 104; refine (rd_peek hR).mono ?_; rintro e w' ⟨rfl, nq, rfl⟩) | (go_at_call 105; refine (given_any (hR.drewN _).gl _ hcl).mono ?_; rintro e w1 ⟨rfl, hF1⟩) | fail
      have hR1 := (hR.drewN nq).fr hF1 (by simp) (by simp)
      have hR1o := fun o => hR1.alloc o
      have hL1 := (hL.drewN nq).fr hF1 (by simp)
      have f1 := (f0.drewN nq).trans (hF1.mono (by simp))
      go_wp2_with first | (go_at_call 78; refine (rd_s (hR1o _) 33 (by decide) (by decide)).mono ?_; rintro e w2 ⟨rfl, hR2, hF2⟩) | fail
      have hL2 := (hL1.alloc _).fr hF2 (by simp; omega)
      have f2 := (f1.alloc _).trans hF2
      go_wp2_with first | (go_at_call 106; refine (rd_refuse hR2 _ _ hle).mono ?_; rintro e w3 ⟨rfl, hR3, hF3⟩) | fail
      have hL3 := hL2.fr hF3 (by simp; omega)
      have f3 := f2.trans hF3
      go_wp2_with ((go_at_call 107; refine (told_heap hR3 ⟨13, _⟩).mono ?_; rintro e w4 ⟨rfl, hF4⟩); rw [HT.out]; have hL4 := hL3.fr hF4 (by simp); have hR4 := hR3.fr hF4 (by simp) (by simp); have f4 := f3.trans (hF4.mono (by simp)); have hLC4 := hL4.cell; have hLF4 := hL4.frz; have hLT4 := hL4.lt)
      refine bodyPost_ret (v := heapV HeapT.zero) (by simp [results, Tryz.results79, go_sem, *]) rfl ⟨rfl, ?_, ?_⟩
      · refine Rd.un1 (lb := w.heap.size) ?_ h.mem
        repeat (first | (with_reducible assumption) | (with_reducible refine Rd.setLoc ?_ (by simp) (by omega) _ _) | (with_reducible apply Rd.alloc) | (with_reducible apply Rd.drewN))
      · repeat (first | (with_reducible exact Fr.refl _ _) | (with_reducible assumption) | (with_reducible apply Fr.alloc) | (with_reducible apply Fr.drew) | (with_reducible apply Fr.drewN) | (with_reducible refine Fr.setCell ?_ (by first | (left; simp; done) | (right; simp; done) | (right; simp; omega)) _))
    · have hp : rHeap bs s = ((rS bs 33 s).2.told HeapT.zero ⟨13, (rS bs 33 s).1⟩, (rS bs 33 s).2) := by unfold rHeap; rw [if_pos hg, if_neg hn]
      rw [hp]
      clear hgiff hg hp
      go_enter Tryz.func79, Tryz.ntmps79
      go_wp2_with first | (go_at_call 43; refine (rd_at hR).mono ?_; rintro e w' ⟨rfl, rfl⟩) | (go_at_call 104; refine (rd_peek hR).mono ?_; rintro e w' ⟨rfl, nq, rfl⟩) | (go_at_call 105; refine (given_any (hR.drewN _).gl _ hcl).mono ?_; rintro e w1 ⟨rfl, hF1⟩) | fail
      have hR1 := (hR.drewN nq).fr hF1 (by simp) (by simp)
      have hR1o := fun o => hR1.alloc o
      have hL1 := (hL.drewN nq).fr hF1 (by simp)
      have f1 := (f0.drewN nq).trans (hF1.mono (by simp))
      go_wp2_with first | (go_at_call 78; refine (rd_s (hR1o _) 33 (by decide) (by decide)).mono ?_; rintro e w2 ⟨rfl, hR2, hF2⟩) | fail
      have hL2 := (hL1.alloc _).fr hF2 (by simp; omega)
      have f2 := (f1.alloc _).trans hF2
      go_wp2_with ((go_at_call 107; refine (told_heap hR2 ⟨13, _⟩).mono ?_; rintro e w4 ⟨rfl, hF4⟩); have hL4 := hL2.fr hF4 (by simp); have hR4 := hR2.fr hF4 (by simp) (by simp); have f4 := f2.trans (hF4.mono (by simp)); have hLC4 := hL4.cell; have hLF4 := hL4.frz; have hLT4 := hL4.lt)
      refine bodyPost_ret (v := heapV _) (by simp [results, Tryz.results79, go_sem, *]) rfl ⟨rfl, ?_, ?_⟩
      · refine Rd.un1 (lb := w.heap.size) ?_ h.mem
        repeat (first | (with_reducible assumption) | (with_reducible refine Rd.setLoc ?_ (by simp) (by omega) _ _) | (with_reducible apply Rd.alloc) | (with_reducible apply Rd.drewN))
      · repeat (first | (with_reducible exact Fr.refl _ _) | (with_reducible assumption) | (with_reducible apply Fr.alloc) | (with_reducible apply Fr.drew) | (with_reducible apply Fr.drewN) | (with_reducible refine Fr.setCell ?_ (by first | (left; simp; done) | (right; simp; done) | (right; simp; omega)) _))
  · have hp : rHeap bs s = (⟨givenK (rPeek bs s), 0⟩, s.next) := by unfold rHeap; rw [if_neg hg]
    have hlt := (peek_pos (s := s) (bs := bs) (fun h0 => hg (by rw [h0]; rfl))).2.1
    have hg2 : decide (105 ≤ rPeek bs s ∧ rPeek bs s < 117) = true := by rw [hgiff]; simpa using hg
    rw [hp]
    clear hgiff hg hp
    go_enter Tryz.func79, Tryz.ntmps79
    go_wp2_with first | (go_at_call 43; refine (rd_at hR).mono ?_; rintro e w' ⟨rfl, rfl⟩) | (go_at_call 104; refine (rd_peek hR).mono ?_; rintro e w' ⟨rfl, nq, rfl⟩) | ((go_at_call 105; refine (given_any (hR.drewN _).gl _ hcl).mono ?_; rintro e w1 ⟨rfl, hF1⟩); have hR1 := (hR.drewN nq).fr hF1 (by simp) (by simp); have hL1 := (hL.drewN nq).fr hF1 (by simp); have f1 := (f0.drewN nq).trans (hF1.mono (by simp)); have hC1 := hR1.loc.cell; have hG1 := hR1.loc.frz; have hT1 := hR1.loc.lt; simp only [rdCells] at hC1; have hLC1 := hL1.cell; have hLF1 := hL1.frz; have hLT1 := hL1.lt)
    have hE := rd_next hR1 hlt
    refine bodyPost_ret (v := heapV ⟨givenK (rPeek bs s), 0⟩) (by simp [results, Tryz.results79, go_sem, *]) rfl ⟨rfl, ?_, ?_⟩
    · refine Rd.un1 (lb := w.heap.size) ?_ h.mem
      repeat (first | (with_reducible assumption) | (with_reducible refine Rd.setLoc ?_ (by simp) (by omega) _ _) | (with_reducible apply Rd.alloc) | (with_reducible apply Rd.drewN))
    · repeat (first | (with_reducible exact Fr.refl _ _) | (with_reducible assumption) | (with_reducible apply Fr.alloc) | (with_reducible apply Fr.drew) | (with_reducible apply Fr.drewN) | (with_reducible refine Fr.setCell ?_ (by first | (left; simp; done) | (right; simp; done) | (right; simp; omega)) _))

end Go.Proofs.YtokneepfknepaaaGreatDoor

set_option linter.unusedSimpArgs false
set_option linter.unusedVariables false
namespace Go.Proofs.YtokneepfknepaaaGreatDoor
open Go.RowKit

theorem und_val : Tryz.prog.underlying 39 = some ((Tryz.prog.underlying 39).get (by kernel_rfl)) := by kernel_rfl
theorem size_val : (Tryz.prog.info? 39).map (·.size) = some 4 := by kernel_rfl
theorem rByte_lt (bs : List UInt8) (s : RdS) : (rByte bs s).1 < 256 := by
  unfold rByte
  split
  · exact (bs.getD s.at_ 0).toNat_lt
  · simp

set_option maxRecDepth 100000 in
set_option maxHeartbeats 1600000 in
theorem rd_val {S : List Nat} {w : World} {rb : Nat} {bv : Value} {bs : List UInt8} {s : RdS} (h : Rd S w rb bv bs s) :
    Calls Tryz.prog 109 #[.pointer (some ⟨rb, 0, none⟩)] w fun e w' => e = .returned (valV (rVal bs s).1) ∧ Rd S w' rb bv bs (rVal bs s).2 ∧ Fr [rb] w w' := by
  have hle := h.le
  have hrb := h.loc.lt
  have hcl := rByte_lt bs s
  have hR := h.loc1 (.cells #[.int .i64 0, .bool false, .int .i64 0, .int .i64 0] 39)
  have hL : Loc (w.alloc (.cells #[.int .i64 0, .bool false, .int .i64 0, .int .i64 0] 39)) w.heap.size [.int .i64 0, .bool false, .int .i64 0, .int .i64 0] 39 := Loc.new _ _ _
  have f0 : Fr [rb] w (w.alloc (.cells #[.int .i64 0, .bool false, .int .i64 0, .int .i64 0] 39)) := (Fr.refl _ _).alloc _
  have hgiff := given_iff (rByte bs s).1
  have HG := Lib.hid hgiff
  clear hgiff
  go_enter Tryz.func109, Tryz.ntmps109
  go_wp2_with first | (go_at_call 43; refine (rd_at hR).mono ?_; rintro e w' ⟨rfl, rfl⟩) | ((go_at_call 97; refine (rd_byte hR).mono ?_; rintro e w1 ⟨rfl, hR1, hF1⟩); have hL1 := hL.fr hF1 (by simp; omega); have f1 := f0.trans hF1; have hLC1 := hL1.cell; have hLF1 := hL1.frz; have hLT1 := hL1.lt) | ((go_at_call 79; refine (rd_heap hR1).mono ?_; rintro e w2 ⟨rfl, hR2, hF2⟩); have hL2 := hL1.fr hF2 (by simp; omega); have f2 := f1.trans hF2; have hLC2 := hL2.cell; have hLF2 := hL2.frz; have hLT2 := hL2.lt) | ((go_at_call 117; refine (told_val hR2 ⟨3, _, ⟨_, _⟩⟩).mono ?_; rintro e w3 ⟨rfl, hF3⟩); have hL3 := hL2.fr hF3 (by simp); have hR3 := hR2.fr hF3 (by simp) (by simp); have f3 := f2.trans (hF3.mono (by simp)); have hLC3 := hL3.cell; have hLF3 := hL3.frz; have hLT3 := hL3.lt) | ((go_at_call 106; refine (rd_refuse hR1 _ _ hle).mono ?_; rintro e w4 ⟨rfl, hR4, hF4⟩); have hL4 := hL1.fr hF4 (by simp; omega); have f4 := f1.trans hF4; have hLC4 := hL4.cell; have hLF4 := hL4.frz; have hLT4 := hL4.lt) | ((go_at_call 105; refine (given_any hR1.gl _ hcl).mono ?_; rintro e w5 ⟨rfl, hF5⟩); have hL5 := hL1.fr hF5 (by simp); have hR5 := hR1.fr hF5 (by simp) (by simp); have hR5o := fun o => hR5.alloc o; have f5 := f1.trans (hF5.mono (by simp)); have hLC5 := hL5.cell; have hLF5 := hL5.frz; have hLT5 := hL5.lt) | ((go_at_call 118; refine (rd_form (hR5o _) _ hle).mono ?_; rintro e w6 ⟨rfl, hR6, hF6⟩); have hL6 := (hL5.alloc _).fr hF6 (by simp; omega); have f6 := (f5.alloc _).trans hF6; have hLC6 := hL6.cell; have hLF6 := hL6.frz; have hLT6 := hL6.lt)
  · have q0 : (((rByte bs s).1 : Nat) : Int) = 127 := eq_of_beqI (by assumption)
    have hp : rVal bs s = (⟨1, false, ⟨0, 0⟩⟩, (rByte bs s).2) := by unfold rVal; rw [if_pos (by omega)]
    rw [hp]
    refine ret_cell rfl rfl ((((hL1.set 0 _).set 1 _).set 2 _).set 3 _) und_val rfl size_val rfl ⟨rfl, ?_, ?_⟩
    · refine Rd.un1 (lb := w.heap.size) ?_ h.mem
      repeat (first | (with_reducible assumption) | (with_reducible refine Rd.setLoc ?_ (by simp) (by omega) _ _) | (with_reducible apply Rd.alloc) | (with_reducible apply Rd.drewN))
    · repeat (first | (with_reducible exact Fr.refl _ _) | (with_reducible assumption) | (with_reducible apply Fr.alloc) | (with_reducible apply Fr.drew) | (with_reducible apply Fr.drewN) | (with_reducible refine Fr.setCell ?_ (by first | (left; simp; done) | (right; simp; done) | (right; simp; omega)) _))
  · have q0 : (((rByte bs s).1 : Nat) : Int) ≠ 127 := ne_of_beqI (by assumption)
    have q1 : (((rByte bs s).1 : Nat) : Int) = 126 := eq_of_beqI (by assumption)
    have hp : rVal bs s = (⟨2, false, ⟨0, 0⟩⟩, (rByte bs s).2) := by unfold rVal; rw [if_neg (by omega), if_pos (by omega)]
    rw [hp]
    refine ret_cell rfl rfl ((((hL1.set 0 _).set 1 _).set 2 _).set 3 _) und_val rfl size_val rfl ⟨rfl, ?_, ?_⟩
    · refine Rd.un1 (lb := w.heap.size) ?_ h.mem
      repeat (first | (with_reducible assumption) | (with_reducible refine Rd.setLoc ?_ (by simp) (by omega) _ _) | (with_reducible apply Rd.alloc) | (with_reducible apply Rd.drewN))
    · repeat (first | (with_reducible exact Fr.refl _ _) | (with_reducible assumption) | (with_reducible apply Fr.alloc) | (with_reducible apply Fr.drew) | (with_reducible apply Fr.drewN) | (with_reducible refine Fr.setCell ?_ (by first | (left; simp; done) | (right; simp; done) | (right; simp; omega)) _))
  · have q0 : (((rByte bs s).1 : Nat) : Int) ≠ 127 := ne_of_beqI (by assumption)
    have q1 : (((rByte bs s).1 : Nat) : Int) ≠ 126 := ne_of_beqI (by assumption)
    have q2 : (((rByte bs s).1 : Nat) : Int) = 100 := eq_of_beqI (by assumption)
    have q99 : ((((rByte bs s).1 : Nat) : Int) == 99) = false := by simp; omega
    have q99n : ((rByte bs s).1 == 99) = false := by simp; omega
    have hp : rVal bs s = ((rHeap bs (rByte bs s).2).2.told ValT.zero ⟨3, false, (rHeap bs (rByte bs s).2).1⟩, (rHeap bs (rByte bs s).2).2) := by unfold rVal; rw [if_neg (by omega), if_neg (by omega), if_pos (by omega)]; rw [q99n]
    rw [hp]
    refine ret_cell rfl rfl ((((hL3.set 0 _).set 1 _).set 2 _).set 3 _) und_val rfl size_val rfl ⟨by rw [q99]; rfl, ?_, ?_⟩
    · refine Rd.un1 (lb := w.heap.size) ?_ h.mem
      repeat (first | (with_reducible assumption) | (with_reducible refine Rd.setLoc ?_ (by simp) (by omega) _ _) | (with_reducible apply Rd.alloc) | (with_reducible apply Rd.drewN))
    · repeat (first | (with_reducible exact Fr.refl _ _) | (with_reducible assumption) | (with_reducible apply Fr.alloc) | (with_reducible apply Fr.drew) | (with_reducible apply Fr.drewN) | (with_reducible refine Fr.setCell ?_ (by first | (left; simp; done) | (right; simp; done) | (right; simp; omega)) _))
  · have q0 : (((rByte bs s).1 : Nat) : Int) ≠ 127 := ne_of_beqI (by assumption)
    have q1 : (((rByte bs s).1 : Nat) : Int) ≠ 126 := ne_of_beqI (by assumption)
    have q2 : (((rByte bs s).1 : Nat) : Int) ≠ 100 := ne_of_beqI (by assumption)
    have q3 : (((rByte bs s).1 : Nat) : Int) = 99 := eq_of_beqI (by assumption)
    have q99 : ((((rByte bs s).1 : Nat) : Int) == 99) = true := by simp; omega
    have q99n : ((rByte bs s).1 == 99) = true := by simp; omega
    have hp : rVal bs s = ((rHeap bs (rByte bs s).2).2.told ValT.zero ⟨3, true, (rHeap bs (rByte bs s).2).1⟩, (rHeap bs (rByte bs s).2).2) := by unfold rVal; rw [if_neg (by omega), if_neg (by omega), if_pos (by omega)]; rw [q99n]
    rw [hp]
    refine ret_cell rfl rfl ((((hL3.set 0 _).set 1 _).set 2 _).set 3 _) und_val rfl size_val rfl ⟨rfl, ?_, ?_⟩
    · refine Rd.un1 (lb := w.heap.size) ?_ h.mem
      repeat (first | (with_reducible assumption) | (with_reducible refine Rd.setLoc ?_ (by simp) (by omega) _ _) | (with_reducible apply Rd.alloc) | (with_reducible apply Rd.drewN))
    · repeat (first | (with_reducible exact Fr.refl _ _) | (with_reducible assumption) | (with_reducible apply Fr.alloc) | (with_reducible apply Fr.drew) | (with_reducible apply Fr.drewN) | (with_reducible refine Fr.setCell ?_ (by first | (left; simp; done) | (right; simp; done) | (right; simp; omega)) _))
  · have q0 : (((rByte bs s).1 : Nat) : Int) ≠ 127 := ne_of_beqI (by assumption)
    have q1 : (((rByte bs s).1 : Nat) : Int) ≠ 126 := ne_of_beqI (by assumption)
    have q2 : (((rByte bs s).1 : Nat) : Int) ≠ 100 := ne_of_beqI (by assumption)
    have q3 : (((rByte bs s).1 : Nat) : Int) ≠ 99 := ne_of_beqI (by assumption)
    have q4 : (((rByte bs s).1 : Nat) : Int) = 125 := eq_of_beqI (by assumption)
    have hp : rVal bs s = (ValT.zero, (rByte bs s).2.refuse 61 s.at_) := by unfold rVal; rw [if_neg (by omega), if_neg (by omega), if_neg (by omega), if_pos (by omega)]
    rw [hp]
    refine ret_cell rfl rfl ((((hL4.set 0 _).set 1 _).set 2 _).set 3 _) und_val rfl size_val rfl ⟨rfl, ?_, ?_⟩
    · refine Rd.un1 (lb := w.heap.size) ?_ h.mem
      repeat (first | (with_reducible assumption) | (with_reducible refine Rd.setLoc ?_ (by simp) (by omega) _ _) | (with_reducible apply Rd.alloc) | (with_reducible apply Rd.drewN))
    · repeat (first | (with_reducible exact Fr.refl _ _) | (with_reducible assumption) | (with_reducible apply Fr.alloc) | (with_reducible apply Fr.drew) | (with_reducible apply Fr.drewN) | (with_reducible refine Fr.setCell ?_ (by first | (left; simp; done) | (right; simp; done) | (right; simp; omega)) _))
  · have q0 : (((rByte bs s).1 : Nat) : Int) ≠ 127 := ne_of_beqI (by assumption)
    have q1 : (((rByte bs s).1 : Nat) : Int) ≠ 126 := ne_of_beqI (by assumption)
    have q2 : (((rByte bs s).1 : Nat) : Int) ≠ 100 := ne_of_beqI (by assumption)
    have q3 : (((rByte bs s).1 : Nat) : Int) ≠ 99 := ne_of_beqI (by assumption)
    have q4 : (((rByte bs s).1 : Nat) : Int) ≠ 125 := ne_of_beqI (by assumption)
    have q5 : (((rByte bs s).1 : Nat) : Int) = 124 := eq_of_beqI (by assumption)
    have hp : rVal bs s = (ValT.zero, (rByte bs s).2.refuse 61 s.at_) := by unfold rVal; rw [if_neg (by omega), if_neg (by omega), if_neg (by omega), if_pos (by omega)]
    rw [hp]
    refine ret_cell rfl rfl ((((hL4.set 0 _).set 1 _).set 2 _).set 3 _) und_val rfl size_val rfl ⟨rfl, ?_, ?_⟩
    · refine Rd.un1 (lb := w.heap.size) ?_ h.mem
      repeat (first | (with_reducible assumption) | (with_reducible refine Rd.setLoc ?_ (by simp) (by omega) _ _) | (with_reducible apply Rd.alloc) | (with_reducible apply Rd.drewN))
    · repeat (first | (with_reducible exact Fr.refl _ _) | (with_reducible assumption) | (with_reducible apply Fr.alloc) | (with_reducible apply Fr.drew) | (with_reducible apply Fr.drewN) | (with_reducible refine Fr.setCell ?_ (by first | (left; simp; done) | (right; simp; done) | (right; simp; omega)) _))
  · have q0 : (((rByte bs s).1 : Nat) : Int) ≠ 127 := ne_of_beqI (by assumption)
    have q1 : (((rByte bs s).1 : Nat) : Int) ≠ 126 := ne_of_beqI (by assumption)
    have q2 : (((rByte bs s).1 : Nat) : Int) ≠ 100 := ne_of_beqI (by assumption)
    have q3 : (((rByte bs s).1 : Nat) : Int) ≠ 99 := ne_of_beqI (by assumption)
    have q4 : (((rByte bs s).1 : Nat) : Int) ≠ 125 := ne_of_beqI (by assumption)
    have q5 : (((rByte bs s).1 : Nat) : Int) ≠ 124 := ne_of_beqI (by assumption)
    have q6 : (((rByte bs s).1 : Nat) : Int) = 123 := eq_of_beqI (by assumption)
    have hp : rVal bs s = (ValT.zero, (rByte bs s).2.refuse 61 s.at_) := by unfold rVal; rw [if_neg (by omega), if_neg (by omega), if_neg (by omega), if_pos (by omega)]
    rw [hp]
    refine ret_cell rfl rfl ((((hL4.set 0 _).set 1 _).set 2 _).set 3 _) und_val rfl size_val rfl ⟨rfl, ?_, ?_⟩
    · refine Rd.un1 (lb := w.heap.size) ?_ h.mem
      repeat (first | (with_reducible assumption) | (with_reducible refine Rd.setLoc ?_ (by simp) (by omega) _ _) | (with_reducible apply Rd.alloc) | (with_reducible apply Rd.drewN))
    · repeat (first | (with_reducible exact Fr.refl _ _) | (with_reducible assumption) | (with_reducible apply Fr.alloc) | (with_reducible apply Fr.drew) | (with_reducible apply Fr.drewN) | (with_reducible refine Fr.setCell ?_ (by first | (left; simp; done) | (right; simp; done) | (right; simp; omega)) _))
  · have q0 : (((rByte bs s).1 : Nat) : Int) ≠ 127 := ne_of_beqI (by assumption)
    have q1 : (((rByte bs s).1 : Nat) : Int) ≠ 126 := ne_of_beqI (by assumption)
    have q2 : (((rByte bs s).1 : Nat) : Int) ≠ 100 := ne_of_beqI (by assumption)
    have q3 : (((rByte bs s).1 : Nat) : Int) ≠ 99 := ne_of_beqI (by assumption)
    have q4 : (((rByte bs s).1 : Nat) : Int) ≠ 125 := ne_of_beqI (by assumption)
    have q5 : (((rByte bs s).1 : Nat) : Int) ≠ 124 := ne_of_beqI (by assumption)
    have q6 : (((rByte bs s).1 : Nat) : Int) ≠ 123 := ne_of_beqI (by assumption)
    have hg : givenK (rByte bs s).1 = 0 := by
      have h1 := HG.out
      by_cases h0 : givenK (rByte bs s).1 = 0
      · exact h0
      · exfalso
        rw [show (!(givenK (rByte bs s).1 == 0)) = true by simpa using h0] at h1
        simp only [decide_eq_true_eq] at h1
        have h2 : (!decide (105 ≤ (rByte bs s).1)) = true ∨ (!decide ((rByte bs s).1 < 117)) = true := by assumption
        simp at h2
        omega
    have hp : rVal bs s = (ValT.zero, (rByte bs s).2.form s.at_) := by unfold rVal; rw [if_neg (by omega), if_neg (by omega), if_neg (by omega), if_neg (by omega)]; rw [if_pos hg]
    rw [hp]
    refine ret_cell rfl rfl ((((hL6.set 0 _).set 1 _).set 2 _).set 3 _) und_val rfl size_val rfl ⟨rfl, ?_, ?_⟩
    · refine Rd.un1 (lb := w.heap.size) ?_ h.mem
      repeat (first | (with_reducible assumption) | (with_reducible refine Rd.setLoc ?_ (by simp) (by omega) _ _) | (with_reducible apply Rd.alloc) | (with_reducible apply Rd.drewN))
    · repeat (first | (with_reducible exact Fr.refl _ _) | (with_reducible assumption) | (with_reducible apply Fr.alloc) | (with_reducible apply Fr.drew) | (with_reducible apply Fr.drewN) | (with_reducible refine Fr.setCell ?_ (by first | (left; simp; done) | (right; simp; done) | (right; simp; omega)) _))
  · have q0 : (((rByte bs s).1 : Nat) : Int) ≠ 127 := ne_of_beqI (by assumption)
    have q1 : (((rByte bs s).1 : Nat) : Int) ≠ 126 := ne_of_beqI (by assumption)
    have q2 : (((rByte bs s).1 : Nat) : Int) ≠ 100 := ne_of_beqI (by assumption)
    have q3 : (((rByte bs s).1 : Nat) : Int) ≠ 99 := ne_of_beqI (by assumption)
    have q4 : (((rByte bs s).1 : Nat) : Int) ≠ 125 := ne_of_beqI (by assumption)
    have q5 : (((rByte bs s).1 : Nat) : Int) ≠ 124 := ne_of_beqI (by assumption)
    have q6 : (((rByte bs s).1 : Nat) : Int) ≠ 123 := ne_of_beqI (by assumption)
    have hg : givenK (rByte bs s).1 ≠ 0 := by
      have h1 := HG.out
      intro h0
      rw [h0] at h1
      have h2 : (!decide (105 ≤ (rByte bs s).1)) = false ∧ (!decide ((rByte bs s).1 < 117)) = false := by assumption
      simp at h1 h2
      omega
    have hp : rVal bs s = (⟨3, true, ⟨givenK (rByte bs s).1, 0⟩⟩, (rByte bs s).2) := by unfold rVal; rw [if_neg (by omega), if_neg (by omega), if_neg (by omega), if_neg (by omega)]; rw [if_neg hg]
    rw [hp]
    refine ret_cell rfl rfl (((((hL5.set 0 _).set 1 _).set 2 _).set 3 _).alloc _) und_val rfl size_val rfl ⟨rfl, ?_, ?_⟩
    · refine Rd.un1 (lb := w.heap.size) ?_ h.mem
      repeat (first | (with_reducible assumption) | (with_reducible refine Rd.setLoc ?_ (by simp) (by omega) _ _) | (with_reducible apply Rd.alloc) | (with_reducible apply Rd.drewN))
    · repeat (first | (with_reducible exact Fr.refl _ _) | (with_reducible assumption) | (with_reducible apply Fr.alloc) | (with_reducible apply Fr.drew) | (with_reducible apply Fr.drewN) | (with_reducible refine Fr.setCell ?_ (by first | (left; simp; done) | (right; simp; done) | (right; simp; omega)) _))

end Go.Proofs.YtokneepfknepaaaGreatDoor

set_option linter.unusedSimpArgs false
set_option linter.unusedVariables false
namespace Go.Proofs.YtokneepfknepaaaGreatDoor
open Go.RowKit

def heapC (h : HeapT) : List Value := [.int .i64 h.kind, .int .i64 h.n]
def valC (v : ValT) : List Value := [.int .i64 v.kind, .bool v.null, .int .i64 v.heap.kind, .int .i64 v.heap.n]
def fieldC (f : FieldT) : List Value := [.int .i64 f.pack, .int .i64 f.val.kind, .bool f.val.null, .int .i64 f.val.heap.kind, .int .i64 f.val.heap.n, .bool f.mut_]

theorem rCount_le (bs : List UInt8) (s : RdS) : (rCount bs s).1 ≤ bs.length := by
  unfold rCount
  split
  · simp
  · omega

theorem info_val : (Tryz.prog.info? 39).map (fun i => (i.zero, i.size, i.bytes)) = some (some (.agg #[.int .i64 0, .bool false, .int .i64 0, .int .i64 0]), 4, 32) := by kernel_rfl
theorem und_vals : Tryz.prog.underlying 35 = some (.slice 39) := by kernel_rfl
/-- append on such a slice of the call's own. -/
theorem app_val {w : World} {ops : Array Oper} {rest : List Oper} {o : Oper} {a : Act} {Q : Exit → Act → World → Prop} (hgd : o.guard = none) (s x : Operand) (tx : TypeId)
    (ho : o.op = .call { callee := .builtin .append, args := #[s, x], argTypes := #[35, tx] })
    (v : Value) (n : Nat) (xs : List Value) (hs : a.eval s = v) (hown : Own [] w 39 4 v n xs) (xv : Value) (m : Nat) (news : List Value) (hx : a.eval x = xv) (hsrc : Src Tryz.prog 4 tx xv m news w)
    (hb : n + m ≤ 1099511627776)
    (h : ∀ v' w', Own [] w' 39 4 v' (n + m) (xs ++ news) → Fr (Value.blk v) w w' → (Value.blk v' = Value.blk v ∨ Value.blk v' = [w.heap.size]) → wpList Tryz.prog ops Q rest (a.put o.dst v') w') :
    wpList Tryz.prog ops Q (o :: rest) a w := by
  obtain ⟨i0, hi, hz0, hz1, hz2⟩ := info_parts info_val
  exact wpList_app hgd s x _ tx ho _ i0 _ 4 32 und_vals hi hz0 hz1 hz2 rfl (by decide) [] (by simp) v n xs hs hown xv m news hx hsrc (by omega) (by unfold maxLen; omega) h

set_option maxRecDepth 100000 in
set_option maxHeartbeats 400000 in
theorem told_vals {S : List Nat} {w : World} {rb : Nat} {bv : Value} {bs : List UInt8} {s : RdS} (h : Rd S w rb bv bs s) (v : Value) :
    Calls Tryz.prog 116 #[.pointer (some ⟨rb, 0, none⟩), v] w fun e w' => e = .returned (if s.err = 0 then v else .slice none 0 0) ∧ w = w' := by
  by_cases he : s.err = 0
  · have g1 : (s.err == 0) = true := by simp [he]
    rw [if_pos he]
    clear he
    go_enter Tryz.func116, Tryz.ntmps116
    go_wp2_with (go_at_call 85; refine (rd_reads h).mono ?_; rintro e w' ⟨rfl, rfl⟩)
    go_ret
    exact ⟨rfl, rfl⟩
  · have g1 : (s.err == 0) = false := by simp [he]
    rw [if_neg he]
    clear he
    go_enter Tryz.func116, Tryz.ntmps116
    go_wp2_with (go_at_call 85; refine (rd_reads h).mono ?_; rintro e w' ⟨rfl, rfl⟩)
    go_ret
    exact ⟨rfl, rfl⟩

end Go.Proofs.YtokneepfknepaaaGreatDoor

set_option linter.unusedSimpArgs false
set_option linter.unusedVariables false
namespace Go.Proofs.YtokneepfknepaaaGreatDoor
open Go.RowKit

theorem lebGo_32 : ∀ (l : List UInt8) (at_ done acc : Nat), acc < 2 ^ done → done < 32 → (lebGo false 32 l at_ done acc).1 < 549755813888 := by
  intro l
  induction l with
  | nil => intro at_ done acc _ _; simp [lebGo]
  | cons c r ih =>
    intro at_ done acc ha hd
    have hlt : acc + c.toNat % 128 * 2 ^ done < 2 ^ (done + 7) := join_lt ha (by rw [show done + 7 - done = 7 by omega]; omega) (by omega)
    have hm : (acc + c.toNat % 128 * 2 ^ done) % 18446744073709551616 < 2 ^ (done + 7) := Nat.lt_of_le_of_lt (Nat.mod_le _ _) hlt
    have hp : 2 ^ (done + 7) ≤ 2 ^ 39 := Nat.pow_le_pow_right (by omega) (by omega)
    simp only [lebGo]
    split
    · simp
    · split
      · simp only [Bool.false_and, Bool.false_eq_true, if_false]
        omega
      · split
        · simp
        · exact ih _ _ _ hm (by omega)
theorem rU32_lt (bs : List UInt8) (s : RdS) : (rU bs 32 s).1 < 549755813888 := by
  unfold rU
  split
  · split
    · unfold lebRead
      split
      · exact lebGo_32 _ _ _ _ (by simp) (by omega)
      · simp
    · simp
  · simp

end Go.Proofs.YtokneepfknepaaaGreatDoor

set_option linter.unusedSimpArgs false
set_option linter.unusedVariables false
namespace Go.Proofs.YtokneepfknepaaaGreatDoor
open Go.RowKit
def fieldV (f : FieldT) : Value := .agg #[.int .i64 f.pack, .int .i64 f.val.kind, .bool f.val.null, .int .i64 f.val.heap.kind, .int .i64 f.val.heap.n, .bool f.mut_]
attribute [go_sem] fieldV
end Go.Proofs.YtokneepfknepaaaGreatDoor

set_option linter.unusedSimpArgs false
set_option linter.unusedVariables false
namespace Go.Proofs.YtokneepfknepaaaGreatDoor
open Go.RowKit

theorem Sl.shape {S : List Nat} {w : World} {k n : Nat} {v : Value} {cs : List Value} (h : Sl S w k v n cs) : ∃ a cap, v = .slice a n cap := by
  obtain ⟨_, _, a, cap, rfl, _⟩ := h
  exact ⟨a, cap, rfl⟩
theorem Sl.rd {S : List Nat} {w w' : World} {rb k n : Nat} {v : Value} {cs : List Value} (h : Sl S w k v n cs) (hf : Fr [rb] w w') (hm : rb ∈ S) : Sl S w' k v n cs :=
  h.fr hf (by intro b _ hb; simp at hb; subst hb; exact hm)
theorem Sl.one {S : List Nat} {w : World} {k n : Nat} {v : Value} {cs : List Value} (h : Sl S w k v n cs) : v.oneCell' = true := by
  obtain ⟨_, _, a, cap, rfl, _⟩ := h
  rfl

/-- The three lists of a composite type, and the supers of a sub type. -/
def CompR (S : List Nat) (w : World) (c : CompT) (pv rv fv : Value) : Prop :=
  Sl S w 4 pv c.params.length (c.params.flatMap valC) ∧ Sl S w 4 rv c.results.length (c.results.flatMap valC) ∧ Sl S w 6 fv c.fields.length (c.fields.flatMap fieldC)
def SubR (S : List Nat) (w : World) (t : SubT) (hv pv rv fv : Value) : Prop :=
  Sl S w 2 hv t.supers.length (t.supers.flatMap heapC) ∧ CompR S w t.comp pv rv fv
def SubsR (S : List Nat) (w : World) : List SubT → List Value → Prop
  | [], cs => cs = []
  | t :: ts, cs => ∃ hv pv rv fv rest, cs = .bool t.final_ :: hv :: .int .i64 t.comp.kind :: pv :: rv :: fv :: rest ∧ SubR S w t hv pv rv fv ∧ SubsR S w ts rest
theorem CompR.fr {S S' : List Nat} {w w' : World} {c : CompT} {pv rv fv : Value} (h : CompR S w c pv rv fv) (hf : Fr S' w w') (hs : ∀ b, b < w.heap.size → b ∈ S' → b ∈ S) : CompR S w' c pv rv fv :=
  ⟨h.1.fr hf hs, h.2.1.fr hf hs, h.2.2.fr hf hs⟩
theorem CompR.sub {S S' : List Nat} {w : World} {c : CompT} {pv rv fv : Value} (h : CompR S w c pv rv fv) (hs : ∀ b, b < w.heap.size → b ∈ S' → b ∈ S) : CompR S' w c pv rv fv :=
  ⟨h.1.sub hs, h.2.1.sub hs, h.2.2.sub hs⟩
theorem SubR.fr {S S' : List Nat} {w w' : World} {t : SubT} {hv pv rv fv : Value} (h : SubR S w t hv pv rv fv) (hf : Fr S' w w') (hs : ∀ b, b < w.heap.size → b ∈ S' → b ∈ S) : SubR S w' t hv pv rv fv :=
  ⟨h.1.fr hf hs, h.2.fr hf hs⟩
theorem SubR.sub {S S' : List Nat} {w : World} {t : SubT} {hv pv rv fv : Value} (h : SubR S w t hv pv rv fv) (hs : ∀ b, b < w.heap.size → b ∈ S' → b ∈ S) : SubR S' w t hv pv rv fv :=
  ⟨h.1.sub hs, h.2.sub hs⟩
theorem SubsR.fr {S S' : List Nat} {w w' : World} (hf : Fr S' w w') (hs : ∀ b, b < w.heap.size → b ∈ S' → b ∈ S) : ∀ {ts : List SubT} {cs : List Value}, SubsR S w ts cs → SubsR S w' ts cs
  | [], _, h => h
  | _ :: _, _, ⟨hv, pv, rv, fv, rest, e, h1, h2⟩ => ⟨hv, pv, rv, fv, rest, e, h1.fr hf hs, SubsR.fr hf hs h2⟩
theorem SubsR.sub {S S' : List Nat} {w : World} (hs : ∀ b, b < w.heap.size → b ∈ S' → b ∈ S) : ∀ {ts : List SubT} {cs : List Value}, SubsR S w ts cs → SubsR S' w ts cs
  | [], _, h => h
  | _ :: _, _, ⟨hv, pv, rv, fv, rest, e, h1, h2⟩ => ⟨hv, pv, rv, fv, rest, e, h1.sub hs, SubsR.sub hs h2⟩
theorem SubsR.snoc {S : List Nat} {w : World} {t : SubT} {hv pv rv fv : Value} (ht : SubR S w t hv pv rv fv) : ∀ {ts : List SubT} {cs : List Value}, SubsR S w ts cs →
    SubsR S w (ts ++ [t]) (cs ++ [.bool t.final_, hv, .int .i64 t.comp.kind, pv, rv, fv])
  | [], _, h => by
    have h : _ = [] := h
    subst h
    exact ⟨hv, pv, rv, fv, [], rfl, ht, rfl⟩
  | _ :: _, _, ⟨hv', pv', rv', fv', rest, e, h1, h2⟩ => by
    subst e
    exact ⟨hv', pv', rv', fv', rest ++ _, rfl, h1, SubsR.snoc ht h2⟩

end Go.Proofs.YtokneepfknepaaaGreatDoor
