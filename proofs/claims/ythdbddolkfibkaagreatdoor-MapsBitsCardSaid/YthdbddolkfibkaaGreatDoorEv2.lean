
/- A reckoner for whole calls on known inputs, part 2: a new block, a store, a block given up; what a step keeps. -/
import Derived.Test.YthdbddolkfibkaaGreatDoorEv1
set_option linter.unusedSimpArgs false
set_option linter.unusedVariables false
namespace Go.Proofs.YthdbddolkfibkaaGreatDoor
open Go.RowKit

/-- One more block with a place. -/
def Emb.ext (E : Emb) (g b o c : Nat) : Emb :=
  { E with on := fun x => x = g ∨ E.on x, adr := fun x => if x = g then b else E.adr x, off := fun x => if x = g then o else E.off x, cap := fun x => if x = g then c else E.cap x }
theorem Emb.le_ext {E : Emb} {g b o c : Nat} (h : ¬ E.on g) : E.le (E.ext g b o c) where
  on := fun _ k => .inr k
  adr := fun x k => if_neg (fun e : x = g => h (e ▸ k))
  off := fun x k => if_neg (fun e : x = g => h (e ▸ k))
  cap := fun x k => if_neg (fun e : x = g => h (e ▸ k))
  sy := rfl
  n0 := rfl
  tag := rfl
theorem BlkR.le {E E' : Emb} (h : E.le E') {w : World} {g : Nat} {cs : List CV} (hon : E.on g) (k : BlkR E w g cs) : BlkR E' w g cs := by
  obtain ⟨c, T, fz, h1, h2, h3, h4, h5⟩ := k
  refine ⟨c, T, fz, by rw [h.adr g hon]; exact h1, by rw [h.off g hon, h.cap g hon]; exact h2, by rw [h.cap g hon]; exact h3, by rw [h.n0, h.tag, h.off g hon]; exact h4, fun i v hi => ?_⟩
  obtain ⟨u, a1, a2, a3⟩ := h5 i v hi
  exact ⟨u, by rw [h.off g hon]; exact a1, a2.le h, a3⟩
theorem MapR.le {E E' : Emb} (h : E.le E') {w : World} {g : Nat} {cs : List CV} (hon : E.on g) (k : MapR E w g cs) : MapR E' w g cs := by
  obtain ⟨c, ds, es, h1, h2, h3⟩ := k
  exact ⟨c, ds, es, h1, by rw [h.adr g hon]; exact h2, h3.le h⟩
theorem MapR.world {E : Emb} {w w' : World} {g : Nat} {cs : List CV} (h : w'.heap[E.adr g]? = w.heap[E.adr g]?) (k : MapR E w g cs) : MapR E w' g cs := by
  obtain ⟨c, ds, es, h1, h2, h3⟩ := k
  exact ⟨c, ds, es, h1, by rw [h]; exact h2, h3⟩
theorem BlkR.world {E : Emb} {w w' : World} {g : Nat} {cs : List CV} (h : w'.heap[E.adr g]? = w.heap[E.adr g]?) (k : BlkR E w g cs) : BlkR E w' g cs := by
  obtain ⟨c, T, fz, h1, h⟩ := k
  exact ⟨c, T, fz, by rw [‹w'.heap[E.adr g]? = _›]; exact h1, h⟩

theorem OrR.le {E E' : Emb} (h : E.le E') {w : World} {g : Nat} {cs : List CV} (hon : E.on g) (k : BlkR E w g cs ∨ MapR E w g cs) : BlkR E' w g cs ∨ MapR E' w g cs := k.imp (·.le h hon) (·.le h hon)
theorem OrR.world {E : Emb} {w w' : World} {g : Nat} {cs : List CV} (h : w'.heap[E.adr g]? = w.heap[E.adr g]?) (k : BlkR E w g cs ∨ MapR E w g cs) : BlkR E w' g cs ∨ MapR E w' g cs := k.imp (·.world h) (·.world h)
/-- The depth of all tries: keys below 2^40. -/
abbrev TD : Nat := 40
def hput (h : Tr (List CV)) (g : Nat) (cs : List CV) : Tr (List CV) := h.put (some cs) TD g
def hdel (h : Tr (List CV)) (g : Nat) : Tr (List CV) := h.put none TD g
def keyMax : Nat := 1099511627775
theorem get_hput (h : Tr (List CV)) {g : Nat} (cs : List CV) (m : Nat) (hg : g < keyMax) : (hput h g cs).get m = if m = g then some cs else h.get m :=
  Tr.get_put _ TD h g m (by unfold keyMax at hg; omega)
theorem get_hdel (h : Tr (List CV)) {g : Nat} (m : Nat) (hg : g < keyMax) : (hdel h g).get m = if m = g then none else h.get m :=
  Tr.get_put _ TD h g m (by unfold keyMax at hg; omega)

theorem size_alloc' (w : World) (o : Obj) : (w.alloc o).heap.size = w.heap.size + 1 := World.size_alloc w o
theorem alloc_old {w : World} {o : Obj} {b : Nat} (h : b < w.heap.size) : (w.alloc o).heap[b]? = w.heap[b]? := by
  simp only [World.alloc]
  rw [Array.getElem?_push]
  rw [if_neg (by omega)]
theorem alloc_new (w : World) (o : Obj) : (w.alloc o).heap[w.heap.size]? = some o := by
  simp only [World.alloc]
  rw [Array.getElem?_push]
  simp
theorem WR.ext {E : Emb} {h : Tr (List CV)} {nx nx' : Nat} {w : World} (W : WR E h nx w) {g : Nat} (hg : ¬ E.on g) (hlt : g < nx') (hle : nx ≤ nx') (hk : g < keyMax) {cs : List CV} {c : Array Value} {T : TypeId} {fz : Nat × Nat}
    (hlen : cs.length ≤ c.size) (hfz : fz.1 = fz.2 ∨ c.size ≤ fz.1) (htag : g % 4 ≠ 0 → T = E.tag (g % 4)) (hv : ∀ (i : Nat) v, cs[i]? = some v → ∃ u, c[i]? = some u ∧ VR E v u ∧ u.oneCell' = true) {h' : Tr (List CV)} (hh : ∀ m, h'.get m = if m = g then some cs else h.get m) :
    WR (E.ext g w.heap.size 0 c.size) h' nx' (w.alloc (.cells c T fz)) := by
  have hle' := Emb.le_ext (b := w.heap.size) (o := 0) (c := c.size) hg
  refine ⟨fun x xs hon hx => ?_, fun x x' xs xs' hon hon' hx hx' hadr => ?_, fun x hon => ?_⟩
  · rw [hh] at hx
    by_cases e : x = g
    · subst e
      rw [if_pos rfl] at hx
      injection hx with hx
      subst hx
      refine .inl ⟨c, T, fz, ?_, ?_, ?_, fun _ => ⟨hfz, fun h => ⟨htag h, by simp [Emb.ext]⟩⟩, fun i v hi => ?_⟩
      · simp only [Emb.ext, if_pos]; exact alloc_new w _
      · simp [Emb.ext]
      · simpa [Emb.ext] using hlen
      · obtain ⟨u, a1, a2, a3⟩ := hv i v hi
        exact ⟨u, by simpa [Emb.ext] using a1, a2.le hle', a3⟩
    · rw [if_neg e] at hx
      have hon0 : E.on x := hon.resolve_left e
      refine OrR.le hle' hon0 (OrR.world ?_ (W.bk0 x xs hon0 hx))
      exact alloc_old (W.lt x hon0).2
  · rw [hh] at hx hx'
    by_cases e : x = g
    · by_cases e' : x' = g
      · rw [e, e']
      · have hon0 : E.on x' := hon'.resolve_left e'
        have := (W.lt x' hon0).2
        simp only [Emb.ext, if_pos e, if_neg e'] at hadr
        omega
    · have hon0 : E.on x := hon.resolve_left e
      by_cases e' : x' = g
      · have := (W.lt x hon0).2
        simp only [Emb.ext, if_pos e', if_neg e] at hadr
        omega
      · have hon1 : E.on x' := hon'.resolve_left e'
        rw [if_neg e] at hx
        rw [if_neg e'] at hx'
        simp only [Emb.ext, if_neg e, if_neg e'] at hadr
        exact W.apart x x' xs xs' hon0 hon1 hx hx' hadr
  · rw [size_alloc']
    by_cases e : x = g
    · simp only [Emb.ext, if_pos e]
      omega
    · have := W.lt x (hon.resolve_left e)
      simp only [Emb.ext, if_neg e]
      omega

/-- What a step keeps: blocks that are not its own, blocks that have no place yet. -/
structure EStep (E : Emb) (h : Tr (List CV)) (nx : Nat) (w : World) (E' : Emb) (h' : Tr (List CV)) (nx' : Nat) (w' : World) : Prop where
  le : E.le E'
  wr : WR E' h' nx' w'
  sz : w.heap.size ≤ w'.heap.size
  fr : ∀ b, b < w.heap.size → (∀ g, E.on g → E.n0 ≤ g → E.adr g ≠ b) → w'.heap[b]? = w.heap[b]?
  own : ∀ g, E'.on g → (∃ g0, E.on g0 ∧ (E.n0 ≤ g → E.n0 ≤ g0) ∧ E'.adr g = E.adr g0) ∨ w.heap.size ≤ E'.adr g
  nxle : nx ≤ nx'
  ph : ∀ g, g < nx → ¬ E.on g → ¬ E'.on g ∧ h'.get g = h.get g
  os : w'.os = w.os
  tape : w'.tape = w.tape
  output : w'.output = w.output
theorem EStep.refl {E : Emb} {h : Tr (List CV)} {nx : Nat} {w : World} (W : WR E h nx w) : EStep E h nx w E h nx w :=
  ⟨.refl E, W, Nat.le_refl _, fun _ _ _ => rfl, fun g a => .inl ⟨g, a, id, rfl⟩, Nat.le_refl _, fun _ _ a => ⟨a, rfl⟩, rfl, rfl, rfl⟩
theorem EStep.trans {E F G : Emb} {h k l : Tr (List CV)} {nx ny nz : Nat} {w v u : World} (a : EStep E h nx w F k ny v) (b : EStep F k ny v G l nz u) : EStep E h nx w G l nz u where
  le := a.le.trans b.le
  wr := b.wr
  sz := Nat.le_trans a.sz b.sz
  fr := fun x hx hn => by
    rw [b.fr x (Nat.lt_of_lt_of_le hx a.sz) fun g hg h0 e => ?_]
    · exact a.fr x hx hn
    · rw [a.le.n0] at h0
      rcases a.own g hg with ⟨g0, o1, o2, o3⟩ | o
      · exact hn g0 o1 (o2 h0) (o3.symm.trans e)
      · omega
  own := fun g hg => by
    rcases b.own g hg with ⟨g0, o1, o2, o3⟩ | o
    · rw [a.le.n0] at o2
      rcases a.own g0 o1 with ⟨g1, p1, p2, p3⟩ | p
      · exact .inl ⟨g1, p1, fun h => p2 (o2 h), o3.trans p3⟩
      · exact .inr (by rw [o3]; exact p)
    · exact .inr (Nat.le_trans a.sz o)
  nxle := Nat.le_trans a.nxle b.nxle
  ph := fun g hg hn => by
    obtain ⟨p1, p2⟩ := a.ph g hg hn
    obtain ⟨q1, q2⟩ := b.ph g (Nat.lt_of_lt_of_le hg a.nxle) p1
    exact ⟨q1, q2.trans p2⟩
  os := b.os.trans a.os
  tape := b.tape.trans a.tape
  output := b.output.trans a.output
/-- A new block of the call's own. -/
theorem EStep.alloc {E : Emb} {h : Tr (List CV)} {nx nx' : Nat} {w : World} (W : WR E h nx w) {g : Nat} (hg : ¬ E.on g) (hge : nx ≤ g) (hlt : g < nx') (hk : g < keyMax) {cs : List CV} {c : Array Value} {T : TypeId} {fz : Nat × Nat}
    (hlen : cs.length ≤ c.size) (hfz : fz.1 = fz.2 ∨ c.size ≤ fz.1) (htag : g % 4 ≠ 0 → T = E.tag (g % 4)) (hv : ∀ (i : Nat) v, cs[i]? = some v → ∃ u, c[i]? = some u ∧ VR E v u ∧ u.oneCell' = true) :
    EStep E h nx w (E.ext g w.heap.size 0 c.size) (hput h g cs) nx' (w.alloc (.cells c T fz)) where
  le := Emb.le_ext hg
  wr := W.ext hg hlt (by omega) hk hlen hfz htag hv (fun m => get_hput h cs m hk)
  sz := by rw [size_alloc']; omega
  fr := fun b hb _ => alloc_old hb
  own := fun x hx => by
    by_cases e : x = g
    · right; simp only [Emb.ext, if_pos e]; exact Nat.le_refl _
    · left; exact ⟨x, hx.resolve_left e, id, if_neg e⟩
  nxle := by omega
  ph := fun x hx hn => by
    have e : x ≠ g := by omega
    exact ⟨fun a => a.elim e hn, by rw [get_hput h cs x hk, if_neg e]⟩
  os := rfl
  tape := rfl
  output := rfl

/-- Cells of a block written. -/
theorem setCells_heap (b : Nat) : ∀ (vs : List Value) (o : Nat) (w : World) (c : Array Value) (T : TypeId) (fz : Nat × Nat), w.heap[b]? = some (.cells c T fz) → o + vs.length ≤ c.size →
    ∃ c', (w.setCells b o vs).heap[b]? = some (.cells c' T fz) ∧ c'.size = c.size ∧ (∀ i, c'[i]? = if o ≤ i ∧ i < o + vs.length then vs[i - o]? else c[i]?) ∧ (∀ b', b' ≠ b → (w.setCells b o vs).heap[b']? = w.heap[b']?) ∧ (w.setCells b o vs).heap.size = w.heap.size
  | [], o, w, c, T, fz, h, _ => ⟨c, h, rfl, fun i => by rw [if_neg (by simp only [List.length_nil]; omega)], fun _ _ => rfl, rfl⟩
  | v :: vs, o, w, c, T, fz, h, hl => by
    rw [World.setCells]
    have h1 : (w.setCell ⟨b, o, none⟩ v).heap[b]? = some (.cells (c.setIfInBounds o v) T fz) := by
      simp [World.setCell, Array.getElem?_modify, h]
    obtain ⟨c', e1, e2, e3, e4, e5⟩ := setCells_heap b vs (o + 1) (w.setCell ⟨b, o, none⟩ v) (c.setIfInBounds o v) T fz h1 (by simp at hl ⊢; omega)
    refine ⟨c', e1, by rw [e2]; simp, fun i => ?_, fun b' hb => ?_, by rw [e5]; simp [World.setCell]⟩
    · rw [e3 i, Array.getElem?_setIfInBounds]
      simp only [List.length_cons] at hl ⊢
      by_cases c1 : o + 1 ≤ i ∧ i < o + 1 + vs.length
      · rw [if_pos c1, if_pos (by omega), show i - o = (i - (o + 1)) + 1 by omega, List.getElem?_cons_succ]
      · rw [if_neg c1]
        by_cases c2 : o = i
        · subst c2
          rw [if_pos rfl, if_pos (by omega), if_pos (by omega)]
          simp
        · rw [if_neg c2, if_neg (by omega)]
    · rw [e4 b' hb]
      simp only [World.setCell, Array.getElem?_modify]
      rw [if_neg (fun e => hb e.symm)]
theorem setCells_st (b : Nat) : ∀ (vs : List Value) (o : Nat) (w : World), (w.setCells b o vs).os = w.os ∧ (w.setCells b o vs).tape = w.tape ∧ (w.setCells b o vs).output = w.output
  | [], _, _ => ⟨rfl, rfl, rfl⟩
  | v :: vs, o, w => by
    rw [World.setCells]
    exact setCells_st b vs (o + 1) _
/-- A row of cells written into a list. -/
def lput (cs : List CV) (o : Nat) (vs : List CV) : List CV := cs.take o ++ (vs ++ cs.drop (o + vs.length))
theorem lput_len (cs : List CV) (o : Nat) (vs : List CV) (h : o + vs.length ≤ cs.length) : (lput cs o vs).length = cs.length := by
  unfold lput
  simp only [List.length_append, List.length_take, List.length_drop]
  omega
theorem lput_get (cs : List CV) (o : Nat) (vs : List CV) (h : o + vs.length ≤ cs.length) (i : Nat) : (lput cs o vs)[i]? = if o ≤ i ∧ i < o + vs.length then vs[i - o]? else cs[i]? := by
  unfold lput
  have h0 : (cs.take o).length = o := by rw [List.length_take]; omega
  by_cases h1 : i < o
  · rw [List.getElem?_append_left (by omega), List.getElem?_take, if_pos h1, if_neg (by omega)]
  · rw [List.getElem?_append_right (by omega), h0]
    by_cases h2 : i < o + vs.length
    · rw [List.getElem?_append_left (by omega), if_pos (by omega)]
    · rw [List.getElem?_append_right (by omega), List.getElem?_drop, if_neg (by omega)]
      congr 1
      omega
theorem EStep.store {E : Emb} {h : Tr (List CV)} {nx : Nat} {w : World} (W : WR E h nx w) {g o : Nat} (hon : E.on g) (h0 : E.n0 ≤ g) (hk : g < keyMax) {cs vs : List CV} {us : List Value} (hg : hget h g = some cs) (hl : o + vs.length ≤ cs.length)
    (hv : VRs E vs us) (h1 : ∀ u ∈ us, u.oneCell' = true) : EStep E h nx w E (hput h g (lput cs o vs)) nx (w.setCells (E.adr g) (E.off g + o) us) := by
  have B := W.bk g cs hon hg
  have hg := (hget_eq hg).1
  obtain ⟨c, T, fz, b1, b2, b3, b4, b5⟩ := B
  have hlen := hv.len
  obtain ⟨c', e1, e2, e3, e4, e5⟩ := setCells_heap (E.adr g) us (E.off g + o) w c T fz b1 (by omega)
  refine ⟨.refl E, ⟨fun x xs hx hxs => ?_, fun x x' xs xs' hx hx' hxs hxs' ha => ?_, fun x hx => ?_⟩, by rw [e5]; exact Nat.le_refl _, fun b hb hn => e4 b (fun e => hn g hon h0 e.symm), fun x a => .inl ⟨x, a, id, rfl⟩, Nat.le_refl _, fun x hx hn => ?_, (setCells_st _ _ _ _).1, (setCells_st _ _ _ _).2.1, (setCells_st _ _ _ _).2.2⟩
  · rw [get_hput h _ x hk] at hxs
    by_cases e : x = g
    · subst e
      rw [if_pos rfl] at hxs
      injection hxs with hxs
      subst hxs
      refine .inl ⟨c', T, fz, e1, by rw [e2]; exact b2, by rw [lput_len cs o vs hl]; exact b3, fun q => by rw [e2]; exact b4 q, fun i v hi => ?_⟩
      rw [lput_get cs o vs hl] at hi
      rw [e3]
      by_cases q : o ≤ i ∧ i < o + vs.length
      · rw [if_pos q] at hi
        rw [if_pos (by omega), show E.off x + i - (E.off x + o) = i - o by omega]
        obtain ⟨u, hu, huv⟩ := hv.get hi
        exact ⟨u, hu, huv, h1 u (List.mem_of_getElem? hu)⟩
      · rw [if_neg q] at hi
        rw [if_neg (by omega)]
        exact b5 i v hi
    · rw [if_neg e] at hxs
      refine OrR.world (e4 _ fun a => e (W.apart x g xs cs hx hon hxs hg a)) (W.bk0 x xs hx hxs)
  · rw [get_hput h _ x hk] at hxs
    rw [get_hput h _ x' hk] at hxs'
    by_cases e : x = g
    · by_cases e' : x' = g
      · rw [e, e']
      · rw [if_neg e'] at hxs'
        subst e
        exact W.apart x x' cs xs' hx hx' hg hxs' ha
    · rw [if_neg e] at hxs
      by_cases e' : x' = g
      · subst e'
        exact W.apart x x' xs cs hx hx' hxs hg ha
      · rw [if_neg e'] at hxs'
        exact W.apart x x' xs xs' hx hx' hxs hxs' ha
  · rw [e5]; exact W.lt x hx
  · exact ⟨hn, by rw [get_hput h _ x hk, if_neg (fun e : x = g => hn (by rw [e]; exact hon))]⟩
end Go.Proofs.YthdbddolkfibkaaGreatDoor
