/- What a call's own memory is, as one fact: a list of things, apart from each other, all of them new since the call began. -/
import Derived.Test.YtokneepfknepaaaDoorStepA
set_option linter.unusedSimpArgs false
set_option linter.unusedVariables false
namespace Go.Proofs.YtokneepfknepaaaDoor
open Go.RowKit

inductive Res where
  | loc (b : Nat) (cs : List Value) (T : TypeId)
  | own (e : TypeId) (k : Nat) (v : Value) (n : Nat) (xs : List Value)
def Res.blk : Res → List Nat
  | .loc b _ _ => [b]
  | .own _ _ v _ _ => Value.blk v
def Res.on (w : World) : Res → Prop
  | .loc b cs T => Loc w b cs T
  | .own e k v n xs => Own [] w e k v n xs
def Res.out (v : Value) (xs : List UInt8) : Res := .own 5 1 v xs.length (xs.map B)

theorem Res.on_lt {w : World} : ∀ {r : Res}, r.on w → ∀ b, b ∈ r.blk → b < w.heap.size
  | .loc b cs T, h, c, hc => by
    obtain rfl : c = b := by simpa [Res.blk] using hc
    exact Loc.lt h
  | .own e k v n xs, h, c, hc => (Own.blk_lt h c hc).1
theorem Res.on_fr {w w' : World} {S : List Nat} (hf : Fr S w w') : ∀ {r : Res}, r.on w → (∀ b, b ∈ r.blk → b ∉ S) → r.on w'
  | .loc b cs T, h, hn => Loc.fr h hf (hn b (by simp [Res.blk]))
  | .own e k v n xs, h, hn => Own.fr h hf (fun b hb hm => hn b hm hb)

structure St (S : List Nat) (w0 w : World) (G : List Res) : Prop where
  fr : Fr S w0 w
  all : ∀ r, r ∈ G → r.on w
  new : ∀ r, r ∈ G → ∀ b, b ∈ r.blk → w0.heap.size ≤ b
  apart : G.Pairwise (fun r s => ∀ b, b ∈ r.blk → b ∉ s.blk)

/-- One thing of a list, and the others. -/
inductive Pick {α : Type} : List α → α → List α → Prop
  | here {r : α} {G : List α} : Pick (r :: G) r G
  | there {s r : α} {G G' : List α} : Pick G r G' → Pick (s :: G) r (s :: G')
/-- Some things of a list. -/
inductive Sel {α : Type} : List α → List α → Prop
  | all {G : List α} : Sel G G
  | nil {G : List α} : Sel G []
  | cons {r : α} {G G1 G' : List α} : Pick G r G1 → Sel G1 G' → Sel G (r :: G')

theorem Pick.mem {α : Type} {G G' : List α} {r : α} (h : Pick G r G') : ∀ s, s ∈ G ↔ s = r ∨ s ∈ G' := by
  induction h with
  | here => intro s; simp
  | there h ih => intro s; rw [List.mem_cons, ih, List.mem_cons]; constructor <;> rintro (h | h | h) <;> simp [h]
theorem Pick.apart {G G' : List Res} {r : Res} (h : Pick G r G') (ha : G.Pairwise (fun r s => ∀ b, b ∈ r.blk → b ∉ s.blk)) :
    (r :: G').Pairwise (fun r s => ∀ b, b ∈ r.blk → b ∉ s.blk) := by
  induction h with
  | here => exact ha
  | @there s r G G' h ih =>
    rw [List.pairwise_cons] at ha
    have h2 := ih ha.2
    rw [List.pairwise_cons] at h2
    rw [List.pairwise_cons, List.pairwise_cons]
    refine ⟨fun x hx b hb hb' => ?_, fun x hx => ha.1 x ((h.mem x).2 (.inr hx)), h2.2⟩
    rcases List.mem_cons.1 hx with rfl | hx
    · exact ha.1 r ((h.mem r).2 (.inl rfl)) b hb' hb
    · exact h2.1 x hx b hb hb'
section
variable {S : List Nat} {w0 w : World} {G G' : List Res}
theorem St.start (S : List Nat) (w : World) : St S w w [] := ⟨Fr.refl _ _, (fun _ h => by cases h), (fun _ h => by cases h), List.Pairwise.nil⟩
theorem St.pick (h : St S w0 w G) {r : Res} (p : Pick G r G') : St S w0 w (r :: G') :=
  ⟨h.fr, fun s hs => h.all s ((p.mem s).2 (List.mem_cons.1 hs)), fun s hs => h.new s ((p.mem s).2 (List.mem_cons.1 hs)), p.apart h.apart⟩
theorem St.tail {r : Res} (h : St S w0 w (r :: G)) : St S w0 w G :=
  ⟨h.fr, fun s hs => h.all s (List.mem_cons_of_mem _ hs), fun s hs => h.new s (List.mem_cons_of_mem _ hs), (List.pairwise_cons.1 h.apart).2⟩
theorem Pick.of_mem {α : Type} {G G' : List α} {r : α} (h : Pick G r G') {s : α} (hs : s ∈ G') : s ∈ G := (h.mem s).2 (.inr hs)
theorem Sel.mem {α : Type} {G G' : List α} (h : Sel G G') : ∀ s, s ∈ G' → s ∈ G := by
  induction h with
  | all => exact fun _ h => h
  | nil => exact fun _ h => by cases h
  | cons p _ ih => exact fun s hs => (List.mem_cons.1 hs).elim (fun e => (p.mem s).2 (.inl e)) (fun hs => p.of_mem (ih s hs))
theorem Sel.apart {G G' : List Res} (h : Sel G G') (ha : G.Pairwise (fun r s => ∀ b, b ∈ r.blk → b ∉ s.blk)) : G'.Pairwise (fun r s => ∀ b, b ∈ r.blk → b ∉ s.blk) := by
  induction h with
  | all => exact ha
  | nil => exact List.Pairwise.nil
  | cons p q ih =>
    have h1 := List.pairwise_cons.1 (p.apart ha)
    exact List.pairwise_cons.2 ⟨fun s hs => h1.1 s (q.mem s hs), ih h1.2⟩
theorem St.sel (h : St S w0 w G) (p : Sel G G') : St S w0 w G' :=
  ⟨h.fr, fun s hs => h.all s (p.mem s hs), fun s hs => h.new s (p.mem s hs), p.apart h.apart⟩
theorem St.lt (h : St S w0 w G) {r : Res} (hr : r ∈ G) {b : Nat} (hb : b ∈ r.blk) : b < w.heap.size := Res.on_lt (h.all r hr) b hb
theorem St.step (h : St S w0 w G) {S' : List Nat} {w' : World} (hf : Fr S' w w') (hS : ∀ b, b ∈ S' → b ∈ S ∧ b < w0.heap.size) : St S w0 w' G :=
  ⟨h.fr.then hf (fun b hb => .inl (hS b hb).1), fun r hr => Res.on_fr hf (h.all r hr) (fun b hb hm => by have := h.new r hr b hb; have := (hS b hm).2; omega), h.new, h.apart⟩
theorem St.step0 (h : St S w0 w G) {w' : World} (hf : Fr [] w w') : St S w0 w' G := h.step hf (by simp)
theorem St.drew (h : St S w0 w G) : St S w0 w.drew G := h.step0 ((Fr.refl _ _).drew)
theorem St.drewN (h : St S w0 w G) (n : Nat) : St S w0 (w.drewN n) G := h.step0 ((Fr.refl _ _).drewN n)
theorem St.alloc' (h : St S w0 w G) (o : Obj) : St S w0 (w.alloc o) G := h.step0 ((Fr.refl _ _).alloc o)
theorem St.put (h : St S w0 w G) {r : Res} (hr : r.on w) (hn : ∀ b, b ∈ r.blk → w0.heap.size ≤ b) (ha : ∀ b, b ∈ r.blk → ∀ s, s ∈ G → b ∉ s.blk) : St S w0 w (r :: G) :=
  ⟨h.fr, fun s hs => (List.mem_cons.1 hs).elim (fun e => e ▸ hr) (h.all s), fun s hs => (List.mem_cons.1 hs).elim (fun e => e ▸ hn) (h.new s),
    List.pairwise_cons.2 ⟨fun s hs b hb => ha b hb s hs, h.apart⟩⟩
theorem St.alloc (h : St S w0 w G) (cs : List Value) (T : TypeId) : St S w0 (w.alloc (.cells cs.toArray T)) (.loc w.heap.size cs T :: G) := by
  refine (h.alloc' _).put (Loc.new w cs T) (fun b hb => ?_) (fun b hb s hs hm => ?_)
  · obtain rfl : b = w.heap.size := by simpa [Res.blk] using hb
    exact h.fr.size
  · obtain rfl : b = w.heap.size := by simpa [Res.blk] using hb
    exact Nat.lt_irrefl _ (h.lt hs hm)
/-- What a call of a function brings that has memory of its own. -/
theorem St.call (h : St S w0 w G) {S' : List Nat} {w' : World} {D : List Res} (k : St S' w w' D) (hS : ∀ b, b ∈ S' → b ∈ S ∧ b < w0.heap.size) : St S w0 w' (D ++ G) := by
  have h1 := h.step k.fr hS
  refine ⟨h1.fr, fun r hr => (List.mem_append.1 hr).elim (k.all r) (h1.all r), fun r hr b hb => ?_, ?_⟩
  · rcases List.mem_append.1 hr with hr | hr
    · exact Nat.le_trans h.fr.size (k.new r hr b hb)
    · exact h.new r hr b hb
  · refine List.pairwise_append.2 ⟨k.apart, h.apart, fun r hr s hs b hb hm => ?_⟩
    have h2 := k.new r hr b hb
    have h3 := h.lt hs hm
    omega
/-- What a thing becomes that a call may change. -/
theorem St.turn {r : Res} (h : St S w0 w (r :: G)) {S' : List Nat} {w' : World} {r' : Res} (hf : Fr (r.blk ++ S') w w') (hS : ∀ b, b ∈ S' → b ∈ S ∧ b < w0.heap.size) (hr : r'.on w') (hb : ∀ b, b ∈ r'.blk → b ∈ r.blk ∨ w.heap.size ≤ b) :
    St S w0 w' (r' :: G) := by
  have ha := List.pairwise_cons.1 h.apart
  have hn := h.new r (by simp)
  have hsz := h.fr.size
  have h0 : St S w0 w' G := by
    refine ⟨h.fr.then hf (fun b hb => ?_), fun s hs => Res.on_fr hf (h.all s (by simp [hs])) (fun b hb hm => ?_), fun s hs => h.new s (by simp [hs]), ha.2⟩
    · rcases List.mem_append.1 hb with hb | hb
      · exact .inr (hn b hb)
      · exact .inl (hS b hb).1
    · rcases List.mem_append.1 hm with hm | hm
      · exact ha.1 s hs b hm hb
      · have := h.new s (by simp [hs]) b hb
        have := (hS b hm).2
        omega
  refine h0.put hr (fun b hb' => ?_) (fun b hb' s hs hm => ?_)
  · rcases hb b hb' with h | h
    · exact hn b h
    · omega
  · rcases hb b hb' with h1 | h1
    · exact ha.1 s hs b h1 hm
    · have := h.lt (r := s) (by simp [hs]) hm
      omega
theorem St.app {e : TypeId} {k n n' : Nat} {v v' : Value} {xs xs' : List Value} (h : St S w0 w (.own e k v n xs :: G)) {w' : World} (hf : Fr (Value.blk v) w w') (ho : Own [] w' e k v' n' xs') (hb : Value.blk v' = Value.blk v ∨ Value.blk v' = [w.heap.size]) :
    St S w0 w' (.own e k v' n' xs' :: G) := by
  refine h.turn (S' := []) (r' := .own e k v' n' xs') (by simpa [Res.blk] using hf) (by simp) ho (fun b hm => ?_)
  rcases hb with hb | hb
  · left; simpa [Res.blk, hb] using hm
  · right
    have : b = w.heap.size := by simpa [Res.blk, hb] using hm
    omega
theorem St.ap {v v' : Value} {xs ys : List UInt8} (h : St S w0 w (Res.out v xs :: G)) {w' : World} (ho : Out w' v' ys) (ha : Ap w v w' v') : St S w0 w' (Res.out v' ys :: G) :=
  h.turn (S' := []) (r' := Res.out v' ys) (by simpa [Res.blk, Res.out] using ha.1) (by simp) ho (fun b hm => ha.2 b hm)
theorem St.head {r : Res} (h : St S w0 w (r :: G)) : r.on w := h.all r (by simp)
theorem St.set {b : Nat} {cs : List Value} {T : TypeId} (h : St S w0 w G) (p : Pick G (.loc b cs T) G') (i : Nat) (u : Value) : St S w0 (w.setCell ⟨b, i, none⟩ u) (.loc b (cs.set i u) T :: G') :=
  (h.pick p).turn (S' := []) (r' := .loc b (cs.set i u) T) (by simpa [Res.blk] using (Fr.refl [b] w).setCell (p := ⟨b, i, none⟩) (by simp) u) (by simp) (Loc.set ((h.pick p).head) i u) (fun c hc => .inl hc)
theorem St.loc {b : Nat} {cs : List Value} {T : TypeId} (h : St S w0 w G) (p : Pick G (.loc b cs T) G') : Loc w b cs T := (h.pick p).head
theorem St.own {e : TypeId} {k n : Nat} {v : Value} {xs : List Value} (h : St S w0 w G) (p : Pick G (.own e k v n xs) G') : Own [] w e k v n xs := (h.pick p).head
theorem St.outOf {v : Value} {xs : List UInt8} (h : St S w0 w G) (p : Pick G (Res.out v xs) G') : Out w v xs := (h.pick p).head
theorem St.sl {k n : Nat} {v : Value} {cs : List Value} (h : St S w0 w G) (hs : Sl S w0 k v n cs) : Sl S w k v n cs := hs.fr h.fr (fun _ _ h => h)
theorem St.gl (h : St S w0 w G) (hs : Gl S w0) : Gl S w := hs.fr h.fr (fun _ _ h => h)
end

/-- Going on with a fact. -/
theorem goOn {A B : Prop} (a : A) (h : A → B) : B := h a

/-- What a world's cells are, so far as they are known. -/
def Res.fact (w : World) : Res → Prop
  | .loc b cs _ => (∀ o, w.cell? ⟨b, o, none⟩ = cs[o]?) ∧ (∀ o, w.frozen? ⟨b, o, none⟩ = false) ∧ b < w.heap.size
  | .own .. => True
def Facts (w : World) : List Res → Prop
  | [] => True
  | r :: G => r.fact w ∧ Facts w G
theorem St.facts {S : List Nat} {w0 w : World} : ∀ {G : List Res}, St S w0 w G → Facts w G
  | [], _ => trivial
  | .loc b cs T :: G, h => by
    have hl : Loc w b cs T := h.all _ (List.mem_cons_self)
    exact ⟨⟨hl.cell, hl.frz, hl.lt⟩, St.facts h.tail⟩
  | .own .. :: G, h => ⟨trivial, St.facts h.tail⟩
theorem St.old {S : List Nat} {w0 w : World} {G : List Res} (h : St S w0 w G) : ∀ b o, b < w0.heap.size → b ∉ S → w.cell? ⟨b, o, none⟩ = w0.cell? ⟨b, o, none⟩ := fun _ o hb hn => h.fr.cell hb hn o
end Go.Proofs.YtokneepfknepaaaDoor
