
/- A reckoner for whole calls on known inputs, part 1: tries, abstract values, how they stand for the machine's values, how a heap of abstract blocks stands for the world. -/
import Derived.Test.YthdbddolkfibkaaGreatDoorKit
set_option linter.unusedSimpArgs false
set_option linter.unusedVariables false
namespace Go.Proofs.YthdbddolkfibkaaGreatDoor
open Go.RowKit

/-- A binary trie over the whole numbers. -/
inductive Tr (α : Type) where
  | nil
  | node (l : Tr α) (v : Option α) (r : Tr α)
def Tr.get {α : Type} : Tr α → Nat → Option α
  | .nil, _ => none
  | .node l v r, n => match n with
    | 0 => v
    | m + 1 => match Nat.beq (m % 2) 0 with
      | true => l.get (m / 2)
      | false => r.get (m / 2)
def Tr.put {α : Type} (v : Option α) : Nat → Tr α → Nat → Tr α
  | 0, t, _ => t
  | f + 1, t, n => match n with
    | 0 => match t with
      | .nil => .node .nil v .nil
      | .node l _ r => .node l v r
    | m + 1 => match t with
      | .nil => match Nat.beq (m % 2) 0 with
        | true => .node (put v f .nil (m / 2)) none .nil
        | false => .node .nil none (put v f .nil (m / 2))
      | .node l x r => match Nat.beq (m % 2) 0 with
        | true => .node (put v f l (m / 2)) x r
        | false => .node l x (put v f r (m / 2))
theorem Tr.get_nil {α : Type} (n : Nat) : (Tr.nil : Tr α).get n = none := by unfold Tr.get; rfl
theorem Tr.get_put {α : Type} (v : Option α) : ∀ (f : Nat) (t : Tr α) (n m : Nat), n < 2 ^ f - 1 → (t.put v f n).get m = if m = n then v else t.get m
  | 0, t, n, m, h => by omega
  | f + 1, t, n, m, h => by
    have h2 : 2 ^ (f + 1) = 2 * 2 ^ f := by rw [Nat.pow_succ]; omega
    cases n with
    | zero =>
      cases t with
      | nil =>
        cases m with
        | zero => simp [Tr.put, Tr.get]
        | succ m => simp only [Tr.put, Tr.get]; split <;> simp [Tr.get_nil]
      | node l x r =>
        cases m with
        | zero => simp [Tr.put, Tr.get]
        | succ m => simp [Tr.put, Tr.get]
    | succ n =>
      have ih := fun t m => Tr.get_put v f t (n / 2) m (by omega)
      cases m with
      | zero =>
        cases t with
        | nil => simp only [Tr.put]; split <;> simp [Tr.get]
        | node l x r => simp only [Tr.put]; split <;> simp [Tr.get]
      | succ m =>
        have hd : ∀ b c : Bool, Nat.beq (n % 2) 0 = b → Nat.beq (m % 2) 0 = c → (m + 1 = n + 1 ↔ b = c ∧ m / 2 = n / 2) := by
          intro b c hb hc
          have e1 : b = decide (n % 2 = 0) := by rw [← hb]; rw [Bool.eq_iff_iff]; simp [Nat.beq_eq]
          have e2 : c = decide (m % 2 = 0) := by rw [← hc]; rw [Bool.eq_iff_iff]; simp [Nat.beq_eq]
          subst e1 e2
          rw [decide_eq_decide]
          omega
        cases t with
        | nil =>
          simp only [Tr.put]
          cases hb : Nat.beq (n % 2) 0 <;> cases hc : Nat.beq (m % 2) 0 <;> simp only [Tr.get, hc, ih, hd _ _ hb hc, Tr.get_nil] <;> simp
        | node l x r =>
          simp only [Tr.put]
          cases hb : Nat.beq (n % 2) 0 <;> cases hc : Nat.beq (m % 2) 0 <;> simp only [Tr.get, hc, ih, hd _ _ hb hc] <;> simp

/-- What is known of a value: numbers, truths, strings, places in abstract blocks, slices of them (place, length, cells of an element), structs and arrays, results of several values, functions; or a value by its number. -/
inductive CV where
  | int (k : IntKind) (n : Int)
  | bool (b : Bool)
  | str (s : List UInt8)
  | ptr (g o : Nat)
  | nilp
  | sl (g o n k : Nat)
  | nils
  | sle (g o : Nat)
  | map (g : Nat)
  | mapnil
  | nili
  | mobj (clock : Nat)
  | ment (key val : CV) (born : Nat)
  | agg (cs : List CV)
  | tup (vs : List CV)
  | fn (f : Nat)
  | clo (f : Nat) (fs cs : List CV)
  | nilf
  | undef
  | sym (i : Nat)
  | dfr (l : List CV)
/-- Where the abstract blocks lie: which have a place in the world yet, in which block and from which cell on, how many cells are theirs. Blocks below 'n0' are only read. Of a block of the call's own whose number is no multiple of four the type is known ('tag'). -/
structure Emb where
  on : Nat → Prop
  adr : Nat → Nat
  off : Nat → Nat
  cap : Nat → Nat
  sy : Nat → Value
  n0 : Nat
  tag : Nat → TypeId
mutual
inductive VR (E : Emb) : CV → Value → Prop
  | int (k : IntKind) (n : Int) : VR E (.int k n) (.int k n)
  | bool (b : Bool) : VR E (.bool b) (.bool b)
  | str (s : List UInt8) : VR E (.str s) (.string ⟨s.toArray⟩)
  | ptr (g o : Nat) : E.on g → VR E (.ptr g o) (.pointer (some ⟨E.adr g, E.off g + o, none⟩))
  | nilp : VR E .nilp (.pointer none)
  | sl (g o n k : Nat) : E.on g → VR E (.sl g o n k) (.slice (some ⟨E.adr g, E.off g + o, none⟩) n ((E.cap g - o) / k))
  | nils : VR E .nils (.slice none 0 0)
  | sle (g o : Nat) : E.on g → VR E (.sle g o) (.slice (some ⟨E.adr g, E.off g + o, none⟩) 0 0)
  | map (g : Nat) : E.on g → VR E (.map g) (.map (some (E.adr g)))
  | mapnil : VR E .mapnil (.map none)
  | nili : VR E .nili .nilIface
  | agg (cs : List CV) (us : List Value) : VRs E cs us → VR E (.agg cs) (.agg us.toArray)
  | tup (cs : List CV) (us : List Value) : VRs E cs us → VR E (.tup cs) (.tuple us.toArray)
  | fn (f : Nat) : VR E (.fn f) (.func (.func f) #[] #[])
  | clo (f : Nat) (fs cs : List CV) (us vs : List Value) : VRs E fs us → VRs E cs vs → VR E (.clo f fs cs) (.func (.func f) us.toArray vs.toArray)
  | nilf : VR E .nilf .nilFunc
  | undef : VR E .undef undef
  | sym (i : Nat) : VR E (.sym i) (E.sy i)
inductive VRs (E : Emb) : List CV → List Value → Prop
  | nil : VRs E [] []
  | cons {c : CV} {u : Value} {cs : List CV} {us : List Value} : VR E c u → VRs E cs us → VRs E (c :: cs) (u :: us)
end
/-- One placing of blocks goes on another. -/
structure Emb.le (E E' : Emb) : Prop where
  on : ∀ g, E.on g → E'.on g
  adr : ∀ g, E.on g → E'.adr g = E.adr g
  off : ∀ g, E.on g → E'.off g = E.off g
  cap : ∀ g, E.on g → E'.cap g = E.cap g
  sy : E'.sy = E.sy
  n0 : E'.n0 = E.n0
  tag : E'.tag = E.tag
theorem Emb.le.refl (E : Emb) : E.le E := ⟨fun _ h => h, fun _ _ => rfl, fun _ _ => rfl, fun _ _ => rfl, rfl, rfl, rfl⟩
theorem Emb.le.trans {E F G : Emb} (h : E.le F) (k : F.le G) : E.le G :=
  ⟨fun g a => k.on g (h.on g a), fun g a => (k.adr g (h.on g a)).trans (h.adr g a), fun g a => (k.off g (h.on g a)).trans (h.off g a), fun g a => (k.cap g (h.on g a)).trans (h.cap g a), k.sy.trans h.sy, k.n0.trans h.n0, k.tag.trans h.tag⟩
mutual
theorem VR.le {E E' : Emb} (h : E.le E') : ∀ {c : CV} {u : Value}, VR E c u → VR E' c u
  | _, _, .int k n => .int k n
  | _, _, .bool b => .bool b
  | _, _, .str s => .str s
  | _, _, .ptr g o hg => by rw [← h.adr g hg, ← h.off g hg]; exact .ptr g o (h.on g hg)
  | _, _, .nilp => .nilp
  | _, _, .sl g o n k hg => by rw [← h.adr g hg, ← h.off g hg, ← h.cap g hg]; exact .sl g o n k (h.on g hg)
  | _, _, .nils => .nils
  | _, _, .sle g o hg => by rw [← h.adr g hg, ← h.off g hg]; exact .sle g o (h.on g hg)
  | _, _, .map g hg => by rw [← h.adr g hg]; exact .map g (h.on g hg)
  | _, _, .mapnil => .mapnil
  | _, _, .nili => .nili
  | _, _, .agg cs us hs => .agg cs us (VRs.le h hs)
  | _, _, .tup cs us hs => .tup cs us (VRs.le h hs)
  | _, _, .fn f => .fn f
  | _, _, .clo f fs cs us vs h1 h2 => .clo f fs cs us vs (VRs.le h h1) (VRs.le h h2)
  | _, _, .nilf => .nilf
  | _, _, .undef => .undef
  | _, _, .sym i => by rw [← h.sy]; exact .sym i
theorem VRs.le {E E' : Emb} (h : E.le E') : ∀ {cs : List CV} {us : List Value}, VRs E cs us → VRs E' cs us
  | _, _, .nil => .nil
  | _, _, .cons a b => .cons (VR.le h a) (VRs.le h b)
end
theorem VRs.len {E : Emb} : ∀ {cs : List CV} {us : List Value}, VRs E cs us → cs.length = us.length
  | _, _, .nil => rfl
  | _, _, .cons _ b => by rw [List.length_cons, List.length_cons, b.len]
theorem VRs.get {E : Emb} : ∀ {cs : List CV} {us : List Value}, VRs E cs us → ∀ {i : Nat} {c : CV}, cs[i]? = some c → ∃ u, us[i]? = some u ∧ VR E c u
  | _, _, .cons (u := u) a _, 0, _, e => by
    simp only [List.getElem?_cons_zero, Option.some.injEq] at e
    subst e
    exact ⟨u, rfl, a⟩
  | _, _, .cons _ b, i + 1, _, e => by
    simp only [List.getElem?_cons_succ] at e ⊢
    exact b.get e
  | _, _, .nil, _, _, e => by simp at e
theorem VRs.of {E : Emb} : ∀ {cs : List CV} {us : List Value}, cs.length = us.length → (∀ (i : Nat) c u, cs[i]? = some c → us[i]? = some u → VR E c u) → VRs E cs us
  | [], [], _, _ => .nil
  | c :: cs, u :: us, hl, h => .cons (h 0 c u rfl rfl) (VRs.of (by simpa using hl) fun i c u a b => h (i + 1) c u a b)
  | [], _ :: _, hl, _ => by simp at hl
  | _ :: _, [], hl, _ => by simp at hl
theorem VRs.app {E : Emb} : ∀ {cs : List CV} {us : List Value} {ds : List CV} {vs : List Value}, VRs E cs us → VRs E ds vs → VRs E (cs ++ ds) (us ++ vs)
  | _, _, _, _, .nil, h => h
  | _, _, _, _, .cons a b, h => .cons a (b.app h)
theorem VRs.take {E : Emb} : ∀ {cs : List CV} {us : List Value}, VRs E cs us → ∀ n, VRs E (cs.take n) (us.take n)
  | _, _, .nil, n => by simp; exact .nil
  | _, _, .cons _ _, 0 => by simp; exact .nil
  | _, _, .cons a b, n + 1 => by simp only [List.take_succ_cons]; exact .cons a (b.take n)
theorem VRs.drop {E : Emb} : ∀ {cs : List CV} {us : List Value}, VRs E cs us → ∀ n, VRs E (cs.drop n) (us.drop n)
  | _, _, .nil, n => by simp; exact .nil
  | _, _, .cons a b, 0 => by simp only [List.drop_zero]; exact .cons a b
  | _, _, .cons _ b, n + 1 => by simp only [List.drop_succ_cons]; exact b.drop n

/-- A block's cells are as they are known. -/
def BlkR (E : Emb) (w : World) (g : Nat) (cs : List CV) : Prop :=
  ∃ c T fz, w.heap[E.adr g]? = some (.cells c T fz) ∧ E.off g + E.cap g ≤ c.size ∧ cs.length ≤ E.cap g ∧ (E.n0 ≤ g → (fz.1 = fz.2 ∨ c.size ≤ fz.1) ∧ (g % 4 ≠ 0 → T = E.tag (g % 4) ∧ E.off g = 0)) ∧
    ∀ i v, cs[i]? = some v → ∃ u, c[E.off g + i]? = some u ∧ VR E v u ∧ u.oneCell' = true
/-- The entries of a map. -/
inductive MEs (E : Emb) : List CV → List MapEntry → Prop
  | nil : MEs E [] []
  | cons {k v : CV} {e : MapEntry} {cs : List CV} {es : List MapEntry} : VR E k e.key → VR E v e.val → MEs E cs es → MEs E (.ment k v e.born :: cs) (e :: es)
theorem MEs.le {E E' : Emb} (h : E.le E') : ∀ {cs : List CV} {es : List MapEntry}, MEs E cs es → MEs E' cs es
  | _, _, .nil => .nil
  | _, _, .cons a b c => .cons (a.le h) (b.le h) (c.le h)
/-- A block that is a map. -/
def MapR (E : Emb) (w : World) (g : Nat) (cs : List CV) : Prop :=
  ∃ clock ds es, cs = .mobj clock :: ds ∧ w.heap[E.adr g]? = some (.map es clock) ∧ MEs E ds es.toList
/-- Is a block a map? -/
def isObj : List CV → Bool
  | .mobj _ :: _ => true
  | _ => false
/-- The cells of a block that is none of a map. -/
def hget (h : Tr (List CV)) (g : Nat) : Option (List CV) :=
  match h.get g with
  | some cs => match isObj cs with
    | true => none
    | false => some cs
  | none => none
theorem hget_eq {h : Tr (List CV)} {g : Nat} {cs : List CV} (q : hget h g = some cs) : h.get g = some cs ∧ isObj cs = false := by
  unfold hget at q
  split at q
  · rename_i ds hd
    split at q
    · cases q
    · rename_i ho
      injection q with q
      subst q
      exact ⟨hd, ho⟩
  · cases q
structure WR (E : Emb) (h : Tr (List CV)) (nx : Nat) (w : World) : Prop where
  bk0 : ∀ g cs, E.on g → h.get g = some cs → BlkR E w g cs ∨ MapR E w g cs
  apart : ∀ g g' cs cs', E.on g → E.on g' → h.get g = some cs → h.get g' = some cs' → E.adr g = E.adr g' → g = g'
  lt : ∀ g, E.on g → g < nx ∧ E.adr g < w.heap.size
theorem WR.bk {E : Emb} {h : Tr (List CV)} {nx : Nat} {w : World} (W : WR E h nx w) (g : Nat) (cs : List CV) (hon : E.on g) (hg : hget h g = some cs) : BlkR E w g cs := by
  obtain ⟨h1, h2⟩ := hget_eq hg
  rcases W.bk0 g cs hon h1 with k | ⟨c, ds, es, rfl, _⟩
  · exact k
  · cases h2
theorem WR.mp {E : Emb} {h : Tr (List CV)} {nx : Nat} {w : World} (W : WR E h nx w) {g clock : Nat} {ds : List CV} (hon : E.on g) (hg : h.get g = some (.mobj clock :: ds)) : ∃ es, w.heap[E.adr g]? = some (.map es clock) ∧ MEs E ds es.toList := by
  rcases W.bk0 g _ hon hg with ⟨c, T, fz, _, _, _, _, h5⟩ | ⟨c, es, es', h1, h2, h3⟩
  · obtain ⟨u, _, hv, _⟩ := h5 0 _ rfl
    cases hv
  · injection h1 with a b
    injection a with a
    subst a b
    exact ⟨es', h2, h3⟩
theorem WR.cell {E : Emb} {h : Tr (List CV)} {nx : Nat} {w : World} (W : WR E h nx w) {g o : Nat} {cs : List CV} {v : CV} (hon : E.on g) (hg : hget h g = some cs) (ho : cs[o]? = some v) :
    ∃ u, w.cell? ⟨E.adr g, E.off g + o, none⟩ = some u ∧ VR E v u ∧ u.oneCell' = true := by
  obtain ⟨c, T, fz, h1, _, _, _, h4⟩ := W.bk g cs hon hg
  obtain ⟨u, hu, hv, h5⟩ := h4 o v ho
  exact ⟨u, by simp [World.cell?, h1, hu], hv, h5⟩
end Go.Proofs.YthdbddolkfibkaaGreatDoor
