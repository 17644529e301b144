
/- A reckoner for whole calls on known inputs, part 14: from the laid tables to a call's answer; tables of types and functions that hold. -/
import Derived.Test.YthdbddolkfibkaaGreatDoorEvQ
set_option linter.unusedSimpArgs false
set_option linter.unusedVariables false
namespace Go.Proofs.YthdbddolkfibkaaGreatDoor
open Go.RowKit
section
variable {P : Program}
/-- A table of a list. -/
def trOf {α : Type} : List (Nat × α) → Tr α
  | [] => .nil
  | (k, v) :: l => (trOf l).put (some v) TD k
theorem trOf_get {α : Type} : ∀ {l : List (Nat × α)}, (∀ p, p ∈ l → p.1 < keyMax) → ∀ {k : Nat} {v : α}, (trOf l).get k = some v → (k, v) ∈ l
  | [], _, k, v, h => by simp [trOf, Tr.get_nil] at h
  | (j, u) :: l, hk, k, v, h => by
    unfold trOf at h
    have hj := hk (j, u) List.mem_cons_self
    rw [Tr.get_put _ TD _ j k (by show j < 2 ^ 40 - 1; unfold keyMax at hj; simpa using hj)] at h
    split at h
    · rename_i e
      injection h with h
      rw [e, h]
      exact List.mem_cons_self
    · exact List.mem_cons_of_mem _ (trOf_get (fun p hp => hk p (List.mem_cons_of_mem _ hp)) h)
def keysOk {α : Type} : List (Nat × α) → Bool
  | [] => true
  | (k, _) :: l => Nat.ble (k + 1) keyMax && keysOk l
theorem keysOk_ok {α : Type} : ∀ {l : List (Nat × α)}, keysOk l = true → ∀ p, p ∈ l → p.1 < keyMax
  | [], _, p, hp => by cases hp
  | (k, v) :: l, h, p, hp => by
    simp only [keysOk, Bool.and_eq_true] at h
    rcases List.mem_cons.1 hp with e | e
    · rw [e]; exact Nat.lt_of_succ_le (Nat.le_of_ble_eq_true h.1)
    · exact keysOk_ok h.2 p e
def TK.same : TK → TK → Bool
  | .bool, .bool => true
  | .int k, .int k' => decide (k = k')
  | .str, .str => true
  | .ptr e, .ptr e' => Nat.beq e e'
  | .slice e, .slice e' => Nat.beq e e'
  | .array n e, .array n' e' => Nat.beq n n' && Nat.beq e e'
  | .struct fs, .struct fs' => decide (fs = fs')
  | .func, .func => true
  | .other, .other => true
  | .uptr, .uptr => true
  | _, _ => false
theorem TK.same_eq {a b : TK} (h : TK.same a b = true) : a = b := by
  cases a <;> cases b <;> simp [TK.same, Nat.beq_eq] at h <;> first | rfl | (subst h; rfl) | (obtain ⟨rfl, rfl⟩ := h; rfl)
/-- Rows of types that the program has. -/
def tysOk (P : Program) : List (Nat × TInfo) → Bool
  | [] => true
  | (t, i) :: l => (match rowOf P t with
    | some j => TK.same i.k j.k && (Nat.beq i.size j.size && (Nat.beq i.bytes j.bytes && CV.sames i.zero j.zero))
    | none => false) && tysOk P l
theorem tysOk_ok : ∀ {l : List (Nat × TInfo)}, tysOk P l = true → ∀ p, p ∈ l → TOk P p.1 p.2
  | [], _, p, hp => by cases hp
  | (t, i) :: l, h, p, hp => by
    simp only [tysOk, Bool.and_eq_true] at h
    rcases List.mem_cons.1 hp with e | e
    · rw [e]
      have h1 := h.1
      split at h1
      · rename_i j hj
        simp only [Bool.and_eq_true] at h1
        obtain ⟨a, b, c, d⟩ := h1
        have : i = j := by
          obtain ⟨k1, s1, b1, z1⟩ := i
          obtain ⟨k2, s2, b2, z2⟩ := j
          simp only at a b c d
          rw [TK.same_eq a, Nat.eq_of_beq_eq_true b, Nat.eq_of_beq_eq_true c, CV.sames_eq d]
        rw [this]
        exact rowOf_ok hj
      · cases h1
    · exact tysOk_ok h.2 p e
/-- All the rows that a program has. -/
def tysOf (P : Program) : Nat → List (Nat × TInfo)
  | 0 => []
  | n + 1 => match rowOf P n with
    | some i => (n, i) :: tysOf P n
    | none => tysOf P n
theorem tysOf_ok : ∀ {n : Nat} (p : Nat × TInfo), p ∈ tysOf P n → TOk P p.1 p.2
  | 0, p, hp => by cases hp
  | n + 1, p, hp => by
    unfold tysOf at hp
    split at hp
    · rename_i i hi
      rcases List.mem_cons.1 hp with e | e
      · rw [e]; exact rowOf_ok hi
      · exact tysOf_ok p e
    · exact tysOf_ok p hp
theorem tysOf_key : ∀ {n : Nat}, n < keyMax → ∀ p, p ∈ tysOf P n → p.1 < keyMax
  | 0, _, p, hp => by cases hp
  | n + 1, hn, p, hp => by
    unfold tysOf at hp
    split at hp
    · rename_i i hi
      rcases List.mem_cons.1 hp with e | e
      · rw [e]; omega
      · exact tysOf_key (by omega) p e
    · exact tysOf_key (by omega) p hp
theorem tabOk_of {n : Nat} (hn : n < keyMax) {tg : Nat → Nat} {fl : List (Nat × Func)} (hf : ∀ p, p ∈ fl → P.funcs[p.1]? = some p.2 ∧ (p.2.name == "runtime.NumGoroutine") = false) (hk : keysOk fl = true) {gl : Nat → Bool} (hm : P.follows .mixedOrders = true) :
    TabOk P { ty := trOf (tysOf P n), fn := trOf fl, gl := gl, tag := tg } where
  sym := ⟨(fun _ _ _ _ _ h => by cases h), (fun _ _ _ _ h => by cases h), (fun _ _ _ _ h => by cases h), (fun _ _ h => by cases h)⟩
  ty := fun _ _ h => tysOf_ok _ (trOf_get (tysOf_key hn) h)
  fn := fun _ _ h => hf _ (trOf_get (keysOk_ok hk) h)
  mixed := hm
theorem tabOk_sym {n : Nat} (hn : n < keyMax) {fl : List (Nat × Func)} (hf : ∀ p, p ∈ fl → P.funcs[p.1]? = some p.2 ∧ (p.2.name == "runtime.NumGoroutine") = false) (hk : keysOk fl = true) (hm : P.follows .mixedOrders = true) {T : Tab} (h1 : T.ty = trOf (tysOf P n)) (h2 : T.fn = trOf fl) (hs : SymOk P T) : TabOk P T where
  sym := hs
  ty := fun _ _ h => tysOf_ok _ (trOf_get (tysOf_key hn) (h1 ▸ h))
  fn := fun _ _ h => hf _ (trOf_get (keysOk_ok hk) (h2 ▸ h))
  mixed := hm
/-- The laid tables. -/
def heapOf : List (Nat × List Value) → Tr (List CV)
  | [] => .nil
  | (g, us) :: l => hput (heapOf l) g ((cvsOf us).getD [])
theorem heapOf_get : ∀ {l : List (Nat × List Value)}, (∀ p, p ∈ l → p.1 < keyMax) → ∀ {g : Nat} {cs : List CV}, (heapOf l).get g = some cs → ∃ us, (g, us) ∈ l ∧ cs = (cvsOf us).getD []
  | [], _, g, cs, h => by simp [heapOf, Tr.get_nil] at h
  | (j, us) :: l, hk, g, cs, h => by
    unfold heapOf at h
    rw [get_hput _ _ g (hk (j, us) List.mem_cons_self)] at h
    split at h
    · rename_i e
      injection h with h
      exact ⟨us, by rw [e]; exact List.mem_cons_self, h.symm⟩
    · obtain ⟨us', a, b⟩ := heapOf_get (fun p hp => hk p (List.mem_cons_of_mem _ hp)) h
      exact ⟨us', List.mem_cons_of_mem _ a, b⟩
/-- Where they lie: each in its own block. -/
def emb0 (l : List (Nat × List Value)) (n0 : Nat) (sy : Nat → Value) (tg : Nat → TypeId) (w : World) : Emb where
  on := fun g => (∃ us, (g, us) ∈ l) ∧ g < n0 ∧ g < w.heap.size
  adr := fun g => g
  off := fun _ => 0
  cap := fun g => match w.heap[g]? with
    | some (.cells c _ _) => c.size
    | _ => 0
  sy := sy
  n0 := n0
  tag := tg
theorem emb0_wr {l : List (Nat × List Value)} {n0 : Nat} {sy : Nat → Value} {tg : Nat → TypeId} {w : World} (hk : ∀ p, p ∈ l → p.1 < keyMax) (hc : ∀ p, p ∈ l → p.2 ≠ [] ∧ (cvsOf p.2).isSome = true ∧ ∀ i, i < p.2.length → w.cell? ⟨p.1, i, none⟩ = p.2[i]?) : WR (emb0 l n0 sy tg w) (heapOf l) n0 w := by
  refine ⟨fun g cs hon hg => ?_, fun g g' _ _ _ _ _ _ h => h, fun g hon => ⟨hon.2.1, hon.2.2⟩⟩
  obtain ⟨us, hm, rfl⟩ := heapOf_get hk hg
  obtain ⟨h1, h2, h3⟩ := hc _ hm
  obtain ⟨cs, hcs⟩ := Option.isSome_iff_exists.1 h2
  simp only at h3 hcs h1
  rw [hcs, Option.getD_some]
  have hl := (cvsOf_ok (E := emb0 l n0 sy tg w) hcs).len
  have h0 := h3 0 (List.length_pos_iff.2 h1)
  rw [List.getElem?_eq_getElem (List.length_pos_iff.2 h1)] at h0
  obtain ⟨c, T, fz, hcell⟩ : ∃ c T fz, w.heap[g]? = some (.cells c T fz) := by
    unfold World.cell? at h0
    split at h0
    · rename_i c T fz he
      exact ⟨c, T, fz, he⟩
    · cases h0
  have hci : ∀ i, i < us.length → c[i]? = us[i]? := fun i hi => by
    have := h3 i hi
    simpa [World.cell?, hcell] using this
  have hsz : us.length ≤ c.size := by
    have hp := List.length_pos_iff.2 h1
    have := hci (us.length - 1) (by omega)
    rw [List.getElem?_eq_getElem (by omega)] at this
    have := (Array.getElem?_eq_some_iff.1 this).1
    omega
  refine .inl ⟨c, T, fz, hcell, ?_, ?_, fun h => absurd hon.2.1 (by show ¬ g < n0; exact Nat.not_lt.2 h), fun i v hi => ?_⟩
  · simp [emb0, hcell]
  · simp only [emb0, hcell]; omega
  · obtain ⟨u, a, b⟩ := (cvsOf_ok (E := emb0 l n0 sy tg w) hcs).get hi
    refine ⟨u, ?_, b, cvsOf_cell hcs u (List.mem_of_getElem? a)⟩
    show c[0 + i]? = some u
    rw [Nat.zero_add, hci i (List.getElem?_eq_some_iff.1 a).1]
    exact a
/-- **A call on known inputs.** -/
theorem ev_calls {T : Tab} (hT : TabOk P T) {X : Told} (hX : ToldOk P X) {l : List (Nat × List Value)} {n0 : Nat} {w : World} (hn : n0 ≤ keyMax) (hn2 : ∀ p, p ∈ l → p.1 < n0) (hc : ∀ p, p ∈ l → p.2 ≠ [] ∧ (cvsOf p.2).isSome = true ∧ ∀ i, i < p.2.length → w.cell? ⟨p.1, i, none⟩ = p.2[i]?)
    (hg : ∀ g, T.gl g = true → ∃ us, (g, us) ∈ l) {m f : Nat} {args : List CV} {us : List Value} (hbody : ∃ fn c, P.funcs[f]? = some fn ∧ (fn.name == "runtime.NumGoroutine") = false ∧ fn.body = some c) (hus : ∀ E : Emb, E.sy = T.sy → VRs E args us) {r : CV} {s' : HS} (h : cCallF P T n0 X (drawD P T n0) m f args ⟨heapOf l, n0⟩ = some (r, s')) {v : Value} (hv : ∀ E : Emb, E.sy = T.sy → ∀ u, VR E r u → u = v) :
    Calls P f us.toArray w fun e w' => e = .returned v ∧ Fr [] w w' := by
  have hk : ∀ p, p ∈ l → p.1 < keyMax := fun p hp => Nat.lt_of_lt_of_le (hn2 p hp) hn
  have W := emb0_wr (n0 := n0) (sy := T.sy) (tg := T.tag) hk hc
  have hlt : ∀ g us, (g, us) ∈ l → g < w.heap.size := fun g us hm => by
    obtain ⟨h1, _, h3⟩ := hc _ hm
    have h0 := h3 0 (List.length_pos_iff.2 h1)
    rw [List.getElem?_eq_getElem (List.length_pos_iff.2 h1)] at h0
    rcases Nat.lt_or_ge g w.heap.size with q | q
    · exact q
    · exfalso
      have : w.heap[g]? = none := Array.getElem?_eq_none q
      simp [World.cell?, this] at h0
  have G : GlE T (emb0 l n0 T.sy T.tag w) := ⟨fun g hgl => by
    obtain ⟨us, hm⟩ := hg g hgl
    exact ⟨⟨⟨us, hm⟩, hn2 _ hm, hlt g us hm⟩, rfl, rfl⟩, rfl, rfl⟩
  have key := cCallF_ok hT hX (fun F N hF => drawD_ok hT hF N) m f args _ r s' h (emb0 l n0 T.sy T.tag w) w us G rfl (hus _ rfl) W (fun e w' => e = .returned v ∧ Fr [] w w') fun E' w' u S hu => ?_
  · rcases key with ⟨_, k⟩ | ⟨v', w', k, _⟩
    · exact k
    · obtain ⟨fn, c, b1, b2, b3⟩ := hbody
      rw [run_enter b1 b2 b3] at k
      cases k
  refine ⟨by rw [hv E' (S.le.sy.trans rfl) u hu], S.os, S.tape, S.output, S.sz, fun b hb _ => S.fr b hb fun g hon h0 => ?_⟩
  exact absurd hon.2.1 (Nat.not_lt.2 h0)
end
end Go.Proofs.YthdbddolkfibkaaGreatDoor
