
/- From the reading of an argument to what the walks ask: slices of whatever is read. -/
import Derived.Test.YthdbddolkfibkaaGreatDoorLawK0
import Derived.Deep.Slices
import Derived.Lib.SmallJoins
set_option linter.unusedSimpArgs false
set_option linter.unusedVariables false
namespace Go.Proofs.YthdbddolkfibkaaGreatDoor
open Go.ChangeShapes Go.WideShapes Go.ChangeAt Go.RowKit Go.Joins

theorem flat_getA {α : Type} (f : α → List Value) (k : Nat) (hk : ∀ t, (f t).length = k) : ∀ (ts : List α) (i : Nat) (t : α), ts[i]? = some t → ∀ r, r < k → (ts.flatMap f)[i * k + r]? = (f t)[r]? := by
  intro ts
  induction ts with
  | nil => intro i t h; simp at h
  | cons a ts ih =>
    intro i t h r hr
    rw [List.flatMap_cons]
    cases i with
    | zero =>
      simp at h
      subst h
      rw [List.getElem?_append_left (by rw [hk]; omega)]
      simp
    | succ i =>
      simp at h
      rw [List.getElem?_append_right (by rw [hk, Nat.succ_mul]; omega), hk, ← ih i t h r hr]
      congr 1
      rw [Nat.succ_mul]
      omega

section
set_option maxRecDepth 100000
variable {H : Type} {enc : TypeId × Value → H} {P : Program} {w : World} {sp : Nat → Bool} {held : Bool}

theorem addr_add (b off j : Nat) : (⟨b, off, none⟩ : Addr).add j = ⟨b, off + j, none⟩ := by unfold Addr.add; split <;> simp_all

theorem trod_slice_sl {α : Type} [Inhabited α] (f : α → List Value) (k : Nat) (Q : α → Prop) {t e : TypeId} (ht : P.underlying t = some (.slice e)) (hk : P.cellsOf e = k) (hk0 : 0 < k) (hf : ∀ a, (f a).length = k) (h1 : ∀ a, Q a → ∀ u ∈ f a, u.oneCell' = true)
    (hel : ∀ fuel cs x, DataW.trod enc P w 0 sp held fuel e cs = some x → ∃ a, cs = f a ∧ Q a) {fuel : Nat} {cs : List Value} {x : DataW H × List MemPlace} (h : DataW.trod enc P w 0 sp held fuel t cs = some x) :
    ∃ (v : Value) (l : List α), cs = [v] ∧ Sl [] w k v l.length (l.flatMap f) ∧ (∀ a, a ∈ l → Q a) := by
  rcases Go.Deep.open_slice ht h with ⟨rfl, _⟩ | ⟨a, len, cap, m, n, D, Pl, rfl, _, hl, hm, hmm, _, hx⟩
  · exact ⟨_, [], rfl, Sl.nil _ _ _, fun _ h => by cases h⟩
  · have hlm : len ≤ m := by rw [hmm]; split <;> omega
    obtain ⟨A, hA⟩ := Go.Deep.choose_lt (α := α) (p := fun i b => w.cells? 0 (a.add (i * P.cellsOf e)) (P.cellsOf e) = some (f b) ∧ Q b) (n := m) (fun i hi => by
      obtain ⟨cs', c1, c2⟩ := hx i hi
      obtain ⟨a', rfl, q⟩ := hel _ _ _ c2
      exact ⟨a', c1, q⟩)
    rw [hk] at hA
    have hLen : ((List.range len).map A).length = len := by simp
    have hQ : ∀ a', a' ∈ (List.range len).map A → Q a' := by
      intro a' ha'
      obtain ⟨i, hi, rfl⟩ := List.mem_map.1 ha'
      exact (hA i (by have := List.mem_range.1 hi; omega)).2
    refine ⟨_, (List.range len).map A, rfl, ?_, hQ⟩
    rw [hLen]
    refine ⟨?_, ?_, some a, cap, rfl, hl, hm, fun h => (by cases h), ?_⟩
    · have : ∀ (l : List α), (l.flatMap f).length = l.length * k := by
        intro l
        induction l with
        | nil => simp
        | cons b l ih => rw [List.flatMap_cons, List.length_append, hf, ih, List.length_cons, Nat.add_mul]; omega
      rw [this, hLen]
    · intro u hu
      obtain ⟨a', ha', hu⟩ := List.mem_flatMap.1 hu
      exact h1 a' (hQ a' ha') u hu
    · by_cases h0 : len = 0
      · exact .inl h0
      · right
        obtain ⟨b, off, spot⟩ := a
        have hcell : ∀ i, i < len → ∀ r, r < k → w.cell? (((⟨b, off, spot⟩ : Addr).add (i * k)).add r) = (f (A i))[r]? := fun i hi r hr => (World.cells?_some (hA i (by omega)).1).2.2 r hr
        have hspot : spot = none := by
          have hc0 := hcell 0 (by omega) 0 hk0
          rw [List.getElem?_eq_getElem (by rw [hf]; exact hk0)] at hc0
          simpa [Addr.add] using World.cell?_spot hc0
        subst hspot
        have hcell' : ∀ i, i < len → ∀ r, r < k → w.cell? ⟨b, off + (i * k + r), none⟩ = (f (A i))[r]? := fun i hi r hr => by
          rw [← hcell i hi r hr, addr_add, addr_add, Nat.add_assoc]
        refine ⟨b, off, rfl, by simp, ?_, fun j hj => ?_⟩
        · have hc0 := hcell' 0 (by omega) 0 hk0
          rw [List.getElem?_eq_getElem (by rw [hf]; exact hk0)] at hc0
          rcases Nat.lt_or_ge b w.heap.size with hlt | hge
          · exact hlt
          · exfalso
            have : w.heap[b]? = none := Array.getElem?_eq_none hge
            simp [World.cell?, this] at hc0
        · have hjd : j = (j / k) * k + j % k := by rw [Nat.mul_comm]; exact (Nat.div_add_mod j k).symm
          have hjk : j / k < len := Nat.div_lt_of_lt_mul (by rw [Nat.mul_comm]; exact hj)
          have hjr : j % k < k := Nat.mod_lt _ hk0
          rw [hjd, hcell' _ hjk _ hjr, flat_getA f k hf _ (j / k) (A (j / k)) (by simp [hjk]) _ hjr]
end

theorem wf_i64 {n : Int} (h : (Lit.int .i64 n).wf = true) : -9223372036854775808 ≤ n ∧ n < 9223372036854775808 := by
  simp [Lit.wf, IntKind.min, IntKind.max, IntKind.signed, IntKind.bits] at h
  omega
theorem wf_u8 {n : Int} (h : (Lit.int .u8 n).wf = true) : 0 ≤ n ∧ n < 256 := by
  simp [Lit.wf, IntKind.min, IntKind.max, IntKind.signed, IntKind.bits] at h
  omega

end Go.Proofs.YthdbddolkfibkaaGreatDoor
