
/- A reckoner for whole calls on known inputs, part 15: the cells of variables whose data are told. -/
import Derived.Test.YthdbddolkfibkaaGreatDoorEvE
import Derived.OpenShut
import Derived.FnData
set_option linter.unusedSimpArgs false
set_option linter.unusedVariables false
namespace Go.Proofs.YthdbddolkfibkaaGreatDoor
open Go.RowKit
section
variable {P : Program}
def flatL (g : DataW Unit → Option (List Value)) (k : Nat) : List (DataW Unit) → Option (List Value)
  | [] => some []
  | d :: ds => match g d, flatL g k ds with
    | some vs, some r => match Nat.beq vs.length k with
      | true => some (vs ++ r)
      | false => none
    | _, _ => none
def flatF (P : Program) (g : TypeId → DataW Unit → Option (List Value)) : List Field → List (DataW Unit) → Nat → Option (List Value)
  | [], [], _ => some []
  | f :: fs, d :: ds, o => match g f.type d, flatF P g fs ds (o + P.cellsOf f.type) with
    | some vs, some r => match Nat.beq vs.length (P.cellsOf f.type), Nat.beq f.offset o with
      | true, true => some (vs ++ r)
      | _, _ => none
    | _, _ => none
  | _, _, _ => none
/-- The cells that a datum of a type has. -/
def flatD (P : Program) : Nat → TypeId → DataW Unit → Option (List Value)
  | 0, _, _ => none
  | n + 1, t, d => match P.underlying t, d with
    | some .bool, .lit (.bool b) => some [.bool b]
    | some (.int k), .lit (.int k' n) => match decide (k = k') with
      | true => some [.int k n]
      | false => none
    | some .string, .lit (.string s) => some [.string ⟨s.toArray⟩]
    | some (.struct fs), .agg ds => match flatF P (flatD P n) fs.toList ds 0 with
      | some vs => match Nat.beq vs.length (P.cellsOf t) with
        | true => some vs
        | false => none
      | none => none
    | some (.array m e), .agg ds => match flatL (flatD P n e) (P.cellsOf e) ds with
      | some vs => match Nat.beq vs.length (P.cellsOf t), Nat.beq ds.length m with
        | true, true => some vs
        | _, _ => none
      | none => none
    | _, _ => none
theorem flatL_ok {g : DataW Unit → Option (List Value)} {k : Nat} {R : List Value → DataW Unit → Prop} (hg : ∀ d vs cs, g d = some vs → R cs d → cs = vs) : ∀ {ds : List (DataW Unit)} {vs cs : List Value}, flatL g k ds = some vs → cs.length = vs.length →
    (∀ (i : Nat) d, ds[i]? = some d → R ((cs.drop (i * k)).take k) d) → cs = vs
  | [], vs, cs, h, hl, _ => by
    injection h with h
    subst h
    exact List.length_eq_zero_iff.1 hl
  | d :: ds, vs, cs, h, hl, hr => by
    unfold flatL at h
    split at h
    · rename_i v r h1 h2
      split at h
      · rename_i hk
        have hk := Nat.eq_of_beq_eq_true hk
        injection h with h
        subst h
        have e1 := hg d v _ h1 (hr 0 d rfl)
        rw [Nat.zero_mul, List.drop_zero] at e1
        have e2 := flatL_ok hg (cs := cs.drop k) h2 (by simp only [List.length_drop, List.length_append] at hl ⊢; omega) fun i d' hd => by
          have := hr (i + 1) d' hd
          rw [List.drop_drop, show k + i * k = (i + 1) * k by rw [Nat.succ_mul]; omega]
          exact this
        rw [← e1, ← e2, List.take_append_drop]
      · cases h
    · cases h
theorem flatF_ok {g : TypeId → DataW Unit → Option (List Value)} {R : TypeId → List Value → DataW Unit → Prop} (hg : ∀ t d vs cs, g t d = some vs → R t cs d → cs = vs) : ∀ {fs : List Field} {ds : List (DataW Unit)} {o : Nat} {vs cs : List Value}, flatF P g fs ds o = some vs → cs.length = o + vs.length →
    (∀ (i : Nat) f d, fs[i]? = some f → ds[i]? = some d → R f.type ((cs.drop f.offset).take (P.cellsOf f.type)) d) → cs.drop o = vs
  | [], [], o, vs, cs, h, hl, _ => by
    injection h with h
    subst h
    rw [List.drop_eq_nil_iff]
    simp only [List.length_nil] at hl
    omega
  | f :: fs, d :: ds, o, vs, cs, h, hl, hr => by
    unfold flatF at h
    split at h
    · rename_i v r h1 h2
      split at h
      · rename_i hk ho
        have hk := Nat.eq_of_beq_eq_true hk
        have ho := Nat.eq_of_beq_eq_true ho
        injection h with h
        subst h
        have e1 := hg _ d v _ h1 (hr 0 f d rfl rfl)
        rw [ho] at e1
        have e2 := flatF_ok hg (cs := cs) h2 (by simp only [List.length_append] at hl; omega) fun i f' d' hf hd => hr (i + 1) f' d' hf hd
        rw [← e1, ← e2, ← List.drop_drop, List.take_append_drop]
      · cases h
    · cases h
  | [], _ :: _, o, vs, cs, h, _, _ => by simp [flatF] at h
  | _ :: _, [], o, vs, cs, h, _, _ => by simp [flatF] at h
theorem flatD_ok {enc : TypeId × Value → Unit} {w : World} {base : Nat} {sp : Nat → Bool} {held : Bool} : ∀ (n : Nat) {t : TypeId} {d : DataW Unit} {vs cs : List Value}, flatD P n t d = some vs → (∃ fuel q, DataW.trod enc P w base sp held fuel t cs = some (d, q)) → cs = vs
  | 0, t, d, vs, cs, h, _ => by simp [flatD] at h
  | n + 1, t, d, vs, cs, h, ⟨fuel, q, hr⟩ => by
    unfold flatD at h
    split at h
    · rename_i b ht
      injection h with h
      subst h
      obtain ⟨b', rfl, e⟩ := DataW.trod_bool ht hr
      simp only [Prod.mk.injEq, DataW.lit.injEq, Lit.bool.injEq] at e
      rw [e.1]
    · rename_i k k' m ht
      split at h
      · injection h with h
        subst h
        obtain ⟨m', rfl, e, _⟩ := DataW.trod_int ht hr
        simp only [Prod.mk.injEq, DataW.lit.injEq, Lit.int.injEq] at e
        rw [e.1.2]
      · cases h
    · rename_i s ht
      injection h with h
      subst h
      obtain ⟨s', rfl, e, _⟩ := DataW.trod_string ht hr
      simp only [Prod.mk.injEq, DataW.lit.injEq, Lit.string.injEq] at e
      rw [e.1]
    · rename_i fs ds ht
      split at h
      · rename_i vs' hv
        split at h
        · rename_i hk
          have hk := Nat.eq_of_beq_eq_true hk
          injection h with h
          subst h
          obtain ⟨xs, m, rfl, hx, hl, hlen, hf⟩ := DataW.trod_struct ht hr
          simp only [Prod.mk.injEq, DataW.agg.injEq] at hx
          have := flatF_ok (P := P) (R := fun t cs d => ∃ fuel q, DataW.trod enc P w base sp held fuel t cs = some (d, q)) (fun t d vs cs h1 h2 => flatD_ok n h1 h2) hv (cs := cs) (by omega) fun i f d hfi hd => by
            have h1 := hf i f (by simpa using hfi)
            rw [hx.1, List.getElem?_map] at hd
            obtain ⟨y, hy, rfl⟩ := Option.map_eq_some_iff.1 hd
            rw [hy] at h1
            exact ⟨m, y.2, h1⟩
          simpa using this
        · cases h
      · cases h
    · rename_i m e ds ht
      split at h
      · rename_i vs' hv
        split at h
        · rename_i hk hm
          have hk := Nat.eq_of_beq_eq_true hk
          have hm := Nat.eq_of_beq_eq_true hm
          injection h with h
          subst h
          obtain ⟨xs, m', rfl, hx, hl, hlen, hf⟩ := DataW.trod_array ht hr
          simp only [Prod.mk.injEq, DataW.agg.injEq] at hx
          refine flatL_ok (R := fun cs d => ∃ fuel q, DataW.trod enc P w base sp held fuel e cs = some (d, q)) (fun d vs cs h1 h2 => flatD_ok n h1 h2) hv (cs := cs) (by omega) fun i d hd => ?_
          have hi : i < m := by rw [← hm]; exact (List.getElem?_eq_some_iff.1 hd).1
          have h1 := hf i hi
          rw [hx.1, List.getElem?_map] at hd
          obtain ⟨y, hy, rfl⟩ := Option.map_eq_some_iff.1 hd
          rw [hy] at h1
          exact ⟨m', y.2, h1⟩
        · cases h
      · cases h
    · cases h
/-- A variable's number and cells, out of what is told. -/
def laidOne (P : Program) (laid : List (String × DataW Unit)) (n : String) : Option (Nat × List Value) :=
  match laid.find? (fun x => x.1 == n), P.globalNamed n with
  | some (_, d), some g => match (P.globals[g]?).map (·.type) with
    | some t => match flatD P 20 t d with
      | some vs => match vs.isEmpty, (cvsOf vs).isSome with
        | false, true => some (g, vs)
        | _, _ => none
      | none => none
    | none => none
  | _, _ => none
def laidOf (P : Program) (laid : List (String × DataW Unit)) : List String → Option (List (Nat × List Value))
  | [] => some []
  | n :: ns => match laidOne P laid n, laidOf P laid ns with
    | some x, some l => some (x :: l)
    | _, _ => none
theorem laid_var {w : World} : ∀ {laid : List (String × DataW Unit)} {ps : List MemPlace}, DataW.LaidVars P w laid ps → ∀ {n : String} {d : DataW Unit}, (n, d) ∈ laid → ∃ (g : Nat) (t : TypeId) (cs : Array Value), P.globalNamed n = some g ∧ (P.globals[g]?).map (·.type) = some t ∧ w.var? P n = some cs ∧ ∃ fuel q, DataW.trod (fun _ => ()) P w 0 (fun _ => true) false fuel t cs.toList = some (d, q)
  | [], _, _, n, d, hm => by cases hm
  | (n0, d0) :: r, ps, h, n, d, hm => by
    obtain ⟨g, t, cs, fuel, p, q, h1, h2, h3, h4, h5, _⟩ := h
    rcases List.mem_cons.1 hm with e | e
    · injection e with e1 e2
      subst e1 e2
      exact ⟨g, t, cs, h1, h2, h3, fuel, p, h4⟩
    · exact laid_var h5 e
theorem laidOne_ok {laid : List (String × DataW Unit)} {n : String} {g : Nat} {vs : List Value} (h : laidOne P laid n = some (g, vs)) {w : World} (hm : laidMet P laid w) : vs ≠ [] ∧ (cvsOf vs).isSome = true ∧ ∀ i, i < vs.length → w.cell? ⟨g, i, none⟩ = vs[i]? := by
  unfold laidOne at h
  split at h
  · rename_i n' d g' hf hg
    split at h
    · rename_i t ht
      split at h
      · rename_i vs' hv
        split at h
        · rename_i he hc
          injection h with h
          injection h with e1 e2
          subst e1 e2
          have hn := List.find?_some hf
          have hmem := List.mem_of_find?_eq_some hf
          simp only [beq_iff_eq] at hn
          subst hn
          obtain ⟨ps, hl, _⟩ := hm
          obtain ⟨g2, t2, cs, k1, k2, k3, k4⟩ := laid_var hl hmem
          have e1 := Option.some.inj (hg.symm.trans k1)
          subst e1
          have e2 := Option.some.inj (ht.symm.trans k2)
          subst e2
          have := flatD_ok 20 hv k4
          refine ⟨fun q => (by rw [q] at he; cases he), hc, fun i _ => ?_⟩
          rw [World.var?_cell hg k3 i, ← this, Array.getElem?_toList]
        · cases h
      · cases h
    · cases h
  · cases h
theorem laidOf_ok {laid : List (String × DataW Unit)} {w : World} (hm : laidMet P laid w) : ∀ {ns : List String} {l : List (Nat × List Value)}, laidOf P laid ns = some l → ∀ p, p ∈ l → p.2 ≠ [] ∧ (cvsOf p.2).isSome = true ∧ ∀ i, i < p.2.length → w.cell? ⟨p.1, i, none⟩ = p.2[i]?
  | [], l, h => by
    injection h with h
    subst h
    exact fun p hp => by cases hp
  | n :: ns, l, h => by
    unfold laidOf at h
    split at h
    · rename_i x l' h1 h2
      injection h with h
      subst h
      intro p hp
      rcases List.mem_cons.1 hp with e | e
      · rw [e]; exact laidOne_ok h1 hm
      · exact laidOf_ok hm h2 p e
    · cases h
end
end Go.Proofs.YthdbddolkfibkaaGreatDoor
