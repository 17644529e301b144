
/- A reckoner for whole calls on known inputs: whatever order the tape draws in a region, with facts that hold till an operation that waits for their readers has been. -/
import Derived.Test.YthdbddolkfibkaaGreatDoorEvC
set_option linter.unusedSimpArgs false
set_option linter.unusedVariables false
namespace Go.Proofs.YthdbddolkfibkaaGreatDoor
open Go.RowKit
/-- An operation waits for another. -/
inductive Waits (ops : Array Oper) (i : Nat) : Nat → Prop
  | edge {k : Nat} {o : Oper} {e : Edge} : ops[k]? = some o → e ∈ o.after → Region.binds .any e = true → e.on = i → Waits ops i k
  | next {k : Nat} {o : Oper} {e : Edge} : ops[k]? = some o → e ∈ o.after → Region.binds .any e = true → Waits ops i e.on → Waits ops i k
/-- What has come up has had what it waits for. -/
def Closed (ops : Array Oper) (L : Array Bool) : Prop := ∀ (k : Nat) o, ops[k]? = some o → L.getD k false = true → ∀ e ∈ o.after, Region.binds .any e = true → L.getD e.on false = true
theorem Waits.listed {ops : Array Oper} {L : Array Bool} (hc : Closed ops L) {i k : Nat} (h : Waits ops i k) : L.getD k false = true → L.getD i false = true := by
  induction h with
  | edge ho he hb hi => intro hk; rw [← hi]; exact hc _ _ ho hk _ he hb
  | next ho he hb _ ih => intro hk; exact ih (hc _ _ ho hk _ he hb)
theorem Waits.ready {ops : Array Oper} {L : Array Bool} (hc : Closed ops L) {i k : Nat} (hr : k ∈ Region.ready .any ops L) (h : Waits ops i k) : L.getD i false = true := by
  obtain ⟨_, o, ho, hall⟩ := mem_ready.1 hr
  cases h with
  | edge ho' he hb hi =>
    rw [ho] at ho'
    injection ho' with ho'
    subst ho'
    rw [← hi]
    exact hall _ he hb
  | next ho' he hb hw =>
    rw [ho] at ho'
    injection ho' with ho'
    subst ho'
    exact hw.listed hc (hall _ he hb)
theorem Closed.step {ops : Array Oper} {L : Array Bool} (hc : Closed ops L) {k : Nat} (hr : k ∈ Region.ready .any ops L) : Closed ops (L.setIfInBounds k true) := by
  intro j o ho hj e he hb
  by_cases hjk : k = j
  · subst hjk
    obtain ⟨_, o', ho', hall⟩ := mem_ready.1 hr
    rw [ho] at ho'
    injection ho' with ho'
    subst ho'
    exact getD_set_true (hall e he hb)
  · rw [getD_set_ne false hjk] at hj
    exact getD_set_true (hc j o ho hj e he hb)
/-- An operation has come up that is none of reading, and waits for this one. -/
def Dead (ops : Array Oper) (L : Array Bool) (m : Nat) : Prop := ∃ k o, ops[k]? = some o ∧ pureOp o.op = false ∧ L.getD k false = true ∧ Waits ops m k
theorem Dead.mono {ops : Array Oper} {L : Array Bool} {m : Nat} (h : Dead ops L m) (j : Nat) : Dead ops (L.setIfInBounds j true) m := by
  obtain ⟨k, o, a, b, c, d⟩ := h
  exact ⟨k, o, a, b, getD_set_true c, d⟩
abbrev Facts := List (Nat × (World → Prop))
/-- The facts that must hold still. -/
def AllD (ops : Array Oper) (fs : Facts) (L : Array Bool) (w : World) : Prop := ∀ p, p ∈ fs → ¬ Dead ops L p.1 → p.2 w
section
variable (P : Program) (ops : Array Oper) (Q : Exit → Act → World → Prop) (S : Array Bool → World → Prop)
def wpAnyJ : Nat → Array Bool → Act → World → Prop
  | 0, listed, a, w => Region.ready .any ops listed = [] ∧ Q .normal a w
  | fuel + 1, listed, a, w =>
    (Region.ready .any ops listed = [] → Q .normal a w) ∧
    ∀ i ∈ Region.ready .any ops listed, wpOp P ops Q i (fun a' w' => S (listed.setIfInBounds i true) w' ∧ wpAnyJ fuel (listed.setIfInBounds i true) a' w') a w
end
section
variable {P : Program} {ops : Array Oper} {Q : Exit → Act → World → Prop} {S S' : Array Bool → World → Prop}
theorem wpAny_of_J : ∀ (fuel : Nat) (listed : Array Bool) (a : Act) (w : World), wpAnyJ P ops Q S fuel listed a w → wpAny P .any ops Q fuel listed a w
  | 0, _, _, _, h => h
  | fuel + 1, _, _, _, h => ⟨h.1, fun i hi => wpOp_mono (fun a' w' h' => wpAny_of_J fuel _ a' w' h'.2) (h.2 i hi)⟩
theorem wpAnyJ_weaken (hS : ∀ L w, S L w → S' L w) : ∀ (fuel : Nat) (listed : Array Bool) (a : Act) (w : World), wpAnyJ P ops Q S fuel listed a w → wpAnyJ P ops Q S' fuel listed a w
  | 0, _, _, _, h => h
  | fuel + 1, _, _, _, h => ⟨h.1, fun i hi => wpOp_mono (fun a' w' h' => ⟨hS _ _ h'.1, wpAnyJ_weaken hS fuel _ a' w' h'.2⟩) (h.2 i hi)⟩
theorem wpAnyJ_first {i : Nat} {oi : Oper} {v : Value} {f : World → Prop} (hi : ops[i]? = some oi) (hsel : ∀ (j : Nat) (o : Oper) cs b, ops[j]? = some o → o.op ≠ .select cs b)
    (hQ : ∀ c a w, Q (.panic c) (a.put oi.dst v) w → Q (.panic c) a w)
    (hSf : ∀ L w, (∀ k : Nat, L.getD k false = true → ¬ Waits ops i k) → S L w → f w) (hSi : ∀ L w, S (L.setIfInBounds i true) w → S L w) :
    ∀ (fuel : Nat) (listed : Array Bool) (a : Act) (w : World), Closed ops listed →
      (∀ j oj, ops[j]? = some oj → j ≠ i → listed.getD j true = false → (∀ e ∈ oj.after, Region.binds .any e = true → e.on ≠ i) → oi.apart ops oj = true) →
      i ∈ Region.ready .any ops listed → YieldsIf P ops f oi v a → f w → S (listed.setIfInBounds i true) w →
      wpAnyJ P ops Q S fuel (listed.setIfInBounds i true) (a.put oi.dst v) w → wpAnyJ P ops Q S (fuel + 1) listed a w := by
  intro fuel
  induction fuel with
  | zero =>
    intro listed a w _ _ hr hy hf hS H
    refine ⟨fun h => (by rw [h] at hr; cases hr), fun j hj => ?_⟩
    by_cases hji : j = i
    · subst hji; exact hy.wpOp hi hf ⟨hS, H⟩
    · have := ready_mono hj hji
      rw [H.1] at this
      cases this
  | succ fuel ih =>
    intro listed a w hcl hfree hr hy hf hS H
    refine ⟨fun h => (by rw [h] at hr; cases hr), fun j hj => ?_⟩
    by_cases hji : j = i
    · subst hji; exact hy.wpOp hi hf ⟨hS, H⟩
    · have h1 := H.2 j (ready_mono hj hji)
      obtain ⟨hjun, oj, hoj, hall⟩ := mem_ready.1 hj
      have hun : ¬ listed.getD i false = true := fun h1 => by
        have h0 := (mem_ready.1 hr).1
        rcases Nat.lt_or_ge i listed.size with h' | h'
        · simp [h'] at h0 h1; rw [h0] at h1; cases h1
        · simp [Array.getElem?_eq_none h'] at h1
      have hnot : ∀ e ∈ oj.after, Region.binds .any e = true → e.on ≠ i := fun e he hb heq => by
        have h1 := hall e he hb
        rw [heq] at h1
        exact hun h1
      have h2 := wpOp_putIf hoj (hfree j oj hoj hji hjun hnot) (fun cs b => hsel i oi cs b hi) (fun cs b => hsel j oj cs b hoj) hQ hy h1
      have hfree' : ∀ k ok, ops[k]? = some ok → k ≠ i → (listed.setIfInBounds j true).getD k true = false →
          (∀ e ∈ ok.after, Region.binds .any e = true → e.on ≠ i) → oi.apart ops ok = true := fun k ok hk hki hun hno => by
        refine hfree k ok hk hki ?_ hno
        by_cases hjk : j = k
        · subst hjk; exact hjun
        · rw [getD_set_ne true hjk] at hun; exact hun
      have hnw : ∀ k : Nat, ((listed.setIfInBounds i true).setIfInBounds j true).getD k false = true → ¬ Waits ops i k := fun k hk hw => by
        by_cases e1 : j = k
        · subst e1; exact hun (hw.ready hcl hj)
        · rw [getD_set_ne false e1] at hk
          by_cases e2 : i = k
          · subst e2; exact hun (hw.ready hcl hr)
          · rw [getD_set_ne false e2] at hk
            exact hun (hw.listed hcl hk)
      refine wpOp_mono (fun a' w' h3 => ?_) h2
      have hS' := h3.2.1
      rw [Array.setIfInBounds_comm _ _ (Ne.symm hji)] at hS'
      refine ⟨hSi _ _ hS', ih (listed.setIfInBounds j true) a' w' (hcl.step hj) hfree' (ready_mono hr (Ne.symm hji)) h3.1 (hSf _ _ hnw h3.2.1) hS' ?_⟩
      rw [Array.setIfInBounds_comm _ _ hji]
      exact h3.2.2
/-- An operation that only reads is taken first. -/
theorem wpAnyJ_take {i : Nat} {oi : Oper} {v : Value} {f : World → Prop} {fs : Facts} {fuel : Nat} {listed : Array Bool} {a : Act} {w : World} (hi : ops[i]? = some oi) (hp : pureOp oi.op = true)
    (hs : Region.noSelect ops = true) (hcl : Closed ops listed) (hf : Region.free .any ops listed i = true) (hr : i ∈ Region.ready .any ops listed)
    (hQ : ∀ c a w, ¬ Q (.panic c) a w) (hy : YieldsIf P ops f oi v a) (hw : f w) (hS : AllD ops fs listed w)
    (h : wpAnyJ P ops Q (AllD ops ((i, f) :: fs)) fuel (listed.setIfInBounds i true) (a.put oi.dst v) w) : wpAnyJ P ops Q (AllD ops fs) (fuel + 1) listed a w := by
  have hnd : ∀ L m, Dead ops (L.setIfInBounds i true) m → Dead ops L m := fun L m hd => by
    obtain ⟨k, o, a, b, c, d⟩ := hd
    by_cases e : i = k
    · subst e
      rw [hi] at a
      injection a with a
      subst a
      rw [hp] at b
      cases b
    · rw [getD_set_ne false e] at c
      exact ⟨k, o, a, b, c, d⟩
  have key := wpAnyJ_first (S := AllD ops ((i, f) :: fs)) hi (Region.noSelect_spec hs) (fun c a w hq => absurd hq (hQ c _ w)) (f := f)
    (fun L w hL hS => hS (i, f) List.mem_cons_self fun ⟨k, _, _, _, c, d⟩ => hL k c d)
    (fun L w hS p hpm hn => hS p hpm fun hd => hn (hnd L _ hd))
    fuel listed a w hcl (Region.free_spec hi hf) hr hy hw (fun p hpm hn => by
      rcases List.mem_cons.1 hpm with e | e
      · rw [e]; exact hw
      · exact hS p e fun hd => hn (hd.mono i)) h
  exact wpAnyJ_weaken (fun L w hS p hpm hn => hS p (List.mem_cons_of_mem _ hpm) hn) _ _ _ _ key
theorem wpAnyJ_done {listed : Array Bool} {a : Act} {w : World} (hr : Region.ready .any ops listed = []) (h : Q .normal a w) : ∀ fuel, wpAnyJ P ops Q S fuel listed a w
  | 0 => ⟨hr, h⟩
  | _ + 1 => ⟨fun _ => h, by rw [hr]; simp⟩
theorem wp_region_J {id : Nat} {a : Act} {w : World} (hm : P.follows .mixedOrders = true) (h : wpAnyJ P ops Q S ops.size (Array.replicate ops.size false) a { w with drawn := w.drawn + 1 }) : (Code.region id ops true).wp P Q a w :=
  wp_region_any hm (wpAny_of_J _ _ _ _ h)
end
end Go.Proofs.YthdbddolkfibkaaGreatDoor
