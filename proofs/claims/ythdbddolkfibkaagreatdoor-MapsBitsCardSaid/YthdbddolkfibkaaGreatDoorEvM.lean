
/- A reckoner for whole calls on known inputs: maps whose keys are truths, whole numbers or strings. -/
import Derived.Test.YthdbddolkfibkaaGreatDoorEv8
import Derived.MapKept
set_option linter.unusedSimpArgs false
set_option linter.unusedVariables false
namespace Go.Proofs.YthdbddolkfibkaaGreatDoor
open Go.RowKit
section
variable {P : Program}
/-- Are two keys one? -/
def cSame (t : TK) (a b : CV) : Option Bool :=
  match t, a, b with
  | .int _, .int k x, .int k' y => match decide (k = k') with
    | true => some (decide (x = y))
    | false => none
  | .str, .str s, .str s' => some (decide (s = s'))
  | .bool, .bool x, .bool y => some (x == y)
  | _, _, _ => none
def cKey (t : TK) (a : CV) : Bool :=
  match t, a with
  | .int k, .int k' _ => decide (k' = k)
  | .str, .str _ => true
  | .bool, .bool _ => true
  | _, _ => false
theorem cKey_ok {d : TypeDesc} {E : Emb} {a : CV} {u : Value} (h : cKey (kindOf d) a = true) (hu : VR E a u) : Go.MapKept.IsKey d u := by
  cases d <;> simp only [kindOf, cKey, Bool.false_eq_true] at h
  all_goals cases a <;> simp only [Bool.false_eq_true, decide_eq_true_eq] at h
  all_goals (cases hu; first | exact h | trivial)
theorem cSame_ok {d : TypeDesc} {E : Emb} {a b : CV} {u v : Value} {r : Bool} (h : cSame (kindOf d) a b = some r) (hu : VR E a u) (hv : VR E b v) : Instr.sameNow d u v = some r := by
  cases d <;> simp only [kindOf, cSame, reduceCtorEq] at h
  all_goals cases a <;> (try simp only [reduceCtorEq] at h)
  all_goals cases b <;> (try simp only [reduceCtorEq] at h)
  · cases hu
    cases hv
    injection h with h
    subst h
    rfl
  · cases hu
    cases hv
    split at h
    · rename_i q
      have q := of_decide_eq_true q
      subst q
      injection h with h
      subst h
      simp only [Instr.sameNow, if_true, Option.some.injEq]
      exact Bool.eq_iff_iff.2 (by simp)
    · cases h
  · cases hu
    cases hv
    injection h with h
    subst h
    simp only [Instr.sameNow, Option.some.injEq]
    refine Bool.eq_iff_iff.2 ?_
    rw [Go.MapKept.bytes_beq, decide_eq_true_eq]
    constructor
    · intro q
      injection q with q
      simpa using q
    · intro q
      rw [q]
/-- Where a key stands. -/
def cFind (t : TK) (k : CV) : List CV → Nat → Option (Option (Nat × CV))
  | [], _ => some none
  | c :: cs, i => match c with
    | .ment q v _ => match cSame t k q with
      | some true => some (some (i, v))
      | some false => cFind t k cs (i + 1)
      | none => none
    | _ => none
theorem cFind_ok {d : TypeDesc} {E : Emb} {k : CV} {u : Value} (hu : VR E k u) : ∀ {cs : List CV} {es : List MapEntry} {i : Nat} {r : Option (Nat × CV)}, MEs E cs es → cFind (kindOf d) k cs i = some r →
    (r = none ∧ Instr.findNow d u es i = some none) ∨ ∃ j q v b e, r = some (i + j, v) ∧ Instr.findNow d u es i = some (some (i + j, e.val)) ∧ es[j]? = some e ∧ cs[j]? = some (.ment q v b) ∧ Instr.sameNow d u e.key = some true
  | _, _, _, _, .nil, h => by
    injection h with h
    exact .inl ⟨h.symm, rfl⟩
  | _, _, i, r, .cons (k := q) (v := v) (e := e) a b c, h => by
    unfold cFind at h
    simp only at h
    split at h
    · rename_i hs
      injection h with h
      have := cSame_ok hs hu a
      exact .inr ⟨0, q, v, _, e, h.symm, by simp [Instr.findNow, this], rfl, rfl, this⟩
    · rename_i hs
      have hs := cSame_ok hs hu a
      rcases cFind_ok hu c h with ⟨h1, h2⟩ | ⟨j, q', v', b', e', h1, h2, h3, h4, h5⟩
      · exact .inl ⟨h1, by simp [Instr.findNow, hs, h2]⟩
      · refine .inr ⟨j + 1, q', v', b', e', by rw [h1, Nat.add_right_comm]; rfl, ?_, by simpa using h3, by simpa using h4, h5⟩
        simp only [Instr.findNow, hs, h2]
        rw [Nat.add_right_comm]
        rfl
    · cases h
theorem MEs.get {E : Emb} : ∀ {cs : List CV} {es : List MapEntry}, MEs E cs es → ∀ {j : Nat} {q v : CV} {b : Nat} {e : MapEntry}, cs[j]? = some (.ment q v b) → es[j]? = some e → VR E q e.key ∧ VR E v e.val ∧ b = e.born
  | _, _, .cons a b c, 0, _, _, _, _, h1, h2 => by
    simp only [List.getElem?_cons_zero, Option.some.injEq] at h1 h2
    subst h2
    injection h1 with e1 e2 e3
    subst e1 e2 e3
    exact ⟨a, b, rfl⟩
  | _, _, .cons a b c, j + 1, _, _, _, _, h1, h2 => by
    simp only [List.getElem?_cons_succ] at h1 h2
    exact c.get h1 h2
  | _, _, .nil, _, _, _, _, _, h1, _ => by simp at h1
theorem MEs.len {E : Emb} : ∀ {cs : List CV} {es : List MapEntry}, MEs E cs es → cs.length = es.length
  | _, _, .nil => rfl
  | _, _, .cons _ _ c => by rw [List.length_cons, List.length_cons, c.len]
theorem MEs.set {E : Emb} : ∀ {cs : List CV} {es : List MapEntry}, MEs E cs es → ∀ {q v : CV} {e : MapEntry} (j : Nat), VR E q e.key → VR E v e.val → MEs E (cs.set j (.ment q v e.born)) (es.set j e)
  | _, _, .nil, _, _, _, _, _, _ => by simpa using .nil
  | _, _, .cons _ _ c, _, _, _, 0, h1, h2 => .cons h1 h2 c
  | _, _, .cons a b c, _, _, _, j + 1, h1, h2 => .cons a b (c.set j h1 h2)
theorem MEs.snoc {E : Emb} : ∀ {cs : List CV} {es : List MapEntry}, MEs E cs es → ∀ {q v : CV} {e : MapEntry}, VR E q e.key → VR E v e.val → MEs E (cs ++ [.ment q v e.born]) (es ++ [e])
  | _, _, .nil, _, _, _, h1, h2 => .cons h1 h2 .nil
  | _, _, .cons a b c, _, _, _, h1, h2 => .cons a b (c.snoc h1 h2)
theorem MEs.erase {E : Emb} : ∀ {cs : List CV} {es : List MapEntry}, MEs E cs es → ∀ (j : Nat), MEs E (cs.eraseIdx j) (es.eraseIdx j)
  | _, _, .nil, _ => by simpa using .nil
  | _, _, .cons _ _ c, 0 => c
  | _, _, .cons a b c, j + 1 => .cons a b (c.erase j)
/-- A map changes. -/
theorem EStep.setMap {E : Emb} {h : Tr (List CV)} {nx : Nat} {w : World} (W : WR E h nx w) {g : Nat} (hon : E.on g) (h0 : E.n0 ≤ g) (hk : g < keyMax) {clock clock' : Nat} {ds ds' : List CV} {es' : Array MapEntry} (hg : h.get g = some (.mobj clock :: ds)) (hm : MEs E ds' es'.toList) :
    EStep E h nx w E (hput h g (.mobj clock' :: ds')) nx { w with heap := w.heap.setIfInBounds (E.adr g) (.map es' clock') } := by
  obtain ⟨es, b1, b2⟩ := W.mp hon hg
  obtain ⟨e1, e4⟩ := Go.MapKept.heap_set (o' := .map es' clock') b1
  refine ⟨.refl E, ⟨fun x xs hx hxs => ?_, fun x x' xs xs' hx hx' hxs hxs' ha => ?_, fun x hx => ?_⟩, by simp, fun b hb hn => e4 b (fun e => hn g hon h0 e.symm), fun x a => .inl ⟨x, a, id, rfl⟩, Nat.le_refl _, fun x hx hn => ?_, rfl, rfl, rfl⟩
  · rw [get_hput h _ x hk] at hxs
    by_cases e : x = g
    · subst e
      rw [if_pos rfl] at hxs
      injection hxs with hxs
      exact .inr ⟨clock', ds', es', hxs.symm, e1, hm⟩
    · rw [if_neg e] at hxs
      exact OrR.world (e4 _ fun a => e (W.apart x g xs _ hx hon hxs hg a)) (W.bk0 x xs hx hxs)
  · rw [get_hput h _ x hk] at hxs
    rw [get_hput h _ x' hk] at hxs'
    by_cases e : x = g
    · by_cases e' : x' = g
      · rw [e, e']
      · rw [if_neg e'] at hxs'
        subst e
        exact W.apart x x' _ xs' hx hx' hg hxs' ha
    · rw [if_neg e] at hxs
      by_cases e' : x' = g
      · subst e'
        exact W.apart x x' xs _ hx hx' hxs hg ha
      · rw [if_neg e'] at hxs'
        exact W.apart x x' xs xs' hx hx' hxs hxs' ha
  · have := W.lt x hx
    simpa using this
  · exact ⟨hn, by rw [get_hput h _ x hk, if_neg (fun e : x = g => hn (by rw [e]; exact hon))]⟩
/-- A new map. -/
theorem EStep.newMap {E : Emb} {h : Tr (List CV)} {nx nx' : Nat} {w : World} (W : WR E h nx w) {g : Nat} (hg : ¬ E.on g) (hge : nx ≤ g) (hlt : g < nx') (hk : g < keyMax) :
    EStep E h nx w (E.ext g w.heap.size 0 0) (hput h g [.mobj 0]) nx' (w.alloc (.map #[] 0)) := by
  have hle' := Emb.le_ext (b := w.heap.size) (o := 0) (c := 0) hg
  refine ⟨hle', ⟨fun x xs hon hx => ?_, fun x x' xs xs' hon hon' hx hx' hadr => ?_, fun x hon => ?_⟩, by rw [size_alloc']; omega, fun b hb _ => alloc_old hb, fun x hx => ?_, by omega, fun x hx hn => ?_, rfl, rfl, rfl⟩
  · rw [get_hput h _ x hk] at hx
    by_cases e : x = g
    · subst e
      rw [if_pos rfl] at hx
      injection hx with hx
      refine .inr ⟨0, [], #[], hx.symm, ?_, .nil⟩
      simp only [Emb.ext, if_pos]
      exact alloc_new w _
    · rw [if_neg e] at hx
      have hon0 : E.on x := hon.resolve_left e
      exact OrR.le hle' hon0 (OrR.world (alloc_old (W.lt x hon0).2) (W.bk0 x xs hon0 hx))
  · rw [get_hput h _ x hk] at hx
    rw [get_hput h _ x' hk] at hx'
    by_cases e : x = g
    · by_cases e' : x' = g
      · rw [e, e']
      · have hon0 : E.on x' := hon'.resolve_left e'
        have := (W.lt x' hon0).2
        simp only [Emb.ext, if_pos e, if_neg e'] at hadr
        omega
    · have hon0 : E.on x := hon.resolve_left e
      by_cases e' : x' = g
      · have := (W.lt x hon0).2
        simp only [Emb.ext, if_pos e', if_neg e] at hadr
        omega
      · have hon1 : E.on x' := hon'.resolve_left e'
        rw [if_neg e] at hx
        rw [if_neg e'] at hx'
        simp only [Emb.ext, if_neg e, if_neg e'] at hadr
        exact W.apart x x' xs xs' hon0 hon1 hx hx' hadr
  · rw [size_alloc']
    by_cases e : x = g
    · simp only [Emb.ext, if_pos e]
      omega
    · have := W.lt x (hon.resolve_left e)
      simp only [Emb.ext, if_neg e]
      omega
  · by_cases e : x = g
    · right; simp only [Emb.ext, if_pos e]; exact Nat.le_refl _
    · left; exact ⟨x, hx.resolve_left e, id, if_neg e⟩
  · have e : x ≠ g := by omega
    exact ⟨fun a => a.elim e hn, by rw [get_hput h _ x hk, if_neg e]⟩
end
end Go.Proofs.YthdbddolkfibkaaGreatDoor
