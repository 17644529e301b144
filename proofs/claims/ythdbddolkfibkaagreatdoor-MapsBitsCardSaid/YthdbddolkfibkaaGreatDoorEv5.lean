
/- A reckoner for whole calls on known inputs, part 5: structs built, parts taken, comparisons, conversions, slices of slices. -/
import Derived.Test.YthdbddolkfibkaaGreatDoorEv4
import Derived.Laws.Tables
set_option linter.unusedSimpArgs false
set_option linter.unusedVariables false
namespace Go.Proofs.YthdbddolkfibkaaGreatDoor
open Go.RowKit
section
variable {P : Program}
/-- The cells of a value. -/
def ccells : CV → Option (List CV)
  | .agg cs => some cs
  | .int k n => some [.int k n]
  | .bool b => some [.bool b]
  | .str s => some [.str s]
  | .ptr g o => some [.ptr g o]
  | .nilp => some [.nilp]
  | .sl g o n k => some [.sl g o n k]
  | .nils => some [.nils]
  | .sle g o => some [.sle g o]
  | .map g => some [.map g]
  | .mapnil => some [.mapnil]
  | .nili => some [.nili]
  | .fn f => some [.fn f]
  | .clo f fs cs => some [.clo f fs cs]
  | .nilf => some [.nilf]
  | _ => none
theorem ccells_ok {E : Emb} {c : CV} {cs : List CV} (h : ccells c = some cs) {u : Value} (hu : VR E c u) : VRs E cs u.cells.toList := by
  cases hu <;> simp only [ccells, Option.some.injEq, reduceCtorEq] at h
  all_goals (try (subst h))
  case agg hs => exact hs
  all_goals exact .cons (by constructor <;> assumption) .nil
theorem foldl_put : ∀ (vs : List Value) (k off : Nat) (c : Array Value), off + k + vs.length ≤ c.size →
    ∃ c' : Array Value, (vs.zipIdx k).foldl (fun cs (p : Value × Nat) => cs.setIfInBounds (off + p.2) p.1) c = c' ∧ c'.size = c.size ∧ ∀ i : Nat, c'[i]? = if off + k ≤ i ∧ i < off + k + vs.length then vs[i - (off + k)]? else c[i]?
  | [], k, off, c, _ => ⟨c, rfl, rfl, fun i => by rw [if_neg (by simp only [List.length_nil]; omega)]⟩
  | v :: vs, k, off, c, h => by
    simp only [List.length_cons] at h
    obtain ⟨c', e1, e2, e3⟩ := foldl_put vs (k + 1) off (c.setIfInBounds (off + k) v) (by simp; omega)
    refine ⟨c', by rw [List.zipIdx_cons, List.foldl_cons]; exact e1, by rw [e2]; simp, fun i => ?_⟩
    rw [e3 i, Array.getElem?_setIfInBounds]
    simp only [List.length_cons]
    by_cases c1 : off + (k + 1) ≤ i ∧ i < off + (k + 1) + vs.length
    · rw [if_pos c1, if_pos (by omega), show i - (off + k) = (i - (off + (k + 1))) + 1 by omega, List.getElem?_cons_succ]
    · rw [if_neg c1]
      by_cases c2 : off + k = i
      · subst c2
        rw [if_pos rfl, if_pos (by omega), if_pos (by omega)]
        simp
      · rw [if_neg c2, if_neg (by omega)]
def cfill (place : Nat → Option (Nat × Nat)) (cs : List CV) : List (Nat × CV) → Option (List CV)
  | [] => some cs
  | (i, v) :: rest => match place i, ccells v with
    | some (off, size), some vc => match Nat.beq vc.length size, Nat.ble (off + vc.length) cs.length with
      | true, true => cfill place (lput cs off vc) rest
      | _, _ => none
    | _, _ => none
/-- Parts that stand for parts. -/
inductive PRs (E : Emb) : List (Nat × CV) → List (Nat × Value) → Prop
  | nil : PRs E [] []
  | cons {i : Nat} {c : CV} {u : Value} {cs : List (Nat × CV)} {us : List (Nat × Value)} : VR E c u → PRs E cs us → PRs E ((i, c) :: cs) ((i, u) :: us)
theorem cfill_ok {E : Emb} {place : Nat → Option (Nat × Nat)} : ∀ {parts : List (Nat × CV)} {parts' : List (Nat × Value)}, PRs E parts parts' → ∀ {cs r : List CV} {c : Array Value}, VRs E cs c.toList → cfill place cs parts = some r →
    ∃ c' : Array Value, Instr.fill place c parts' = some c' ∧ VRs E r c'.toList
  | _, _, .nil, cs, r, c, hc, h => by
    injection h with h
    subst h
    exact ⟨c, rfl, hc⟩
  | _, _, .cons (i := i) (c := x) (u := u) hx hr, cs, r, c, hc, h => by
    unfold cfill at h
    split at h
    · rename_i off size vc h1 h2
      split at h
      · rename_i q1 q2
        have q1 := Nat.eq_of_beq_eq_true q1
        have q2 := Nat.le_of_ble_eq_true q2
        have hv := ccells_ok h2 hx
        have l1 := hv.len
        have l2 := hc.len
        simp only [Array.length_toList] at l1 l2
        obtain ⟨c', e1, e2, e3⟩ := foldl_put u.cells.toList 0 off c (by simp; omega)
        have key : VRs E (lput cs off vc) c'.toList := VRs.of (by rw [lput_len cs off vc (by omega)]; have := Array.length_toList (xs := c'); omega) fun j a b ha hb => by
          rw [lput_get cs off vc (by omega)] at ha
          rw [Array.getElem?_toList, e3 j] at hb
          simp only [Nat.add_zero, Array.length_toList] at hb
          by_cases q : off ≤ j ∧ j < off + vc.length
          · rw [if_pos q] at ha
            rw [if_pos (by omega)] at hb
            obtain ⟨u', g1, g2⟩ := hv.get ha
            rw [g1] at hb
            injection hb with hb
            subst hb
            exact g2
          · rw [if_neg q] at ha
            rw [if_neg (by omega)] at hb
            obtain ⟨u', g1, g2⟩ := hc.get ha
            rw [Array.getElem?_toList] at g1
            rw [g1] at hb
            injection hb with hb
            subst hb
            exact g2
        obtain ⟨c2, f1, f2⟩ := cfill_ok hr key h
        refine ⟨c2, ?_, f2⟩
        unfold Instr.fill
        simp only [h1]
        rw [if_neg (by simp; omega)]
        have e4 : u.cells.zipIdx.foldl (fun cs (p : Value × Nat) => cs.setIfInBounds (off + p.2) p.1) c = c' := by
          rw [← Array.foldl_toList, Array.toList_zipIdx]
          exact e1
        have e5 : u.cells.zipIdx.foldl (fun cs x => match x with | (c, j) => cs.setIfInBounds (off + j) c) c = c' := e4
        rw [e5]
        exact f1
      · cases h
    · cases h
def placesOf (T : Tab) : List (Nat × Nat) → Option (List (Nat × Nat))
  | [] => some []
  | (o, t) :: fs => match T.ty.get t, placesOf T fs with
    | some i, some ps => some ((o, i.size) :: ps)
    | _, _ => none
theorem placesOf_ok {T : Tab} (hT : TabOk P T) : ∀ {F : List Field} {ps : List (Nat × Nat)}, placesOf T (F.map fun f => (f.offset, f.type)) = some ps → F.mapM (fun f => (P.info? f.type).map fun i => (f.offset, i.size)) = some ps
  | [], _, h => by
    simp only [List.map_nil, placesOf, Option.some.injEq] at h
    subst h
    rfl
  | f :: F, ps, h => by
    simp only [List.map_cons, placesOf] at h
    split at h
    · rename_i i ps' h1 h2
      injection h with h
      subst h
      obtain ⟨d, n, z, a1, a2, a3, a4, a5⟩ := (hT.ty _ _ h1).ex
      simp only [List.mapM_cons, a2, Option.map_some, placesOf_ok hT h2, a4]
      rfl
    · cases h
/-- A struct or an array out of its parts. -/
def cBuild (T : Tab) (t : Nat) (parts : List (Nat × CV)) : Option CV :=
  match T.ty.get t with
  | some ⟨.struct fs, _, _, z⟩ => match placesOf T fs with
    | some ps => match cfill (ps[·]?) z parts with
      | some cs => some (.agg cs)
      | none => none
    | none => none
  | some ⟨.array _ e, _, _, z⟩ => match T.ty.get e with
    | some ie => match cfill (fun i => some (i * ie.size, ie.size)) z parts with
      | some cs => some (.agg cs)
      | none => none
    | none => none
  | _ => none
theorem cBuild_ok {T : Tab} (hT : TabOk P T) {E : Emb} {t : Nat} {parts : List (Nat × CV)} {r : CV} (h : cBuild T t parts = some r) {parts' : Array (Nat × Value)} (hp : PRs E parts parts'.toList) (w : World) :
    ∃ v, (Instr.build t parts').run P w = .ok v w ∧ VR E r v := by
  unfold cBuild at h
  split at h
  · rename_i fs s1 b1 z ht
    obtain ⟨d, n, z', h1, h2, h3, h4, h5, h6, h7, h8⟩ := (hT.ty _ _ ht).ex
    obtain ⟨F, rfl, hF⟩ := kind_struct h3.symm
    split at h
    · rename_i ps hps
      split at h
      · rename_i cs hcs
        injection h with h
        subst h
        rw [← hF] at hps
        obtain ⟨c', f1, f2⟩ := cfill_ok hp (h7 E) hcs
        refine ⟨.agg c', run_build w t parts' c' ?_, by have := VR.agg _ _ f2; simpa using this⟩
        unfold Program.built
        simp only [h2, h1, h6, placesOf_ok hT hps]
        simpa using f1
      · cases h
    · cases h
  · rename_i n0 e s1 b1 z ht
    obtain ⟨d, n, z', h1, h2, h3, h4, h5, h6, h7, h8⟩ := (hT.ty _ _ ht).ex
    obtain rfl := kind_array h3.symm
    split at h
    · rename_i ie hie
      split at h
      · rename_i cs hcs
        injection h with h
        subst h
        obtain ⟨d', n', z2, a1, a2, a3, a4, a5⟩ := (hT.ty _ _ hie).ex
        obtain ⟨c', f1, f2⟩ := cfill_ok hp (h7 E) hcs
        refine ⟨.agg c', run_build w t parts' c' ?_, by have := VR.agg _ _ f2; simpa using this⟩
        unfold Program.built
        simp only [h2, h1, h6, a2, a4]
        exact f1
      · cases h
    · cases h
  · cases h

/-- A part of a struct's or an array's cells. -/
def cPart (T : Tab) (t : Nat) (cs : List CV) (o : Nat) : Option CV :=
  match T.ty.get t with
  | some i => match i.k.agg with
    | true => some (.agg ((cs.drop o).take i.size))
    | false => cs[o]?
  | none => none
theorem cPart_ok {T : Tab} (hT : TabOk P T) {E : Emb} {t : Nat} {cs : List CV} {o : Nat} {r : CV} (h : cPart T t cs o = some r) {us : Array Value} (hu : VRs E cs us.toList) (w : World) : ∃ v, (part t us o).run P w = .ok v w ∧ VR E r v := by
  unfold cPart at h
  split at h
  · rename_i i hi
    have TT := hT.ty _ _ hi
    unfold part
    split at h
    · rename_i ha
      injection h with h
      subst h
      refine ⟨.agg (us.extract o (o + i.size)), ?_, ?_⟩
      · simp only [Sem.run_bind, TT.isAgg w, ha, Result.andThen_ok, if_true, TT.size w, Sem.run_pure]
      · have e : us.extract o (o + i.size) = ((us.toList.drop o).take i.size).toArray := by
          apply Array.ext'
          simp [List.take_drop, Nat.add_comm]
        rw [e]
        exact .agg _ _ ((hu.drop o).take i.size)
    · rename_i ha
      obtain ⟨u, h1, h2⟩ := hu.get h
      refine ⟨u, ?_, h2⟩
      rw [Array.getElem?_toList] at h1
      simp only [Sem.run_bind, TT.isAgg w, ha, Result.andThen_ok, Bool.false_eq_true, if_false, h1, Sem.run_pure]
  · cases h
def cField (T : Tab) (t : Nat) (c : CV) (f : Nat) : Option CV :=
  match c with
  | .agg cs => match T.ty.get t with
    | some ⟨.struct fs, _, _, _⟩ => match fs[f]? with
      | some (o, ft) => cPart T ft cs o
      | none => none
    | _ => none
  | _ => none
theorem cField_ok {T : Tab} (hT : TabOk P T) {E : Emb} {t : Nat} {c r : CV} {f : Nat} (h : cField T t c f = some r) {u : Value} (hu : VR E c u) (w : World) : ∃ v, (Instr.field t u f).run P w = .ok v w ∧ VR E r v := by
  unfold cField at h
  split at h
  · rename_i cs
    split at h
    · rename_i fs s1 b1 z ht
      split at h
      · rename_i o ft hf
        obtain ⟨d, n, z', h1, h2, h3, h4, h5, h6, h7⟩ := (hT.ty _ _ ht).ex
        obtain ⟨F, rfl, hF⟩ := kind_struct h3.symm
        rw [← hF, List.getElem?_map] at hf
        obtain ⟨fd, hfd, hfe⟩ := Option.map_eq_some_iff.1 hf
        injection hfe with e1 e2
        subst e1 e2
        have hfd' : F[f]? = some fd := by rw [← Array.getElem?_toList]; exact hfd
        cases hu with
        | agg _ us hs =>
        obtain ⟨v, p1, p2⟩ := cPart_ok hT h (us := us.toArray) (by simpa using hs) w
        refine ⟨v, ?_, p2⟩
        unfold Instr.field
        simp only [Sem.run_bind, run_underlying h1 w, Result.andThen_ok, hfd', asAgg, Sem.run_pure]
        exact p1
      · cases h
    · cases h
  · cases h
def cIndex (T : Tab) (t : Nat) (c x : CV) : Option CV :=
  match natOf x with
  | none => none
  | some i => match c with
    | .agg cs => match T.ty.get t with
      | some ⟨.array n e, _, _, _⟩ => match T.ty.get e with
        | some ie => match Nat.ble (i + 1) n with
          | true => cPart T e cs (i * ie.size)
          | false => none
        | none => none
      | _ => none
    | .str s => match T.ty.get t with
      | some ⟨.str, _, _, _⟩ => match s[i]? with
        | some b => some (.int .u8 (.ofNat b.toNat))
        | none => none
      | _ => none
    | _ => none
theorem cIndex_ok {T : Tab} (hT : TabOk P T) {E : Emb} {t : Nat} {c x r : CV} (h : cIndex T t c x = some r) {u y : Value} (hu : VR E c u) (hy : VR E x y) (w : World) : ∃ v, (Instr.index t u y).run P w = .ok v w ∧ VR E r v := by
  unfold cIndex at h
  split at h
  · cases h
  · rename_i i hx
    obtain ⟨kx, rfl⟩ := natOf_ok hx hy
    split at h
    · rename_i cs
      split at h
      · rename_i n e s1 b1 z ht
        split at h
        · rename_i ie hi
          split at h
          · rename_i hb
            have hb : i < n := by have := Nat.le_of_ble_eq_true hb; omega
            obtain ⟨d, nn, z', h1, h2, h3, h4, h5, h6, h7⟩ := (hT.ty _ _ ht).ex
            obtain rfl := kind_array h3.symm
            cases hu with
            | agg _ us hs =>
            obtain ⟨v, p1, p2⟩ := cPart_ok hT h (us := us.toArray) (by simpa using hs) w
            refine ⟨v, ?_, p2⟩
            unfold Instr.index
            simp only [asIntOf, Sem.run_bind, Sem.run_pure, Result.andThen_ok, run_underlying h1 w]
            rw [if_pos (by omega)]
            simp only [Sem.run_bind, (hT.ty _ _ hi).size w, Result.andThen_ok, Int.toNat_natCast]
            exact p1
          · cases h
        · cases h
      · cases h
    · rename_i s
      split at h
      · rename_i s1 b1 z ht
        cases hs : s[i]? with
        | none => rw [hs] at h; cases h
        | some b =>
          rw [hs] at h
          injection h with h
          subst h
          obtain ⟨d, nn, z', h1, h2, h3, h4, h5, h6, h7⟩ := (hT.ty _ _ ht).ex
          obtain rfl := kind_str h3.symm
          cases hu with
          | str =>
          refine ⟨.int .u8 b.toNat, ?_, .int _ _⟩
          unfold Instr.index
          simp only [asIntOf, Sem.run_bind, Sem.run_pure, Result.andThen_ok, run_underlying h1 w]
          have e : (⟨s.toArray⟩ : ByteArray)[i]? = some b := by
            have hi : i < s.length := (List.getElem?_eq_some_iff.1 hs).1
            have : i < (⟨s.toArray⟩ : ByteArray).size := by show i < s.toArray.size; simpa using hi
            rw [getElem?_pos (⟨s.toArray⟩ : ByteArray) i this]
            congr 1
            have h2 := (List.getElem?_eq_some_iff.1 hs).2
            rw [← h2]
            rfl
          rw [if_pos (by omega), Int.toNat_natCast, e]
          rfl
      · cases h
    · cases h
def cExtract (c : CV) (i : Nat) : Option CV :=
  match c with
  | .tup cs => cs[i]?
  | _ => none
theorem cExtract_ok {E : Emb} {c r : CV} {i : Nat} (h : cExtract c i = some r) {u : Value} (hu : VR E c u) (w : World) : ∃ v, (Instr.extract u i).run P w = .ok v w ∧ VR E r v := by
  unfold cExtract at h
  split at h
  · cases hu with
    | tup _ us hs =>
    obtain ⟨v, h1, h2⟩ := hs.get h
    refine ⟨v, ?_, h2⟩
    unfold Instr.extract
    simp only [List.getElem?_toArray, h1]
    rfl
  · cases h
end
end Go.Proofs.YthdbddolkfibkaaGreatDoor
