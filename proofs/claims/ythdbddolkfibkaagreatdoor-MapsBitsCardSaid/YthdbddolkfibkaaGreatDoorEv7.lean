
/- A reckoner for whole calls on known inputs, part 7: new blocks, stores, appends. -/
import Derived.Test.YthdbddolkfibkaaGreatDoorEv6
set_option linter.unusedSimpArgs false
set_option linter.unusedVariables false
namespace Go.Proofs.YthdbddolkfibkaaGreatDoor
open Go.RowKit
section
variable {P : Program}
theorem VRs.size {E : Emb} {cs : List CV} {u : Array Value} (h : VRs E cs u.toList) : cs.length = u.size := by
  have := h.len
  rwa [show u.toList.length = u.size from Array.length_toList] at this
theorem EStep.drew {E : Emb} {h : Tr (List CV)} {nx : Nat} {w : World} (W : WR E h nx w) : EStep E h nx w E h nx w.drew :=
  ⟨.refl E, ⟨fun g cs a b => OrR.world rfl (W.bk0 g cs a b), W.apart, W.lt⟩, Nat.le_refl _, fun _ _ _ => rfl, fun g a => .inl ⟨g, a, id, rfl⟩, Nat.le_refl _, fun _ _ a => ⟨a, rfl⟩, rfl, rfl, rfl⟩
theorem WR.nx {E : Emb} {h : Tr (List CV)} {nx nx' : Nat} {w : World} (W : WR E h nx w) (hle : nx ≤ nx') : WR E h nx' w :=
  ⟨W.bk0, W.apart, fun g a => ⟨Nat.lt_of_lt_of_le (W.lt g a).1 hle, (W.lt g a).2⟩⟩
/-- Copies of a row of cells. -/
def rep {α : Type} : Nat → List α → List α
  | 0, _ => []
  | n + 1, z => z ++ rep n z
theorem rep_len {α : Type} : ∀ (n : Nat) (z : List α), (rep n z).length = n * z.length
  | 0, z => by simp [rep]
  | n + 1, z => by simp only [rep, List.length_append, rep_len n z, Nat.succ_mul]; omega
theorem rep_get {α : Type} : ∀ (n : Nat) (z : List α) (i : Nat), i < n * z.length → (rep n z)[i]? = z[i % z.length]?
  | 0, z, i, h => by simp at h
  | n + 1, z, i, h => by
    simp only [rep]
    by_cases h1 : i < z.length
    · rw [List.getElem?_append_left h1, Nat.mod_eq_of_lt h1]
    · rw [List.getElem?_append_right (by omega), rep_get n z _ (by rw [Nat.succ_mul] at h; omega), ← Nat.mod_eq_sub_mod (by omega)]
theorem rep_vr {E : Emb} {z : List CV} {u : Array Value} (h : VRs E z u.toList) (n : Nat) : VRs E (rep n z) ((Array.range (n * u.size)).map (u[· % u.size]!)).toList := by
  have hl := h.size
  refine VRs.of (by rw [rep_len]; simp [hl]) fun i a b ha hb => ?_
  have hi : i < n * z.length := by
    rcases Nat.lt_or_ge i (n * z.length) with q | q
    · exact q
    · rw [List.getElem?_eq_none (by rw [rep_len]; exact q)] at ha; cases ha
  rw [rep_get n z i hi] at ha
  obtain ⟨v, h1, h2⟩ := h.get ha
  simp only [Array.toList_map, Array.toList_range, List.getElem?_map, List.getElem?_range (show i < n * u.size by rw [← hl]; exact hi), Option.map_some, Option.some.injEq] at hb
  rw [Array.getElem?_toList, hl] at h1
  have : u[i % u.size]! = v := by
    rw [getElem!_def, h1]
  rw [this] at hb
  subst hb
  exact h2
theorem range_cells {u : Array Value} (h : ∀ v ∈ u.toList, v.oneCell' = true) (n : Nat) : ∀ v ∈ ((Array.range (n * u.size)).map (u[· % u.size]!)).toList, v.oneCell' = true := by
  intro v hv
  simp only [Array.toList_map, Array.toList_range, List.mem_map, List.mem_range] at hv
  obtain ⟨i, hi, rfl⟩ := hv
  have hp : 0 < u.size := by
    rcases Nat.eq_zero_or_pos u.size with q | q
    · rw [q] at hi; simp at hi
    · exact q
  have hm := Nat.mod_lt i hp
  rw [getElem!_pos u (i % u.size) hm]
  exact h _ (by simp)
theorem cfill_len {place : Nat → Option (Nat × Nat)} : ∀ {parts : List (Nat × CV)} {cs r : List CV}, cfill place cs parts = some r → r.length = cs.length
  | [], cs, r, h => by injection h with h; rw [h]
  | (i, v) :: rest, cs, r, h => by
    unfold cfill at h
    split at h
    · rename_i off size vc h1 h2
      split at h
      · rename_i q1 q2
        rw [cfill_len h, lput_len cs off vc (Nat.le_of_ble_eq_true q2)]
      · cases h
    · cases h
/-- Single cells, by their look. -/
def one : CV → Bool
  | .int _ _ => true
  | .bool _ => true
  | .str _ => true
  | .ptr _ _ => true
  | .nilp => true
  | .sl _ _ _ _ => true
  | .nils => true
  | .sle _ _ => true
  | .map _ => true
  | .mapnil => true
  | .nili => true
  | .fn _ => true
  | .clo _ _ _ => true
  | .nilf => true
  | _ => false
theorem one_ok {E : Emb} {c : CV} {u : Value} (h : one c = true) (hu : VR E c u) : u.oneCell' = true := by
  cases hu <;> first | rfl | cases h
def ones : List CV → Bool
  | [] => true
  | c :: cs => match one c with
    | true => ones cs
    | false => false
theorem ones_ok {E : Emb} : ∀ {cs : List CV} {us : List Value}, ones cs = true → VRs E cs us → ∀ u ∈ us, u.oneCell' = true
  | _, _, _, .nil => fun _ h => by cases h
  | _, _, h, .cons a b => by
    unfold ones at h
    split at h
    · rename_i h1
      intro u hu
      rcases List.mem_cons.1 hu with e | e
      · rw [e]; exact one_ok h1 a
      · exact ones_ok h b u e
    · cases h

/-- The number that a new block gets: it tells the block's type, if that is one of those told. -/
def tagOf (T : Tab) (ty : Nat) : Nat :=
  match Nat.beq ty (T.tag 1), Nat.beq ty (T.tag 2) with
  | true, _ => 1
  | _, true => 2
  | _, _ => 0
theorem tagOf_ok {T : Tab} {ty : Nat} : tagOf T ty < 4 ∧ (tagOf T ty ≠ 0 → ty = T.tag (tagOf T ty)) := by
  unfold tagOf
  split
  · rename_i h
    exact ⟨by omega, fun _ => Nat.eq_of_beq_eq_true h⟩
  · rename_i h _
    exact ⟨by omega, fun _ => Nat.eq_of_beq_eq_true h⟩
  · exact ⟨by omega, fun h => absurd rfl h⟩
def noOf (nx tg : Nat) : Nat := nx + (tg + 4 - nx % 4) % 4
theorem noOf_ge (nx tg : Nat) : nx ≤ noOf nx tg := Nat.le_add_right _ _
theorem noOf_lt (nx tg : Nat) : noOf nx tg < nx + 4 := by unfold noOf; omega
theorem noOf_mod (nx tg : Nat) (h : tg < 4) : noOf nx tg % 4 = tg := by unfold noOf; omega
/-- A new block: its cells, and what the operation yields, by the block's number. -/
inductive Fresh where
  | ptr
  | sl (n k : Nat)
def Fresh.cv (g : Nat) : Fresh → CV
  | .ptr => .ptr g 0
  | .sl n k => .sl g 0 n k
def cAlloc (T : Tab) (e : Nat) : Option (List CV × Fresh) :=
  match T.ty.get e with
  | some i => some (i.zero, .ptr)
  | none => none
def cBox (c : CV) : Option (List CV × Fresh) :=
  match ccells c with
  | some cs => match ones cs with
    | true => some (cs, .ptr)
    | false => none
  | none => none
/-- A row of the parts alone: element 0, 1, .. in this order, whole. -/
def elemTy (T : Tab) (t : Nat) : Nat :=
  match T.ty.get t with
  | some ⟨.slice e, _, _, _⟩ => e
  | _ => 0
def cBuildSlice (T : Tab) (t len : Nat) (parts : List (Nat × CV)) : Option (List CV × Fresh) :=
  match T.ty.get t with
  | some ⟨.slice e, _, _, _⟩ => match T.ty.get e with
    | some ie => match cfill (fun i => some (i * ie.size, ie.size)) (rep len ie.zero) parts with
      | some cs => match ones cs, Nat.ble (len * ie.size) 16777216, Nat.ble 1 ie.size with
        | true, true, true => some (cs, .sl len ie.size)
        | _, _, _ => none
      | none => none
    | none => none
  | _ => none
def cMakeSlice (T : Tab) (t : Nat) (l c : CV) : Option (List CV × Fresh) :=
  match T.ty.get t, natOf l, natOf c with
  | some ⟨.slice e, _, _, _⟩, some n, some m => match T.ty.get e with
    | some ie => match Nat.ble n m, Nat.ble (m * ie.bytes) 281474976710656, Nat.ble m 1099511627776, Nat.ble 1 ie.size with
      | true, true, true, true => some (rep m ie.zero, .sl n ie.size)
      | _, _, _, _ => none
    | none => none
  | _, _, _ => none
/-- What such an operation does. -/
def FreshOk (P : Program) (E : Emb) (w : World) (s : Sem Value) (T : TypeId) (cs : List CV) (f : Fresh) : Prop :=
  ∃ (c : Array Value) (v : Value), s.run P w = .ok v (w.alloc (.cells c T)) ∧ VRs E cs c.toList ∧ (∀ u ∈ c.toList, u.oneCell' = true) ∧
    v = (match f with | .ptr => .pointer (some ⟨w.heap.size, 0, none⟩) | .sl n k => .slice (some ⟨w.heap.size, 0, none⟩) n (c.size / k))
theorem run_zero {t : Nat} {n : TypeInfo} {z : Value} (h : P.info? t = some n) (hz : n.zero = some z) (w : World) : (zeroValue t).run P w = .ok z w := by
  unfold zeroValue
  rw [Sem.run_bind, run_info h]
  simp [hz]
theorem cAlloc_ok {T : Tab} (hT : TabOk P T) {E : Emb} {e : Nat} {cs : List CV} {f : Fresh} (h : cAlloc T e = some (cs, f)) (w : World) : FreshOk P E w (Instr.alloc e true (.tuple #[])) e cs f := by
  unfold cAlloc at h
  split at h
  · rename_i i hi
    injection h with h
    injection h with h1 h2
    subst h1 h2
    obtain ⟨d, n, z, a1, a2, a3, a4, a5, a6, a7, a8⟩ := (hT.ty _ _ hi).ex
    refine ⟨z.cells, _, ?_, a7 E, a8, rfl⟩
    unfold Instr.alloc
    simp only [Sem.run_bind, run_zero a2 a6 w, Result.andThen_ok]
    rfl
  · cases h
theorem cBox_ok {E : Emb} {e : Nat} {c : CV} {cs : List CV} {f : Fresh} (h : cBox c = some (cs, f)) {u : Value} (hu : VR E c u) (w : World) : FreshOk P E w (Instr.box e u) e cs f := by
  unfold cBox at h
  split at h
  · rename_i cs' hc
    split at h
    · rename_i ho
      injection h with h
      injection h with h1 h2
      subst h1 h2
      have hv := ccells_ok hc hu
      exact ⟨u.cells, _, rfl, hv, ones_ok ho hv, rfl⟩
    · cases h
  · cases h
theorem cBuildSlice_ok {T : Tab} (hT : TabOk P T) {E : Emb} {t len : Nat} {parts : List (Nat × CV)} {cs : List CV} {f : Fresh} (h : cBuildSlice T t len parts = some (cs, f)) {parts' : Array (Nat × Value)} (hp : PRs E parts parts'.toList) (w : World) :
    FreshOk P E w (Instr.buildSlice t len parts') (elemTy T t) cs f := by
  unfold cBuildSlice at h
  split at h
  · rename_i e s1 b1 z1 ht
    have he : elemTy T t = e := by unfold elemTy; rw [ht]
    rw [he]
    obtain ⟨d, n, z, h1, h2, h3, _⟩ := (hT.ty _ _ ht).ex
    obtain rfl := kind_slice h3.symm
    split at h
    · rename_i ie hie
      obtain ⟨d', n', z', a1, a2, a3, a4, a5, a6, a7, a8⟩ := (hT.ty _ _ hie).ex
      split at h
      · rename_i cs' hcs
        split at h
        · rename_i ho hb hk
          injection h with h
          injection h with e1 e2
          subst e1 e2
          have hb := Nat.le_of_ble_eq_true hb
          have hk := Nat.le_of_ble_eq_true hk
          have hzl := (a7 E).size
          have hzs : z'.cells.size = ie.size := by rw [← hzl]; exact (hT.ty _ _ hie).zl
          have hr := rep_vr (a7 E) len
          rw [hzs] at hr
          obtain ⟨c', f1, f2⟩ := cfill_ok hp hr hcs
          have hsz : c'.size = len * ie.size := by rw [← f2.size, cfill_len hcs, rep_len, (hT.ty _ _ hie).zl]
          refine ⟨c', .slice (some ⟨w.heap.size, 0, none⟩) len len, ?_, f2, ones_ok ho f2, ?_⟩
          · unfold Instr.buildSlice
            simp only [Sem.run_bind, run_underlying h1 w, Result.andThen_ok, (hT.ty _ _ hie).size w]
            rw [if_neg (by omega)]
            by_cases h0 : len * ie.size = 0
            · rw [h0] at f1
              have hn : ∀ f : Nat → Value, (Array.range 0).map f = #[] := fun f => by simp
              rw [hn] at f1
              simp only [h0, if_true, Sem.run_pure, Result.andThen_ok, hn, f1]
              rfl
            · rw [if_neg h0]
              simp only [Sem.run_bind, run_zero a2 a6 w, Result.andThen_ok, Sem.run_pure, hzs, f1]
              rfl
          · simp only
            rw [hsz, Nat.mul_div_cancel _ hk]
        · cases h
      · cases h
    · cases h
  · cases h
theorem cMakeSlice_ok {T : Tab} (hT : TabOk P T) {E : Emb} {t : Nat} {l c : CV} {cs : List CV} {f : Fresh} (h : cMakeSlice T t l c = some (cs, f)) {u v : Value} (hu : VR E l u) (hv : VR E c v) (w : World) : FreshOk P E w (Instr.makeSlice t u v) (elemTy T t) cs f := by
  unfold cMakeSlice at h
  split at h
  · rename_i e s1 b1 z1 n m ht hn hm
    have he : elemTy T t = e := by unfold elemTy; rw [ht]
    rw [he]
    obtain ⟨kn, rfl⟩ := natOf_ok hn hu
    obtain ⟨km, rfl⟩ := natOf_ok hm hv
    obtain ⟨d, ni, z, h1, h2, h3, _⟩ := (hT.ty _ _ ht).ex
    obtain rfl := kind_slice h3.symm
    split at h
    · rename_i ie hie
      obtain ⟨d', n', z', a1, a2, a3, a4, a5, a6, a7, a8⟩ := (hT.ty _ _ hie).ex
      split at h
      · rename_i q1 q2 q3 q4
        injection h with h
        injection h with e1 e2
        subst e1 e2
        have q1 := Nat.le_of_ble_eq_true q1
        have q2 := Nat.le_of_ble_eq_true q2
        have q3 := Nat.le_of_ble_eq_true q3
        have q4 := Nat.le_of_ble_eq_true q4
        have hzs : z'.cells.size = ie.size := by rw [← (a7 E).size]; exact (hT.ty _ _ hie).zl
        have hr := rep_vr (a7 E) m
        rw [hzs] at hr
        refine ⟨(Array.range (m * ie.size)).map (z'.cells[· % ie.size]!), .slice (some ⟨w.heap.size, 0, none⟩) n m, ?_, hr, by have := range_cells a8 m; rwa [hzs] at this, ?_⟩
        · have w1 : IntKind.i64.wrap (n : Int) = n := by rw [IntKind.wrap_i64]; omega
          have w2 : IntKind.i64.wrap (m : Int) = m := by rw [IntKind.wrap_i64]; omega
          have hb : ((n'.bytes : Nat) : Int) * (m : Int) ≤ 281474976710656 := by
            rw [a5, ← Int.natCast_mul, Nat.mul_comm]
            omega
          unfold Instr.makeSlice
          simp only [asInt, asIntOf, Sem.run_bind, run_underlying h1 w, Result.andThen_ok, Sem.run_pure, run_info a2 w, w1, w2]
          rw [if_neg]
          · by_cases h0 : m * ie.size = 0
            · have hn0 : ∀ f : Nat → Value, (Array.range 0).map f = #[] := fun f => by simp
              simp only [Int.toNat_natCast, Sem.run_bind, run_askRoom, (hT.ty _ _ hie).size w, Sem.run_pure, Result.andThen_ok, h0, if_true, hn0, newRow]
              rfl
            · simp only [Int.toNat_natCast, Sem.run_bind, run_askRoom, (hT.ty _ _ hie).size w, Result.andThen_ok, if_neg h0, run_zero a2 a6 w, Sem.run_pure, hzs, newRow]
              rfl
          · simp only [Bool.or_eq_true, decide_eq_true_eq, not_or, Int.not_lt]
            omega
        · simp only
          rw [Array.size_map, Array.size_range, Nat.mul_div_cancel _ q4]
      · cases h
    · cases h
  · cases h
/-- A new block, as a step. -/
theorem FreshOk.step {E : Emb} {h : Tr (List CV)} {nx nx' : Nat} {w : World} (W : WR E h nx w) {s : Sem Value} {T : TypeId} {cs : List CV} {f : Fresh} (F : FreshOk P E w s T cs f) {g : Nat} (hg : ¬ E.on g) (hge : nx ≤ g) (hlt : g < nx') (hk : g < keyMax) (htag : g % 4 ≠ 0 → T = E.tag (g % 4)) :
    ∃ v w' E', s.run P w = .ok v w' ∧ EStep E h nx w E' (hput h g cs) nx' w' ∧ VR E' (f.cv g) v ∧ E'.on = fun x => x = g ∨ E.on x := by
  obtain ⟨c, v, h1, h2, h3, h4⟩ := F
  have hl := h2.size
  refine ⟨v, _, E.ext g w.heap.size 0 c.size, h1, EStep.alloc W hg hge hlt hk (by omega) (fz := (0, 0)) (.inl rfl) htag (fun i x hx => ?_), ?_, rfl⟩
  · obtain ⟨u, g1, g2⟩ := h2.get hx
    rw [Array.getElem?_toList] at g1
    exact ⟨u, g1, g2, h3 u (List.mem_of_getElem? (by rw [Array.getElem?_toList]; exact g1))⟩
  · rw [h4]
    cases f with
    | ptr =>
      have := VR.ptr (E := E.ext g w.heap.size 0 c.size) g 0 (.inl rfl)
      simpa [Emb.ext, Fresh.cv] using this
    | sl n k =>
      have := VR.sl (E := E.ext g w.heap.size 0 c.size) g 0 n k (.inl rfl)
      simpa [Emb.ext, Fresh.cv] using this
end
end Go.Proofs.YthdbddolkfibkaaGreatDoor
