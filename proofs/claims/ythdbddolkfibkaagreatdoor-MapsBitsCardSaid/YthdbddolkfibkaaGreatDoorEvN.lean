
/- A reckoner for whole calls on known inputs: operations on maps. -/
import Derived.Test.YthdbddolkfibkaaGreatDoorEvM
set_option linter.unusedSimpArgs false
set_option linter.unusedVariables false
namespace Go.Proofs.YthdbddolkfibkaaGreatDoor
open Go.RowKit
open Go.MapKept (run_setObj_map run_checkKey run_findKey run_keyThatStays)
section
variable {P : Program}
/-- A type's zero, as one value. -/
def zeroC (i : TInfo) : Option CV :=
  match i.k.agg, i.zero with
  | true, cs => some (.agg cs)
  | false, [c] => some c
  | _, _ => none
/-- The entries of a map. -/
def cEnts (h : Tr (List CV)) (m : CV) : Option (List CV) :=
  match m with
  | .mapnil => some []
  | .map g => match h.get g with
    | some (.mobj _ :: ds) => some ds
    | _ => none
  | _ => none
/-- Is a value, known by its number, a whole number of a key's kind? -/
def symKey (T : Tab) (k : TK) (c : CV) : Bool :=
  match k, c with
  | .int q, .sym i => match T.sk i with
    | some q' => decide (q' = q)
    | none => false
  | _, _ => false
def cLookup (T : Tab) (h : Tr (List CV)) (t : Nat) (m k : CV) (ok : Bool) : Option CV :=
  match T.ty.get t with
  | some ⟨.map kt et, _, _, _⟩ => match T.ty.get kt, T.ty.get et, cEnts h m with
    | some ik, some ie, some ds => match cKey ik.k k, cFind ik.k k ds 0 with
      | true, some (some (_, v)) => match ok with
        | true => some (.tup [v, .bool true])
        | false => some v
      | true, some none => match zeroC ie, ok with
        | some z, true => some (.tup [z, .bool false])
        | some z, false => some z
        | none, _ => none
      | _, _ => match symKey T ik.k k, ds, zeroC ie, ok with
        | true, [], some z, true => some (.tup [z, .bool false])
        | true, [], some z, false => some z
        | _, _, _, _ => none
    | _, _, _ => none
  | _ => none
/-- How long a map's writing is bounded. -/
def cUpdate (T : Tab) (n0 : Nat) (h : Tr (List CV)) (t : Nat) (m k v : CV) : Option (Tr (List CV)) :=
  match T.ty.get t, m with
  | some ⟨.map kt _, _, _, _⟩, .map g => match T.ty.get kt, h.get g, Nat.ble n0 g, Nat.ble (g + 1) keyMax with
    | some ik, some (.mobj clock :: ds), true, true => match cKey ik.k k, cFind ik.k k ds 0 with
      | true, some (some (i, _)) => match ds[i]? with
        | some (.ment _ _ b) => some (hput h g (.mobj clock :: ds.set i (.ment k v b)))
        | _ => none
      | true, some none => some (hput h g (.mobj (clock + 1) :: (ds ++ [.ment k v clock])))
      | _, _ => none
    | _, _, _, _ => none
  | _, _ => none
def cMapLen (T : Tab) (h : Tr (List CV)) (t : Nat) (m : CV) : Option CV :=
  match T.ty.get t, cEnts h m with
  | some ⟨.map _ _, _, _, _⟩, some ds => some (.int .i64 (.ofNat ds.length))
  | _, _ => none
def cDelete (T : Tab) (n0 : Nat) (h : Tr (List CV)) (t : Nat) (m k : CV) : Option (Tr (List CV)) :=
  match T.ty.get t, m with
  | some ⟨.map kt _, _, _, _⟩, .map g => match T.ty.get kt, h.get g, Nat.ble n0 g, Nat.ble (g + 1) keyMax with
    | some ik, some (.mobj clock :: ds), true, true => match cKey ik.k k, cFind ik.k k ds 0 with
      | true, some (some (i, _)) => some (hput h g (.mobj clock :: ds.eraseIdx i))
      | true, some none => some (hput h g (.mobj clock :: ds))
      | _, _ => none
    | _, _, _, _ => none
  | _, _ => none
theorem zeroC_ok {T : Tab} (hT : TabOk P T) {t : Nat} {i : TInfo} (hi : T.ty.get t = some i) {c : CV} (h : zeroC i = some c) (w : World) : ∃ z, (zeroValue t).run P w = .ok z w ∧ ∀ E, VR E c z := by
  obtain ⟨d, n, z, h1, h2, h3, h4, h5, h6, h7, h8⟩ := (hT.ty _ _ hi).ex
  obtain ⟨n', z', k1, k2, k3, k4⟩ := (hT.ty _ _ hi).zv
  rw [h2] at k1
  injection k1 with k1
  subst k1
  rw [h6] at k2
  injection k2 with k2
  subst k2
  refine ⟨z, run_zero h2 h6 w, fun E => ?_⟩
  have hv := h7 E
  unfold zeroC at h
  split at h
  · rename_i cs ha
    injection h with h
    subst h
    obtain ⟨a, rfl⟩ := k3 ha
    exact .agg _ _ hv
  · rename_i c' ha hz
    injection h with h
    subst h
    rw [k4 ha, hz] at hv
    cases hv with
    | cons a _ => exact a
  · cases h
theorem cEnts_ok {E : Emb} {h : Tr (List CV)} {nx : Nat} {w : World} (W : WR E h nx w) {m : CV} {ds : List CV} (hm : cEnts h m = some ds) {u : Value} (hu : VR E m u) :
    (ds = [] ∧ u = .map none) ∨ ∃ g es clock, u = .map (some (E.adr g)) ∧ w.heap[E.adr g]? = some (.map es clock) ∧ MEs E ds es.toList := by
  unfold cEnts at hm
  split at hm
  · injection hm with hm
    cases hu
    exact .inl ⟨hm.symm, rfl⟩
  · rename_i g
    split at hm
    · rename_i clock ds' hg
      injection hm with hm
      subst hm
      cases hu with
      | map _ hon =>
      obtain ⟨es, a, b⟩ := W.mp hon hg
      exact .inr ⟨g, es, clock, rfl, a, b⟩
    · cases hm
  · cases hm
theorem run_lookup {t kt et : Nat} {d : TypeDesc} (h1 : P.underlying t = some (.map kt et)) (a1 : P.underlying kt = some d) {w : World} {es : List MapEntry} {u v : Value} (hu : (es = [] ∧ u = .map none) ∨ ∃ r ents clock, u = .map (some r) ∧ w.heap[r]? = some (.map ents clock) ∧ ents.toList = es)
    (hk : Go.MapKept.IsKey d v) (ok : Bool) {o : Option (Nat × Value)} (ho : Instr.findNow d v es 0 = some o) {y : Value} (hy : match o with | some (_, x) => y = x | none => (zeroValue et).run P w = .ok y w) :
    (Instr.lookup t u v ok).run P w = .ok (if ok then .tuple #[y, .bool o.isSome] else y) w := by
  rcases hu with ⟨rfl, rfl⟩ | ⟨r, ents, clock, rfl, b1, rfl⟩
  · have hf := run_findKey (w := w) (kt := kt) (P := P) a1 ho
    unfold Instr.lookup
    cases o with
    | none => simp only [Sem.run_bind, run_underlying h1 w, Result.andThen_ok, Sem.run_pure, run_checkKey a1 hk, hf, hy, Option.isSome] <;> all_goals (cases ok <;> rfl)
    | some p =>
      subst hy
      simp only [Sem.run_bind, run_underlying h1 w, Result.andThen_ok, Sem.run_pure, run_checkKey a1 hk, hf, Option.isSome] <;> all_goals (cases ok <;> rfl)
  · have hf := run_findKey (w := w) (kt := kt) (P := P) a1 ho
    have hgo := Go.MapKept.run_getObj_map (P := P) b1
    unfold Instr.lookup
    cases o with
    | none => simp only [Sem.run_bind, run_underlying h1 w, Result.andThen_ok, Sem.run_pure, hgo, run_checkKey a1 hk, hf, hy, Option.isSome] <;> all_goals (cases ok <;> rfl)
    | some p =>
      subst hy
      simp only [Sem.run_bind, run_underlying h1 w, Result.andThen_ok, Sem.run_pure, hgo, run_checkKey a1 hk, hf, Option.isSome] <;> all_goals (cases ok <;> rfl)
theorem symKey_ok {T : Tab} (hT : TabOk P T) {E : Emb} (hy : E.sy = T.sy) {k : TK} {c : CV} (h : symKey T k c = true) {d : TypeDesc} (hd : k = kindOf d) {v : Value} (hv : VR E c v) : Go.MapKept.IsKey d v := by
  unfold symKey at h
  split at h
  · rename_i q i
    split at h
    · rename_i q' hq
      obtain ⟨x, hx⟩ := hT.sym.sk _ _ hq
      obtain rfl := kind_int hd.symm
      cases hv
      rw [hy, hx]
      have h := of_decide_eq_true h
      exact h
    · cases h
  · cases h
theorem cLookup_ok {T : Tab} (hT : TabOk P T) {E : Emb} (hy : E.sy = T.sy) {h : Tr (List CV)} {nx : Nat} {w : World} (W : WR E h nx w) {t : Nat} {m k r : CV} {ok : Bool} (hr : cLookup T h t m k ok = some r) {u v : Value} (hu : VR E m u) (hv : VR E k v) :
    ∃ z, (Instr.lookup t u v ok).run P w = .ok z w ∧ VR E r z := by
  unfold cLookup at hr
  split at hr
  · rename_i kt et s1 b1 z1 ht
    obtain ⟨dd, nn, zz, h1, h2, h3, _⟩ := (hT.ty _ _ ht).ex
    obtain rfl := kind_map h3.symm
    split at hr
    · rename_i ik ie ds hik hie hds
      obtain ⟨d, n', z', a1, a2, a3, _⟩ := (hT.ty _ _ hik).ex
      obtain ⟨es, hes, hm⟩ : ∃ es : List MapEntry, ((es = [] ∧ u = .map none) ∨ ∃ r ents clock, u = .map (some r) ∧ w.heap[r]? = some (.map ents clock) ∧ ents.toList = es) ∧ MEs E ds es := by
        rcases cEnts_ok W hds hu with ⟨rfl, rfl⟩ | ⟨g, es, clock, rfl, b1, b2⟩
        · exact ⟨[], .inl ⟨rfl, rfl⟩, .nil⟩
        · exact ⟨es.toList, .inr ⟨_, es, clock, rfl, b1, rfl⟩, b2⟩
      rw [a3] at hr
      split at hr
      · rename_i j y hk hf
        have hk := cKey_ok hk hv
        rcases cFind_ok hv hm hf with ⟨q, _⟩ | ⟨j', q, v', b, e, q1, q2, q3, q4, q5⟩
        · cases q
        · injection q1 with q1
          injection q1 with q0 q1
          subst q1
          obtain ⟨_, c2, _⟩ := hm.get q4 q3
          refine ⟨_, run_lookup h1 a1 hes hk ok q2 rfl, ?_⟩
          cases ok with
          | true => injection hr with hr; subst hr; exact .tup [_, _] [_, _] (.cons c2 (.cons (.bool _) .nil))
          | false => injection hr with hr; subst hr; exact c2
      · rename_i hk hf
        have hk := cKey_ok hk hv
        rcases cFind_ok hv hm hf with ⟨_, q⟩ | ⟨j', q, v', b, e, q1, _⟩
        · split at hr
          · rename_i z hz
            obtain ⟨zv, z1, z2⟩ := zeroC_ok hT hie hz w
            injection hr with hr
            subst hr
            exact ⟨_, run_lookup h1 a1 hes hk true q z1, .tup [_, _] [_, _] (.cons (z2 E) (.cons (.bool _) .nil))⟩
          · rename_i z hz
            obtain ⟨zv, z1, z2⟩ := zeroC_ok hT hie hz w
            injection hr with hr
            subst hr
            exact ⟨_, run_lookup h1 a1 hes hk false q z1, z2 E⟩
          · cases hr
        · cases q1
      · rw [← a3] at hr
        have key : ∀ z, symKey T ik.k k = true → ds = [] → zeroC ie = some z → ∃ zv, (Instr.lookup t u v ok).run P w = .ok (if ok then .tuple #[zv, .bool false] else zv) w ∧ VR E z zv := by
          intro z hs hd hz
          subst hd
          cases hm
          obtain ⟨zv, z1, z2⟩ := zeroC_ok hT hie hz w
          refine ⟨zv, ?_, z2 E⟩
          exact run_lookup (o := none) h1 a1 hes (symKey_ok hT hy hs a3 hv) ok rfl z1
        split at hr
        · rename_i z hz hs
          injection hr with hr
          subst hr
          obtain ⟨zv, z1, z2⟩ := key _ (by assumption) rfl (by assumption)
          exact ⟨_, z1, .tup [_, _] [_, _] (.cons z2 (.cons (.bool _) .nil))⟩
        · rename_i z hz hs
          injection hr with hr
          subst hr
          obtain ⟨zv, z1, z2⟩ := key _ (by assumption) rfl (by assumption)
          exact ⟨_, z1, z2⟩
        · cases hr
    · cases hr
  · cases hr
theorem cMapLen_ok {T : Tab} (hT : TabOk P T) {E : Emb} {h : Tr (List CV)} {nx : Nat} {w : World} (W : WR E h nx w) {t : Nat} {m r : CV} (hr : cMapLen T h t m = some r) {u : Value} (hu : VR E m u) (ty : TypeId) (cs : Array Bool) :
    ∃ z, (builtin .len #[t] ty cs #[u]).run P w = .ok (.value z) w ∧ VR E r z := by
  unfold cMapLen at hr
  split at hr
  · rename_i kt et s1 b1 z1 ds ht hds
    obtain ⟨dd, nn, zz, h1, h2, h3, _⟩ := (hT.ty _ _ ht).ex
    obtain rfl := kind_map h3.symm
    injection hr with hr
    subst hr
    rcases cEnts_ok W hds hu with ⟨rfl, rfl⟩ | ⟨g, es, clock, rfl, c1, c2⟩
    · refine ⟨goInt 0, ?_, .int _ _⟩
      unfold builtin
      have : (Builtin.len_ #[t] ty #[.map none]).run P w = .ok (goInt 0) w := by
        unfold Builtin.len_
        simp only [List.getElem?_toArray, List.getElem?_cons_zero, Sem.run_bind, run_underlying h1 w, Result.andThen_ok, Sem.run_pure]
      simp only [Sem.run_bind, this, Result.andThen_ok, Sem.run_pure]
    · have hgo := Go.MapKept.run_getObj_map (P := P) c1
      refine ⟨goInt es.size, ?_, ?_⟩
      · unfold builtin
        have : (Builtin.len_ #[t] ty #[.map (some (E.adr g))]).run P w = .ok (goInt es.size) w := by
          unfold Builtin.len_
          simp only [List.getElem?_toArray, List.getElem?_cons_zero, Sem.run_bind, run_underlying h1 w, Result.andThen_ok, Sem.run_pure, hgo]
        simp only [Sem.run_bind, this, Result.andThen_ok, Sem.run_pure]
      · have : ds.length = es.size := by rw [c2.len]; simp
        rw [this]
        exact .int _ _
  · cases hr
theorem sameNow_true {d : TypeDesc} {x y : Value} (h : Instr.sameNow d x y = some true) : x = y := by
  unfold Instr.sameNow at h
  split at h
  · split at h
    · rename_i e
      injection h with h
      rw [e, beq_iff_eq.1 h]
    · cases h
  · injection h with h
    rw [(Go.MapKept.bytes_beq _ _).1 h]
  · injection h with h
    rw [beq_iff_eq.1 h]
  · cases h
theorem modify_set {α : Type} (f : α → α) : ∀ (l : List α) (j : Nat) (e : α), l[j]? = some e → l.modify j f = l.set j (f e)
  | a :: l, 0, e, h => by
    simp only [List.getElem?_cons_zero, Option.some.injEq] at h
    subst h
    rfl
  | a :: l, j + 1, e, h => by
    simp only [List.getElem?_cons_succ] at h
    simp only [List.modify_succ_cons, List.set_cons_succ, modify_set f l j e h]
  | [], _, _, h => by simp at h
theorem cUpdate_ok {T : Tab} (hT : TabOk P T) {E : Emb} {h h' : Tr (List CV)} {nx : Nat} {w : World} (W : WR E h nx w) {t : Nat} {m k v : CV} (hr : cUpdate T E.n0 h t m k v = some h') {u x y : Value} (hu : VR E m u) (hx : VR E k x) (hy : VR E v y) :
    ∃ w', (Instr.mapUpdate t u x y).run P w = .ok () w' ∧ EStep E h nx w E h' nx w' := by
  unfold cUpdate at hr
  split at hr
  · rename_i kt et s1 b1 z1 g ht
    obtain ⟨dd, nn, zz, h1, h2, h3, _⟩ := (hT.ty _ _ ht).ex
    obtain rfl := kind_map h3.symm
    split at hr
    · rename_i ik clock ds hik hg h0 hkm
      have h0 := Nat.le_of_ble_eq_true h0
      have hkm := Nat.lt_of_succ_le (Nat.le_of_ble_eq_true hkm)
      obtain ⟨d, n', z', a1, a2, a3, _⟩ := (hT.ty _ _ hik).ex
      cases hu with
      | map _ hon =>
      obtain ⟨es, c1, c2⟩ := W.mp hon hg
      have hgo := Go.MapKept.run_getObj_map (P := P) c1
      rw [a3] at hr
      split at hr
      · rename_i j y' hk hf
        have hk := cKey_ok hk hx
        rcases cFind_ok hx c2 hf with ⟨q, _⟩ | ⟨j', q, v', b, e, q1, q2, q3, q4, q5⟩
        · cases q
        · injection q1 with q1
          injection q1 with q0 q1
          have q0 : j = j' := by omega
          subst q0
          rw [q4] at hr
          injection hr with hr
          subst hr
          obtain ⟨_, _, rfl⟩ := c2.get q4 q3
          have hj : es[j]? = some e := by simpa using q3
          rw [Nat.zero_add] at q2
          have hxe : x = e.key := by
            exact sameNow_true q5
          refine ⟨_, ?_, EStep.setMap W hon h0 hkm (es' := es.modify j fun e => { e with key := x, val := y }) (clock' := clock) hg ?_⟩
          · unfold Instr.mapUpdate
            simp only [Sem.run_bind, run_underlying h1 w, Result.andThen_ok, Sem.run_pure, hgo, run_checkKey a1 hk, run_findKey a1 q2, hj, Option.map_some, Option.getD_some, ← hxe, run_keyThatStays hk, run_setObj_map _ c1]
          · have : (es.modify j fun e => { e with key := x, val := y }).toList = es.toList.set j { e with key := x, val := y } := by
              rw [Array.toList_modify]
              exact modify_set _ _ _ _ q3
            rw [this]
            exact c2.set (e := { e with key := x, val := y }) j hx hy
      · rename_i hk hf
        have hk := cKey_ok hk hx
        rcases cFind_ok hx c2 hf with ⟨_, q⟩ | ⟨j', q, v', b, e, q1, _⟩
        · injection hr with hr
          subst hr
          refine ⟨_, ?_, EStep.setMap W hon h0 hkm (es' := es.push { key := x, val := y, born := clock }) (clock' := clock + 1) hg ?_⟩
          · unfold Instr.mapUpdate
            simp only [Sem.run_bind, run_underlying h1 w, Result.andThen_ok, Sem.run_pure, hgo, run_checkKey a1 hk, run_findKey a1 q, run_setObj_map _ c1]
          · rw [Array.toList_push]
            exact c2.snoc (e := { key := x, val := y, born := clock }) hx hy
        · cases q1
      · cases hr
    · cases hr
  · cases hr
/-- The length of whatever has one. -/
def cLenM (T : Tab) (h : Tr (List CV)) (t : Nat) (m : CV) : Option CV :=
  match cLen T t m with
  | some r => some r
  | none => match isSym m with
    | true => T.sl .len [t] [m]
    | false => cMapLen T h t m
theorem cLenM_ok {T : Tab} (hT : TabOk P T) {E : Emb} (hy : E.sy = T.sy) {h : Tr (List CV)} {nx : Nat} {w : World} (W : WR E h nx w) {t : Nat} {m r : CV} (hr : cLenM T h t m = some r) {u : Value} (hu : VR E m u) (ty : TypeId) (cs : Array Bool) :
    ∃ z, (builtin .len #[t] ty cs #[u]).run P w = .ok (.value z) w ∧ VR E r z := by
  unfold cLenM at hr
  split at hr
  · rename_i r' h1
    injection hr with hr
    subst hr
    exact cLen_ok hT h1 hu ty cs w
  · split at hr
    · obtain ⟨us, z, a1, a2, a3⟩ := hT.sym.sl _ _ _ _ hr
      rw [← hy] at a1 a2
      have := svs_eq (.cons hu .nil) a1
      subst this
      exact ⟨z, a3 ty cs w, sv_vr a2⟩
    · exact cMapLen_ok hT W hr hu ty cs
end
end Go.Proofs.YthdbddolkfibkaaGreatDoor
