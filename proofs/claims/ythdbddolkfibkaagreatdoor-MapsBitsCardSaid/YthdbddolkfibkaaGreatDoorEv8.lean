
/- A reckoner for whole calls on known inputs, part 8: stores and appends. -/
import Derived.Test.YthdbddolkfibkaaGreatDoorEv7
import Derived.Deep.AppendSrc
import Derived.Deep.Upon
set_option linter.unusedSimpArgs false
set_option linter.unusedVariables false
namespace Go.Proofs.YthdbddolkfibkaaGreatDoor
open Go.RowKit
section
variable {P : Program}
theorem VR.cells_len {E : Emb} {c : CV} {cs : List CV} (h : ccells c = some cs) {u : Value} (hu : VR E c u) : cs.length = u.cells.size := (ccells_ok h hu).size
/-- A store. -/
def cStore (T : Tab) (n0 : Nat) (h : Tr (List CV)) (t : Nat) (p c : CV) : Option (Tr (List CV)) :=
  match p, ccells c, T.ty.get t with
  | .ptr g o, some vs, some i => match hget h g with
    | some cs => match Nat.ble n0 g, Nat.ble (o + vs.length) cs.length, Nat.beq vs.length i.size, ones vs, Nat.ble (g + 1) keyMax with
      | true, true, true, true, true => some (hput h g (lput cs o vs))
      | _, _, _, _, _ => none
    | none => none
  | _, _, _ => none
theorem WR.there {E : Emb} {h : Tr (List CV)} {nx : Nat} {w : World} (W : WR E h nx w) {g : Nat} {cs : List CV} (hon : E.on g) (hg : hget h g = some cs) (h0 : E.n0 ≤ g) {o : Nat} (ho : o < E.cap g) :
    (w.cell? ⟨E.adr g, E.off g + o, none⟩).isSome = true ∧ w.frozen? ⟨E.adr g, E.off g + o, none⟩ = false := by
  obtain ⟨c, TT, fz, b1, b2, b3, b4, b5⟩ := W.bk g cs hon hg
  have hi : E.off g + o < c.size := by omega
  constructor
  · simp [World.cell?, b1, hi]
  · have := (b4 h0).1
    simp only [World.frozen?, b1, Bool.and_eq_false_imp, decide_eq_true_eq, decide_eq_false_iff_not]
    intro a b
    omega
theorem cStore_ok {T : Tab} (hT : TabOk P T) {E : Emb} {hp hp' : Tr (List CV)} {nx : Nat} {w : World} (W : WR E hp nx w) {t : Nat} {p c : CV} (h : cStore T E.n0 hp t p c = some hp') {u v : Value} (hu : VR E p u) (hv : VR E c v) :
    ∃ w', (Instr.storeAt t u v).run P w = .ok () w' ∧ EStep E hp nx w E hp' nx w' := by
  unfold cStore at h
  split at h
  · rename_i g o vs i hc hi
    split at h
    · rename_i cs hg
      split at h
      · rename_i q1 q2 q3 q4 q5
        injection h with h
        subst h
        have q1 := Nat.le_of_ble_eq_true q1
        have q2 := Nat.le_of_ble_eq_true q2
        have q3 := Nat.eq_of_beq_eq_true q3
        have q5 := Nat.le_of_ble_eq_true q5
        cases hu with
        | ptr _ _ hon =>
        have hvs := ccells_ok hc hv
        have hl := hvs.size
        have hcap : cs.length ≤ E.cap g := by obtain ⟨_, _, _, _, _, b3, _⟩ := W.bk g cs hon hg; exact b3
        refine ⟨w.setCells (E.adr g) (E.off g + o) v.cells.toList, ?_, EStep.store W hon q1 q5 hg q2 hvs (ones_ok q4 hvs)⟩
        have hst := run_storeCells_cells (P := P) (E.adr g) (E.off g + o) v.cells.toList 0 w (fun j hj => by
            have hj : j < vs.length := by rw [hl]; simpa using hj
            rw [Nat.add_zero, Nat.add_assoc]
            exact (W.there hon hg q1 (by omega)).1) (fun j hj => by
            have hj : j < vs.length := by rw [hl]; simpa using hj
            rw [Nat.add_zero, Nat.add_assoc]
            exact (W.there hon hg q1 (by omega)).2) (ones_ok q4 hvs)
        rw [Nat.add_zero] at hst
        unfold Instr.storeAt
        simp only [Instr.sureAddr, Sem.run_bind, Sem.run_pure, Result.andThen_ok]
        unfold storeVar
        simp only [Sem.run_bind, (hT.ty _ _ hi).size w, Result.andThen_ok]
        rw [if_neg (by rw [← hl, q3]; simp)]
        exact hst
      · cases h
    · cases h
  · cases h

/-- What is appended: how many elements, and the cells. -/
def cSrc (T : Tab) (h : Tr (List CV)) (tx k : Nat) (c : CV) : Option (Nat × List CV) :=
  match T.ty.get tx with
  | some ⟨.slice _, _, _, _⟩ => match c with
    | .nils => some (0, [])
    | .sl g o n k' => match hget h g with
      | some cs => match Nat.beq k' k, Nat.ble (o + n * k) cs.length with
        | true, true => some (n, (cs.drop o).take (n * k))
        | _, _ => none
      | none => none
    | _ => none
  | some ⟨.str, _, _, _⟩ => match c, Nat.beq k 1 with
    | .str s, true => some (s.length, s.map fun b => .int .u8 (.ofNat b.toNat))
    | _, _ => none
  | _ => none
theorem cSrc_ok {T : Tab} (hT : TabOk P T) {E : Emb} {hp : Tr (List CV)} {nx : Nat} {w : World} (W : WR E hp nx w) {tx k : Nat} {c : CV} {n : Nat} {cs : List CV} (h : cSrc T hp tx k c = some (n, cs)) {u : Value} (hu : VR E c u) :
    ∃ us, Src P k tx u n us w ∧ VRs E cs us := by
  unfold cSrc at h
  split at h
  · rename_i e s1 b1 z1 ht
    obtain ⟨d, nn, z', h1, h2, h3, _⟩ := (hT.ty _ _ ht).ex
    obtain rfl := kind_slice h3.symm
    cases c with
    | nils =>
      simp only [Option.some.injEq, Prod.mk.injEq] at h
      obtain ⟨rfl, rfl⟩ := h
      cases hu
      exact ⟨[], Src.ofNil w h1 0, .nil⟩
    | sl g o m k' =>
      simp only at h
      split at h
      · rename_i ds hg
        split at h
        · rename_i q1 q2
          simp only [Option.some.injEq, Prod.mk.injEq] at h
          obtain ⟨rfl, rfl⟩ := h
          have q1 := Nat.eq_of_beq_eq_true q1
          have q2 := Nat.le_of_ble_eq_true q2
          subst q1
          cases hu with
          | sl _ _ _ _ hon =>
          obtain ⟨us, u1, u2, u3, u4⟩ := W.row hon hg q2
          exact ⟨us, Src.ofSlice w h1 _ _ _ _ u1 (fun j v hv => by rw [add_mid']; exact u4 j v hv) u3, u2⟩
        · cases h
      · cases h
    | _ => cases h
  · rename_i s1 b1 z1 ht
    obtain ⟨d, nn, z', h1, h2, h3, _⟩ := (hT.ty _ _ ht).ex
    obtain rfl := kind_str h3.symm
    split at h
    · rename_i s hk
      simp only [Option.some.injEq, Prod.mk.injEq] at h
      obtain ⟨rfl, rfl⟩ := h
      have hk := Nat.eq_of_beq_eq_true hk
      subst hk
      cases hu with
      | str =>
      have hsz : (⟨s.toArray⟩ : ByteArray).size = s.length := by show s.toArray.size = s.length; simp
      refine ⟨byteCells ⟨s.toArray⟩, by have := Src.ofString w h1 ⟨s.toArray⟩; rwa [hsz] at this, ?_⟩
      unfold byteCells
      refine VRs.of (by simp) fun i a b ha hb => ?_
      simp only [List.getElem?_map] at ha hb
      cases hs : s[i]? with
      | none => rw [hs] at ha; cases ha
      | some x =>
        rw [hs] at ha hb
        injection ha with ha
        injection hb with hb
        subst ha hb
        exact .int _ _
    · cases h
  · cases h
/-- The tag of a slice that grows. -/
def tagMv (T : Tab) (e g o : Nat) : Nat :=
  match Nat.beq (g % 4) (tagOf T e), Nat.beq o 0 with
  | true, true => tagOf T e
  | _, _ => 0
theorem tagMv_ok {T : Tab} {e g o : Nat} : tagMv T e g o < 4 ∧ (tagMv T e g o ≠ 0 → e = T.tag (tagMv T e g o) ∧ g % 4 = tagMv T e g o ∧ o = 0) := by
  unfold tagMv
  split
  · rename_i h1 h2
    exact ⟨tagOf_ok.1, fun h => ⟨tagOf_ok.2 h, Nat.eq_of_beq_eq_true h1, Nat.eq_of_beq_eq_true h2⟩⟩
  · exact ⟨by omega, fun h => absurd rfl h⟩
/-- An append: a new number for the block where it may have moved. -/
def cAppend (T : Tab) (n0 : Nat) (h : Tr (List CV)) (nx : Nat) (t tx : Nat) (d x : CV) : Option (CV × Tr (List CV) × Nat) :=
  match T.ty.get t with
  | some ⟨.slice e, _, _, _⟩ => match T.ty.get e with
    | some ie => match cSrc T h tx ie.size x, Nat.ble 1 ie.size, Nat.ble (nx + 4) keyMax with
      | some (m, ns), true, true => match ones ns with
        | true => match d with
          | .nils => match Nat.beq m 0, Nat.ble (m * ie.bytes) 140737488355328, Nat.ble m 1099511627776 with
            | true, _, _ => some (.nils, h, nx)
            | false, true, true => forceNat (noOf nx (tagOf T e)) fun q => some (.sl q 0 m ie.size, hput h q ns, q + 1)
            | _, _, _ => none
          | .sl g o n k => match hget h g with
            | some cs => match Nat.ble n0 g, Nat.beq k ie.size, Nat.ble (o + n * k) cs.length, Nat.ble ((n + m) * ie.bytes) 140737488355328, Nat.ble (n + m) 1099511627776, Nat.ble (g + 1) keyMax with
              | true, true, true, true, true, true => match Nat.ble (o + (n + m) * k) cs.length with
                | true => some (.sl g o (n + m) k, hput h g (lput cs (o + n * k) ns), nx)
                | false => forceNat (noOf nx (tagMv T e g o)) fun q => some (.sl q 0 (n + m) k, hput (hdel h g) q (((cs.drop o).take (n * k)) ++ ns), q + 1)
              | _, _, _, _, _, _ => none
            | none => none
          | _ => none
        | false => none
      | _, _, _ => none
    | none => none
  | _ => none
theorem EStep.del {E : Emb} {h : Tr (List CV)} {nx : Nat} {w : World} (W : WR E h nx w) {g : Nat} (hon : E.on g) (hk : g < keyMax) : EStep E h nx w E (hdel h g) nx w := by
  have hh : ∀ x cs, (hdel h g).get x = some cs → h.get x = some cs := fun x cs e => by
    rw [get_hdel h x hk] at e
    split at e
    · cases e
    · exact e
  refine ⟨.refl E, ⟨fun x cs a b => W.bk0 x cs a (hh x cs b), fun x x' cs cs' a a' b b' q => W.apart x x' cs cs' a a' (hh _ _ b) (hh _ _ b') q, W.lt⟩, Nat.le_refl _, fun _ _ _ => rfl, fun x a => .inl ⟨x, a, id, rfl⟩, Nat.le_refl _, fun x _ a => ⟨a, ?_⟩, rfl, rfl, rfl⟩
  rw [get_hdel h x hk, if_neg (fun e : x = g => a (by rw [e]; exact hon))]
theorem grow_step {E : Emb} {h : Tr (List CV)} {nx : Nat} {w : World} (W : WR E h nx w) {q : Nat} (hq : nx ≤ q) (hk : q < keyMax) {k N G : Nat} {e : TypeId} (htag : q % 4 ≠ 0 → e = E.tag (q % 4)) {z : Array Value} (hz : z.size = k) (hk0 : 0 < k) {olds : List Value} {ocs : List CV} (ho : VRs E ocs olds) (h1 : ∀ u ∈ olds, u.oneCell' = true)
    (hN : olds.length = N * k) (hG : N ≤ G) :
    ∃ E', EStep E h nx w E' (hput h q ocs) (q + 1) (w.drew.alloc (.cells (olds.toArray ++ Builtin.zeroCells z (G - N)) e)) ∧ VR E' (.sl q 0 N k) (.slice (some ⟨w.heap.size, 0, none⟩) N G) := by
  have hon : ¬ E.on q := fun a => Nat.lt_irrefl _ (Nat.lt_of_lt_of_le (W.lt q a).1 hq)
  have hsz : (olds.toArray ++ Builtin.zeroCells z (G - N)).size = G * k := by
    rw [Array.size_append, size_zeroCells, List.size_toArray, hN, hz, ← Nat.add_mul]
    congr 1
    omega
  have hol := ho.len
  have W' := (EStep.drew W).wr
  have S := EStep.alloc W' hon hq (Nat.lt_succ_self q) hk (cs := ocs) (c := olds.toArray ++ Builtin.zeroCells z (G - N)) (T := e) (fz := (0, 0))
    (by rw [hsz, hol, hN]; exact Nat.mul_le_mul_right _ hG) (.inl rfl) htag (fun i v hv => by
      obtain ⟨u, a, b⟩ := ho.get hv
      refine ⟨u, ?_, b, h1 u (List.mem_of_getElem? a)⟩
      have hi : i < olds.length := (List.getElem?_eq_some_iff.1 a).1
      rw [Array.getElem?_append_left (by simpa using hi), List.getElem?_toArray]
      exact a)
  refine ⟨_, (EStep.drew W).trans S, ?_⟩
  rw [hsz]
  have := VR.sl (E := E.ext q w.drew.heap.size 0 (G * k)) q 0 N k (.inl rfl)
  have e1 : ((E.ext q w.drew.heap.size 0 (G * k)).cap q - 0) / k = G := by simp [Emb.ext, Nat.mul_div_cancel _ hk0]
  have e2 : (E.ext q w.drew.heap.size 0 (G * k)).adr q = w.drew.heap.size := by simp [Emb.ext]
  have e3 : (E.ext q w.drew.heap.size 0 (G * k)).off q = 0 := by simp [Emb.ext]
  rw [e1, e2, e3] at this
  exact this
/-- A slice grows where it lies: its block gets a new number. -/
theorem EStep.move {E : Emb} {h : Tr (List CV)} {nx : Nat} {w : World} (W : WR E h nx w) {g o : Nat} {cs : List CV} (hon : E.on g) (h0 : E.n0 ≤ g) (hkg : g < keyMax) (hg : hget h g = some cs) {q0 : Nat} (hq : nx ≤ q0) (hnx : q0 < keyMax) (htag : q0 % 4 ≠ 0 → g % 4 = q0 % 4 ∧ o = 0) {a : Nat} (hoa : o + a ≤ cs.length)
    {vs : List CV} {us : List Value} (hv : VRs E vs us) (h1 : ∀ u ∈ us, u.oneCell' = true) (hl : o + a + vs.length ≤ E.cap g) :
    EStep E h nx w (E.ext q0 (E.adr g) (E.off g + o) (E.cap g - o)) (hput (hdel h g) q0 (((cs.drop o).take a) ++ vs)) (q0 + 1) (w.setCells (E.adr g) (E.off g + (o + a)) us) := by
  have hn : ¬ E.on q0 := fun a => Nat.lt_irrefl _ (Nat.lt_of_lt_of_le (W.lt q0 a).1 hq)
  have hle := Emb.le_ext (b := E.adr g) (o := E.off g + o) (c := E.cap g - o) hn
  obtain ⟨c, T, fz, b1, b2, b3, b4, b5⟩ := W.bk g cs hon hg
  have hg := (hget_eq hg).1
  have hlen := hv.len
  obtain ⟨c', e1, e2, e3, e4, e5⟩ := setCells_heap (E.adr g) us (E.off g + (o + a)) w c T fz b1 (by omega)
  have hgl : g < nx := (W.lt g hon).1
  have hget : ∀ x ds, (hput (hdel h g) q0 (((cs.drop o).take a) ++ vs)).get x = some ds → (x = q0 ∧ ds = ((cs.drop o).take a) ++ vs) ∨ (x ≠ q0 ∧ x ≠ g ∧ h.get x = some ds) := fun x ds hx => by
    rw [get_hput _ _ x hnx] at hx
    by_cases q : x = q0
    · rw [if_pos q] at hx
      injection hx with hx
      exact .inl ⟨q, hx.symm⟩
    · rw [if_neg q, get_hdel h x hkg] at hx
      by_cases q2 : x = g
      · rw [if_pos q2] at hx; cases hx
      · rw [if_neg q2] at hx
        exact .inr ⟨q, q2, hx⟩
  have htl : ((cs.drop o).take a).length = a := by rw [List.length_take, List.length_drop]; omega
  refine ⟨hle, ⟨fun x ds hx hds => ?_, fun x x' ds ds' hx hx' hds hds' ha => ?_, fun x hx => ?_⟩, by rw [e5]; exact Nat.le_refl _, fun b hb hnb => e4 b (fun q => hnb g hon h0 q.symm), fun x hx => ?_, Nat.le_trans hq (Nat.le_succ _), fun x hx hxn => ?_, (setCells_st _ _ _ _).1, (setCells_st _ _ _ _).2.1, (setCells_st _ _ _ _).2.2⟩
  · rcases hget x ds hds with ⟨rfl, rfl⟩ | ⟨q1, q2, q3⟩
    · refine .inl ⟨c', T, fz, by simpa [Emb.ext] using e1, by rw [e2]; simp only [Emb.ext, if_pos]; omega, by simp only [Emb.ext, if_pos, List.length_append, htl]; omega, fun _ => ⟨by rw [e2]; exact (b4 h0).1, fun ht => ?_⟩, fun i v hi => ?_⟩
      · obtain ⟨t1, t2⟩ := htag ht
        obtain ⟨t3, t4⟩ := (b4 h0).2 (by rw [t1]; exact ht)
        refine ⟨by rw [t3, t1]; rfl, ?_⟩
        simp only [Emb.ext, if_pos]
        omega
      simp only [Emb.ext, if_pos]
      rw [e3]
      by_cases q : i < a
      · rw [List.getElem?_append_left (by omega), List.getElem?_take, if_pos q, List.getElem?_drop] at hi
        rw [if_neg (by omega), show E.off g + o + i = E.off g + (o + i) by omega]
        obtain ⟨u, k1, k2, k3⟩ := b5 (o + i) v hi
        exact ⟨u, k1, k2.le hle, k3⟩
      · rw [List.getElem?_append_right (by omega), htl] at hi
        have hiv : i - a < vs.length := (List.getElem?_eq_some_iff.1 hi).1
        obtain ⟨u, k1, k2⟩ := hv.get hi
        rw [if_pos (by omega), show E.off g + o + i - (E.off g + (o + a)) = i - a by omega]
        exact ⟨u, k1, k2.le hle, h1 u (List.mem_of_getElem? k1)⟩
    · have hx' : E.on x := hx.resolve_left q1
      refine OrR.le hle hx' (OrR.world (e4 _ fun q => q2 (W.apart x g ds cs hx' hon q3 hg q)) (W.bk0 x ds hx' q3))
  · rcases hget x ds hds with ⟨r1, _⟩ | ⟨q1, q2, q3⟩ <;> rcases hget x' ds' hds' with ⟨r1', _⟩ | ⟨q1', q2', q3'⟩
    · rw [r1, r1']
    · exfalso
      have hx2 : E.on x' := hx'.resolve_left q1'
      simp only [Emb.ext, if_pos r1, if_neg q1'] at ha
      exact q2' (W.apart x' g ds' cs hx2 hon q3' hg ha.symm)
    · exfalso
      have hx2 : E.on x := hx.resolve_left q1
      simp only [Emb.ext, if_pos r1', if_neg q1] at ha
      exact q2 (W.apart x g ds cs hx2 hon q3 hg ha)
    · simp only [Emb.ext, if_neg q1, if_neg q1'] at ha
      exact W.apart x x' ds ds' (hx.resolve_left q1) (hx'.resolve_left q1') q3 q3' ha
  · rw [e5]
    by_cases q : x = q0
    · simp only [Emb.ext, if_pos q]
      have := (W.lt g hon).2
      omega
    · simp only [Emb.ext, if_neg q]
      have := W.lt x (hx.resolve_left q)
      omega
  · left
    by_cases q : x = q0
    · exact ⟨g, hon, fun _ => h0, by simp only [Emb.ext, if_pos q]⟩
    · exact ⟨x, hx.resolve_left q, id, by simp only [Emb.ext, if_neg q]⟩
  · have q : x ≠ q0 := by omega
    have q2 : x ≠ g := fun e => hxn (by rw [e]; exact hon)
    exact ⟨fun a => a.elim q hxn, by rw [get_hput _ _ x hnx, if_neg q, get_hdel h x hkg, if_neg q2]⟩
theorem cAppend_ok {T : Tab} (hT : TabOk P T) {E : Emb} (G : GlE T E) {hp hp' : Tr (List CV)} {nx nx' : Nat} {w : World} (W : WR E hp nx w) {t tx : Nat} {d x r : CV} (h : cAppend T E.n0 hp nx t tx d x = some (r, hp', nx')) {u v : Value} (hd : VR E d u) (hx : VR E x v) (ty : TypeId) :
    ∃ q w' E', (Builtin.append_ #[t, tx] ty #[u, v]).run P w = .ok q w' ∧ EStep E hp nx w E' hp' nx' w' ∧ VR E' r q := by
  unfold cAppend at h
  split at h
  · rename_i e s1 b1 z1 ht
    obtain ⟨dd, nn, zz, h1, h2, h3, _⟩ := (hT.ty _ _ ht).ex
    obtain rfl := kind_slice h3.symm
    split at h
    · rename_i ie hie
      obtain ⟨d', n', z', a1, a2, a3, a4, a5, a6, a7, a8⟩ := (hT.ty _ _ hie).ex
      have hzs : z'.cells.size = ie.size := by rw [← (a7 E).size]; exact (hT.ty _ _ hie).zl
      split at h
      · rename_i m ns hs hk1 hnx
        have hk1 := Nat.le_of_ble_eq_true hk1
        have hnx := Nat.le_of_ble_eq_true hnx
        obtain ⟨us, S, hus⟩ := cSrc_ok hT W hs hx
        rw [← a4] at S
        split at h
        · rename_i hone
          have husl := S.newsLen
          rw [a4] at husl
          cases d with
          | nils =>
            cases hd with
            | nils =>
            simp only at h
            split at h
            · rename_i q1
              simp only [Option.some.injEq, Prod.mk.injEq] at h
              obtain ⟨rfl, rfl, rfl⟩ := h
              have q1 := Nat.eq_of_beq_eq_true q1
              subst q1
              have : us = [] := by simpa using husl
              subst this
              exact ⟨_, w, E, run_append_nothing w t tx ty e n' h1 a2 none 0 0 (Nat.le_refl _) v S, EStep.refl W, .nils⟩
            · rename_i q1 q2 q3
              rw [forceNat_eq] at h
              simp only [Option.some.injEq, Prod.mk.injEq] at h
              obtain ⟨rfl, rfl, rfl⟩ := h
              have q1 : m ≠ 0 := fun e => by rw [e] at q1; exact absurd q1 (by decide)
              have q2 := Nat.le_of_ble_eq_true q2
              have q3 := Nat.le_of_ble_eq_true q3
              have R := run_append_grow_src w t tx ty e n' z' h1 a2 a6 none 0 0 [] (run_firstCells_none _ _ _ _ _) v m us S (by omega) (by omega) (growslice_fits (by omega) (by rw [a5, Nat.zero_add]; exact q2))
              obtain ⟨E', S1, S2⟩ := grow_step W (noOf_ge nx (tagOf T e)) (by have := noOf_lt nx (tagOf T e); omega) (e := e) (fun h => by rw [noOf_mod _ _ tagOf_ok.1] at h ⊢; rw [G.2.1]; exact tagOf_ok.2 h) hzs hk1 hus S.one (N := m) (G := grownCap w (0 + m) 0 e) husl (by have := grownCap_ge w (0 + m) 0 e; omega)
              refine ⟨_, _, E', R, ?_, ?_⟩
              · simpa using S1
              · simpa using S2
            · cases h
          | sl g o n k =>
            cases hd with
            | sl _ _ _ _ hon =>
            simp only at h
            split at h
            · rename_i cs hg
              split at h
              · rename_i q1 q2 q3 q4 q5 q6
                have q1 := Nat.le_of_ble_eq_true q1
                have q2 := Nat.eq_of_beq_eq_true q2
                have q3 := Nat.le_of_ble_eq_true q3
                have q4 := Nat.le_of_ble_eq_true q4
                have q5 := Nat.le_of_ble_eq_true q5
                have q6 := Nat.le_of_ble_eq_true q6
                subst q2
                obtain ⟨c, TT, fz, b1, b2, b3, b4, b5⟩ := W.bk g cs hon hg
                have hroomIff : n + m ≤ (E.cap g - o) / ie.size ↔ (n + m) * ie.size ≤ E.cap g - o := Nat.le_div_iff_mul_le hk1
                have hoc : o ≤ E.cap g := by omega
                have hnsl : ns.length = m * ie.size := by rw [hus.len, husl]
                have hmul : (n + m) * ie.size = n * ie.size + m * ie.size := Nat.add_mul _ _ _
                have hthere : n + m ≤ (E.cap g - o) / ie.size → ∀ j, j < us.length → (w.cell? ⟨E.adr g, E.off g + o + n * n'.size + j, none⟩).isSome = true ∧ w.frozen? ⟨E.adr g, E.off g + o + n * n'.size + j, none⟩ = false := fun hr j hj => by
                  have hr := hroomIff.1 hr
                  rw [a4, show E.off g + o + n * ie.size + j = E.off g + (o + n * ie.size + j) by omega]
                  exact W.there hon hg q1 (by omega)
                have hroomRun : n + m ≤ (E.cap g - o) / ie.size → (Builtin.append_ #[t, tx] ty #[.slice (some ⟨E.adr g, E.off g + o, none⟩) n ((E.cap g - o) / ie.size), v]).run P w = .ok (.slice (some ⟨E.adr g, E.off g + o, none⟩) (n + m) ((E.cap g - o) / ie.size)) (w.setCells (E.adr g) (E.off g + (o + n * ie.size)) us) := fun hr => by
                  have := run_append_room_src w t tx ty e n' h1 a2 (E.adr g) (E.off g + o) n ((E.cap g - o) / ie.size) v m us S hr (fun j hj => (hthere hr j hj).1) (fun j hj => (hthere hr j hj).2)
                  rw [this, a4, Nat.add_assoc]
                split at h
                · rename_i q7
                  have q7 := Nat.le_of_ble_eq_true q7
                  simp only [Option.some.injEq, Prod.mk.injEq] at h
                  obtain ⟨rfl, rfl, rfl⟩ := h
                  exact ⟨_, _, E, hroomRun (hroomIff.2 (by omega)), EStep.store W hon q1 q6 hg (by omega) hus S.one, .sl g o (n + m) ie.size hon⟩
                · rename_i q7
                  rw [forceNat_eq] at h
                  simp only [Option.some.injEq, Prod.mk.injEq] at h
                  obtain ⟨rfl, rfl, rfl⟩ := h
                  have hq0 := noOf_ge nx (tagMv T e g o)
                  have hqk : noOf nx (tagMv T e g o) < keyMax := by have := noOf_lt nx (tagMv T e g o); omega
                  have hqm := noOf_mod nx (tagMv T e g o) tagMv_ok.1
                  by_cases hr : n + m ≤ (E.cap g - o) / ie.size
                  · have hr' := hroomIff.1 hr
                    refine ⟨_, _, _, hroomRun hr, EStep.move W hon q1 q6 hg hq0 hqk (fun h => by rw [hqm] at h ⊢; exact (tagMv_ok.2 h).2) q3 hus S.one (by omega), ?_⟩
                    generalize noOf nx (tagMv T e g o) = q0
                    have := VR.sl (E := E.ext q0 (E.adr g) (E.off g + o) (E.cap g - o)) q0 0 (n + m) ie.size (.inl rfl)
                    have f1 : (E.ext q0 (E.adr g) (E.off g + o) (E.cap g - o)).cap q0 = E.cap g - o := by simp [Emb.ext]
                    have f2 : (E.ext q0 (E.adr g) (E.off g + o) (E.cap g - o)).adr q0 = E.adr g := by simp [Emb.ext]
                    have f3 : (E.ext q0 (E.adr g) (E.off g + o) (E.cap g - o)).off q0 = E.off g + o := by simp [Emb.ext]
                    rw [f1, f2, f3] at this
                    exact this
                  · obtain ⟨os, u1, u2, u3, u4⟩ := W.row hon hg q3
                    have R := run_append_grow_src w t tx ty e n' z' h1 a2 a6 (some ⟨E.adr g, E.off g + o, none⟩) n ((E.cap g - o) / ie.size) os (run_firstCells_some _ _ _ _ _ _ os (by rw [u1, a4]) (fun j y hy => by rw [add_mid']; exact u4 j y hy)) v m us S (by omega) (by omega) (growslice_fits (by omega) (by rw [a5]; exact q4))
                    have D := EStep.del W hon q6
                    obtain ⟨E', S1, S2⟩ := grow_step D.wr hq0 hqk (e := e) (fun h => by rw [hqm] at h ⊢; rw [G.2.1]; exact (tagMv_ok.2 h).1) hzs hk1 (u2.app hus) (fun y hy => (List.mem_append.1 hy).elim (u3 y) (S.one y)) (N := n + m) (G := grownCap w (n + m) ((E.cap g - o) / ie.size) e) (by rw [List.length_append, u1, husl, hmul]) (grownCap_ge w (n + m) _ e)
                    exact ⟨_, _, E', R, D.trans S1, S2⟩
              · cases h
            · cases h
          | _ => cases h
        · cases h
      · cases h
    · cases h
  · cases h
end
end Go.Proofs.YthdbddolkfibkaaGreatDoor
