
/- A reckoner for whole calls on known inputs: entries of a map taken out; bytes frozen; pointers seen as unsafe ones and back. -/
import Derived.Test.YthdbddolkfibkaaGreatDoorEvN
import Derived.Lib.UnsafeStr
set_option linter.unusedSimpArgs false
set_option linter.unusedVariables false
namespace Go.Proofs.YthdbddolkfibkaaGreatDoor
open Go.RowKit
open Go.MapKept (run_setObj_map run_checkKey run_findKey)
section
variable {P : Program}
theorem cDelete_ok {T : Tab} (hT : TabOk P T) {E : Emb} {h h' : Tr (List CV)} {nx : Nat} {w : World} (W : WR E h nx w) {t : Nat} {m k : CV} (hr : cDelete T E.n0 h t m k = some h') {u x : Value} (hu : VR E m u) (hx : VR E k x) (ty : TypeId) (tk : TypeId) :
    ∃ w', (Builtin.delete_ #[t, tk] ty #[u, x]).run P w = .ok (.tuple #[]) w' ∧ EStep E h nx w E h' nx w' := by
  unfold cDelete at hr
  split at hr
  · rename_i kt et s1 b1 z1 g ht
    obtain ⟨dd, nn, zz, h1, h2, h3, _⟩ := (hT.ty _ _ ht).ex
    obtain rfl := kind_map h3.symm
    split at hr
    · rename_i ik clock ds hik hg h0 hkm
      have h0 := Nat.le_of_ble_eq_true h0
      have hkm := Nat.lt_of_succ_le (Nat.le_of_ble_eq_true hkm)
      obtain ⟨d, n', z', a1, a2, a3, _⟩ := (hT.ty _ _ hik).ex
      cases hu with
      | map _ hon =>
      obtain ⟨es, c1, c2⟩ := W.mp hon hg
      have hgo := Go.MapKept.run_getObj_map (P := P) c1
      rw [a3] at hr
      split at hr
      · rename_i j y' hk hf
        have hk := cKey_ok hk hx
        rcases cFind_ok hx c2 hf with ⟨q, _⟩ | ⟨j', q, v', b, e, q1, q2, q3, q4, q5⟩
        · cases q
        · injection q1 with q1
          injection q1 with q0 q1
          have q0 : j = j' := by omega
          subst q0
          injection hr with hr
          subst hr
          rw [Nat.zero_add] at q2
          refine ⟨_, ?_, EStep.setMap W hon h0 hkm (es' := es.eraseIdxIfInBounds j) (clock' := clock) hg ?_⟩
          · unfold Builtin.delete_
            simp only [List.getElem?_toArray, List.getElem?_cons_zero, List.getElem?_cons_succ, Sem.run_bind, run_underlying h1 w, Result.andThen_ok, Sem.run_pure, hgo, run_checkKey a1 hk, run_findKey a1 q2, run_setObj_map _ c1]
          · have hj : j < es.size := by
              have := (List.getElem?_eq_some_iff.1 q3).1
              simpa using this
            rw [Array.eraseIdxIfInBounds, dif_pos hj, Array.toList_eraseIdx]
            exact c2.erase j
      · rename_i hk hf
        have hk := cKey_ok hk hx
        rcases cFind_ok hx c2 hf with ⟨_, q⟩ | ⟨j', q, v', b, e, q1, _⟩
        · injection hr with hr
          subst hr
          refine ⟨_, ?_, EStep.setMap W hon h0 hkm (es' := es) (clock' := clock) hg c2⟩
          unfold Builtin.delete_
          simp only [List.getElem?_toArray, List.getElem?_cons_zero, List.getElem?_cons_succ, Sem.run_bind, run_underlying h1 w, Result.andThen_ok, Sem.run_pure, hgo, run_checkKey a1 hk, run_findKey a1 q, run_setObj_map _ c1]
        · cases q1
      · cases hr
    · cases hr
  · cases hr
theorem freeze_heap {w : World} {b o n : Nat} {c : Array Value} {T : TypeId} {fz : Nat × Nat} (h : w.heap[b]? = some (.cells c T fz)) (hn : n ≠ 0) :
    (w.freeze ⟨b, o, none⟩ n).heap[b]? = some (.cells c T (if fz.1 == fz.2 then (o, o + n) else (min fz.1 o, max fz.2 (o + n)))) ∧ (∀ b', b' ≠ b → (w.freeze ⟨b, o, none⟩ n).heap[b']? = w.heap[b']?) ∧ (w.freeze ⟨b, o, none⟩ n).heap.size = w.heap.size := by
  obtain ⟨lo, hi⟩ := fz
  unfold World.freeze
  rw [if_neg hn]
  refine ⟨?_, fun b' hb => ?_, by simp⟩
  · simp [Array.getElem?_modify, h]
  · simp only [Array.getElem?_modify]
    rw [if_neg (fun e => hb e.symm)]
theorem freeze_st (w : World) (a : Addr) (n : Nat) : (w.freeze a n).os = w.os ∧ (w.freeze a n).tape = w.tape ∧ (w.freeze a n).output = w.output := by
  unfold World.freeze
  split <;> exact ⟨rfl, rfl, rfl⟩
/-- A place behind a block is frozen. -/
theorem EStep.mark {E : Emb} {h : Tr (List CV)} {nx : Nat} {w : World} (W : WR E h nx w) {g : Nat} {cs : List CV} (hon : E.on g) (h0 : E.n0 ≤ g) (hg : hget h g = some cs) :
    ∃ c T fz, w.heap[E.adr g]? = some (.cells c T fz) ∧ EStep E h nx w E h nx (w.freeze ⟨E.adr g, c.size, none⟩ 1) := by
  obtain ⟨c, T, fz, b1, b2, b3, b4, b5⟩ := W.bk g cs hon hg
  have hg := (hget_eq hg).1
  obtain ⟨e1, e2, e3⟩ := freeze_heap (o := c.size) (n := 1) b1 (by omega)
  obtain ⟨f1, f2, f3⟩ := freeze_st w ⟨E.adr g, c.size, none⟩ 1
  refine ⟨c, T, fz, b1, .refl E, ⟨fun x xs hx hxs => ?_, W.apart, fun x hx => by rw [e3]; exact W.lt x hx⟩, by rw [e3]; exact Nat.le_refl _, fun b hb hn => e2 b (fun q => hn g hon h0 q.symm), fun x a => .inl ⟨x, a, id, rfl⟩, Nat.le_refl _, fun _ _ a => ⟨a, rfl⟩, f1, f2, f3⟩
  by_cases e : x = g
  · subst e
    rw [hg] at hxs
    injection hxs with hxs
    subst hxs
    refine .inl ⟨c, T, _, e1, b2, b3, fun q => ⟨?_, (b4 q).2⟩, b5⟩
    right
    have := (b4 q).1
    split
    · exact Nat.le_refl _
    · rename_i hne
      have : c.size ≤ fz.1 := this.resolve_left (fun q => hne (by rw [q]; simp))
      show c.size ≤ min fz.1 c.size
      omega
  · exact OrR.world (e2 _ fun a => e (W.apart x g xs cs hx hon hxs hg a)) (W.bk0 x xs hx hxs)
/-- A block's cells are frozen, and it is given up. -/
theorem EStep.give {E : Emb} {h : Tr (List CV)} {nx : Nat} {w : World} (W : WR E h nx w) {g : Nat} {cs : List CV} (hon : E.on g) (h0 : E.n0 ≤ g) (hk : g < keyMax) (hg : hget h g = some cs) (o n : Nat) : EStep E h nx w E (hdel h g) nx (w.freeze ⟨E.adr g, o, none⟩ n) := by
  rcases Nat.eq_zero_or_pos n with q | hn
  · subst q
    exact EStep.del W hon hk
  · obtain ⟨c, T, fz, b1, b2, b3, b4, b5⟩ := W.bk g cs hon hg
    have hg := (hget_eq hg).1
    obtain ⟨e1, e2, e3⟩ := freeze_heap (o := o) (n := n) b1 (by omega)
    obtain ⟨f1, f2, f3⟩ := freeze_st w ⟨E.adr g, o, none⟩ n
    have hh : ∀ x ds, (hdel h g).get x = some ds → x ≠ g ∧ h.get x = some ds := fun x ds e => by
      rw [get_hdel h x hk] at e
      split at e
      · cases e
      · rename_i hne
        exact ⟨hne, e⟩
    refine ⟨.refl E, ⟨fun x xs hx hxs => ?_, fun x x' cs cs' a a' b b' q => W.apart x x' cs cs' a a' (hh _ _ b).2 (hh _ _ b').2 q, fun x hx => by rw [e3]; exact W.lt x hx⟩, by rw [e3]; exact Nat.le_refl _, fun b hb hn => e2 b (fun q => hn g hon h0 q.symm), fun x a => .inl ⟨x, a, id, rfl⟩, Nat.le_refl _, fun x _ a => ⟨a, ?_⟩, f1, f2, f3⟩
    · obtain ⟨q1, q2⟩ := hh _ _ hxs
      exact OrR.world (e2 _ fun a => q1 (W.apart x g xs cs hx hon q2 hg a)) (W.bk0 x xs hx q2)
    · rw [get_hdel h x hk, if_neg (fun e : x = g => a (by rw [e]; exact hon))]
/-- A slice of bytes, seen as what it is. -/
def cSelf (T : Tab) (n0 : Nat) (h : Tr (List CV)) (t : Nat) (c : CV) : Option CV :=
  match c, T.ty.get t with
  | .sl g o n k, some ⟨.slice e, _, _, _⟩ => match T.ty.get e, hget h g, Nat.ble n0 g with
    | some ⟨.int .u8, _, _, _⟩, some _, true => some (.sl g o n k)
    | _, _, _ => none
  | _, _ => none
theorem cSelf_ok {T : Tab} (hT : TabOk P T) {E : Emb} {h : Tr (List CV)} {nx : Nat} {w : World} (W : WR E h nx w) {t : Nat} {c r : CV} (hr : cSelf T E.n0 h t c = some r) {u : Value} (hu : VR E c u) :
    ∃ w', (convert t t u).run P w = .ok u w' ∧ EStep E h nx w E h nx w' ∧ VR E r u := by
  unfold cSelf at hr
  split at hr
  · rename_i g o n k e s1 b1 z1 ht
    split at hr
    · rename_i s2 b2 z2 cs he hg h0
      injection hr with hr
      subst hr
      obtain ⟨d1, n1, y1, a1, a2, a3, _⟩ := (hT.ty _ _ ht).ex
      obtain ⟨d2, n2, y2, c1, c2, c3, _⟩ := (hT.ty _ _ he).ex
      obtain rfl := kind_slice a3.symm
      obtain rfl := kind_int c3.symm
      have hv := hu
      cases hu with
      | sl _ _ _ _ hon =>
      obtain ⟨c, T0, fz, m1, m2⟩ := EStep.mark W hon (Nat.le_of_ble_eq_true h0) hg
      refine ⟨_, ?_, m2, hv⟩
      unfold convert
      simp only [Sem.run_bind, run_underlying a1 w, Result.andThen_ok, run_underlying c1 w, beq_self_eq_true]
      have hsh : w.shape? (E.adr g) = some (T0, c.size) := by simp [World.shape?, m1]
      simp only [markStringish, Sem.run_bind, run_shape, hsh, Result.andThen_ok, run_freeze, Sem.run_pure]
    · cases hr
  · cases hr
/-- A pointer seen as an unsafe one, and back. -/
def cConvP (T : Tab) (n0 : Nat) (h : Tr (List CV)) (src dst : Nat) (c : CV) : Option CV :=
  match isSym c with
  | true => T.sc src dst c
  | false => match c, T.ty.get src, T.ty.get dst with
  | .ptr g o, some ⟨.ptr e, _, _, _⟩, some ⟨.uptr, _, _, _⟩ => match T.ty.get e, hget h g with
    | some ie, some cs => match Nat.ble 1 ie.size, Nat.ble (o + 1) cs.length with
      | true, true => some (.ptr g o)
      | _, _ => none
    | _, _ => none
  | .ptr g o, some ⟨.uptr, _, _, _⟩, some ⟨.ptr u, _, _, _⟩ => match T.ty.get u, hget h g, Nat.ble n0 g, Nat.beq (g % 4) 1, Nat.beq (T.tag 1) u, Nat.beq o 0 with
    | some iu, some cs, true, true, true, true => match Nat.ble 1 iu.size, Nat.ble iu.size cs.length with
      | true, true => some (.ptr g o)
      | _, _ => none
    | _, _, _, _, _, _ => none
  | _, _, _ => none
theorem liesAt_self {e : TypeId} (hc : P.cellsOf e ≠ 0) (count : Nat) (hn : 1 ≤ count) : liesAt P P.depth e count 0 e 1 = true := by
  have hd : P.depth = (2 * (P.types.size + Made.depth) + 1) + 1 := rfl
  rw [hd]
  simp only [liesAt, Bool.or_eq_true]
  left
  rw [hd]
  simp [rowAt, hc, hn, sameLayout]
theorem cConvP_ok {T : Tab} (hT : TabOk P T) {E : Emb} (G : GlE T E) {h : Tr (List CV)} {nx : Nat} {w : World} (W : WR E h nx w) {src dst : Nat} {c r : CV} (hr : cConvP T E.n0 h src dst c = some r) {u : Value} (hu : VR E c u) : ∃ z, (convert src dst u).run P w = .ok z w ∧ VR E r z := by
  unfold cConvP at hr
  split at hr
  · obtain ⟨u', z, a1, a2, a3⟩ := hT.sym.sc _ _ _ _ hr
    rw [← G.2.2] at a1 a2
    rw [sv_eq hu a1]
    exact ⟨z, a3 w, sv_vr a2⟩
  rename_i hsym
  clear hsym
  split at hr
  · rename_i g o e s1 b1 z1 s2 b2 z2 hs hd
    split at hr
    · rename_i ie cs he hg
      split at hr
      · rename_i q1 q2
        injection hr with hr
        subst hr
        have q1 := Nat.le_of_ble_eq_true q1
        have q2 := Nat.le_of_ble_eq_true q2
        obtain ⟨d1, n1, y1, a1, a2, a3, _⟩ := (hT.ty _ _ hs).ex
        obtain ⟨d2, n2, y2, c1, c2, c3, _⟩ := (hT.ty _ _ hd).ex
        obtain rfl := kind_ptr a3.symm
        obtain rfl := kind_uptr c3.symm
        have hv := hu
        cases hu with
        | ptr _ _ hon =>
        obtain ⟨c, T0, fz, m1, m2, m3, m4, m5⟩ := W.bk g cs hon hg
        have hsh : w.shape? (E.adr g) = some (T0, c.size) := by simp [World.shape?, m1]
        refine ⟨_, ?_, hv⟩
        unfold convert
        simp only [Sem.run_bind, run_underlying a1 w, run_underlying c1 w, Result.andThen_ok]
        unfold Conv.unsafePointer
        have hoff : ¬ (c.size ≤ E.off g + o) := by omega
        simp [Sem.run_bind, run_underlying a1 w, run_underlying c1 w, Conv.seenAt, viewAt, cellsIn, hsh, (hT.ty _ _ he).size w, hoff, show ie.size ≠ 0 by omega]
      · cases hr
    · cases hr
  · rename_i g o s1 b1 z1 u' s2 b2 z2 hs hd
    split at hr
    · rename_i iu cs he hg h0 hm ht ho
      split at hr
      · rename_i q1 q2
        injection hr with hr
        subst hr
        have q1 := Nat.le_of_ble_eq_true q1
        have q2 := Nat.le_of_ble_eq_true q2
        have h0 := Nat.le_of_ble_eq_true h0
        have hm := Nat.eq_of_beq_eq_true hm
        have ht := Nat.eq_of_beq_eq_true ht
        have ho := Nat.eq_of_beq_eq_true ho
        subst ho
        obtain ⟨d1, n1, y1, a1, a2, a3, _⟩ := (hT.ty _ _ hs).ex
        obtain ⟨d2, n2, y2, c1, c2, c3, _⟩ := (hT.ty _ _ hd).ex
        obtain ⟨d3, n3, y3, f1, f2, f3, f4, _⟩ := (hT.ty _ _ he).ex
        obtain rfl := kind_uptr a3.symm
        obtain rfl := kind_ptr c3.symm
        have hv := hu
        cases hu with
        | ptr _ _ hon =>
        obtain ⟨c, T0, fz, m1, m2, m3, m4, m5⟩ := W.bk g cs hon hg
        obtain ⟨t1, t2⟩ := (m4 h0).2 (by omega)
        rw [hm, G.2.1, ht] at t1
        subst t1
        have hsh : w.shape? (E.adr g) = some (T0, c.size) := by simp [World.shape?, m1]
        have hcell : P.cellsOf T0 = iu.size := by simp [Program.cellsOf, f2, f4]
        have hlies := liesAt_self (P := P) (e := T0) (by omega) (c.size / P.cellsOf T0) (by
          rw [hcell]
          exact (Nat.le_div_iff_mul_le (by omega)).2 (by omega))
        refine ⟨_, ?_, hv⟩
        unfold convert
        simp only [Sem.run_bind, run_underlying a1 w, run_underlying c1 w, Result.andThen_ok]
        unfold Conv.unsafePointer
        simp [Sem.run_bind, run_underlying a1 w, run_underlying c1 w, Conv.seenAt, viewAt, variablesAt, hsh, (hT.ty _ _ he).size w, t2, hlies]
      · cases hr
    · cases hr
  · cases hr
/-- A string over bytes that lie in a block: the block is given up. -/
def cStr (T : Tab) (n0 : Nat) (h : Tr (List CV)) (pt g o n : Nat) : Option (CV × Tr (List CV)) :=
  match n with
  | 0 => some (.str [], h)
  | m + 1 => match T.ty.get pt, hget h g with
    | some ⟨.ptr e, _, _, _⟩, some cs => match T.ty.get e, Nat.ble n0 g, Nat.beq (g % 4) 2, Nat.beq (T.tag 2) e, Nat.beq o 0, Nat.ble (m + 1) cs.length, bytesOf (cs.take (m + 1)), Nat.ble (g + 1) keyMax with
      | some ie, true, true, true, true, true, some bs, true => match Nat.ble (m + 1) 9223372036854775807, Nat.beq ie.size 1 with
        | true, true => some (.str bs, hdel h g)
        | _, _ => none
      | _, _, _, _, _, _, _, _ => none
    | _, _ => none
theorem cStr_ok {T : Tab} (hT : TabOk P T) {E : Emb} (G : GlE T E) {h h' : Tr (List CV)} {nx : Nat} {w : World} (W : WR E h nx w) {pt it g o n : Nat} {r : CV} (hr : cStr T E.n0 h pt g o n = some (r, h')) {u : Value} (hu : VR E (.ptr g o) u) (ty : TypeId) :
    ∃ z w', (Builtin.unsafeString_ #[pt, it] ty #[u, .int .i64 (n : Int)]).run P w = .ok z w' ∧ EStep E h nx w E h' nx w' ∧ VR E r z := by
  unfold cStr at hr
  split at hr
  · simp only [Option.some.injEq, Prod.mk.injEq] at hr
    obtain ⟨rfl, rfl⟩ := hr
    cases hu with
    | ptr _ _ hon =>
    exact ⟨_, w, Go.Lib.run_unsafeString_none w pt it ty _, EStep.refl W, .str []⟩
  · rename_i m
    split at hr
    · rename_i e s1 b1 z1 cs hpt hg
      split at hr
      · rename_i ie bs he h0 hm ht ho hl hb hk
        split at hr
        · rename_i q1 q2
          simp only [Option.some.injEq, Prod.mk.injEq] at hr
          obtain ⟨rfl, rfl⟩ := hr
          have q1 := Nat.le_of_ble_eq_true q1
          have q2 := Nat.eq_of_beq_eq_true q2
          have h0 := Nat.le_of_ble_eq_true h0
          have hm := Nat.eq_of_beq_eq_true hm
          have ht := Nat.eq_of_beq_eq_true ht
          have ho := Nat.eq_of_beq_eq_true ho
          have hl := Nat.le_of_ble_eq_true hl
          have hk := Nat.lt_of_succ_le (Nat.le_of_ble_eq_true hk)
          subst ho
          obtain ⟨d1, n1, y1, a1, a2, a3, _⟩ := (hT.ty _ _ hpt).ex
          obtain ⟨d3, n3, y3, f1, f2, f3, f4, _⟩ := (hT.ty _ _ he).ex
          obtain rfl := kind_ptr a3.symm
          cases hu with
          | ptr _ _ hon =>
          obtain ⟨c, T0, fz, m1, m2, m3, m4, m5⟩ := W.bk g cs hon hg
          obtain ⟨t1, t2⟩ := (m4 h0).2 (by omega)
          rw [hm, G.2.1, ht] at t1
          subst t1
          have hsh : w.shape? (E.adr g) = some (T0, c.size) := by simp [World.shape?, m1]
          have hcell : P.cellsOf T0 = 1 := by simp [Program.cellsOf, f2, f4, q2]
          obtain ⟨us, u1, u2, u3, u4⟩ := W.row (o := 0) hon hg (n := m + 1) (by omega)
          simp only [List.drop_zero] at u2
          have hus := bytesOf_ok hb u2
          have hbl : bs.length = m + 1 := by rw [← u1, hus]; simp
          have hrun := Go.Lib.run_unsafeString_row w pt it ty T0 a1 hcell (E.adr g) c.size hsh bs (by intro q; rw [q] at hbl; simp at hbl) (by omega) (by omega) (fun j x hx => by
            rw [add_mid']
            have hj := u4 j (.int .u8 x.toNat) (by rw [hus, List.getElem?_map, hx]; rfl)
            simpa [t2] using hj)
          refine ⟨_, _, ?_, EStep.give W hon h0 hk hg 0 (m + 1), .str bs⟩
          rw [t2]
          rw [hbl] at hrun
          exact hrun
        · cases hr
      · cases hr
    · cases hr
end
end Go.Proofs.YthdbddolkfibkaaGreatDoor
