/- The walks of layer 6: lists of sub types are put. -/
import Derived.Test.YtokneepfknepaaaDoorPutWA
set_option linter.unusedSimpArgs false
set_option linter.unusedVariables false
namespace Go.Proofs.YtokneepfknepaaaDoor
open Go.RowKit

theorem SubR.ap {w w' : World} {v v' : Value} {t : SubT} {hv pv rv fv : Value} (h : SubR (Value.blk v) w t hv pv rv fv) (hA : Ap w v w' v') : SubR (Value.blk v') w' t hv pv rv fv :=
  ⟨h.1.ap hA, h.2.1.ap hA, h.2.2.1.ap hA, h.2.2.2.ap hA⟩
/-- The cells of a sub type. -/
def subC (t : SubT) (hv pv rv fv : Value) : List Value := [.bool t.final_, hv, .int .i64 t.comp.kind, pv, rv, fv]
theorem SubsR.get {S : List Nat} {w : World} : ∀ {ts : List SubT} {cs : List Value}, SubsR S w ts cs → ∀ (i : Nat) (t : SubT), ts[i]? = some t →
    ∃ hv pv rv fv, SubR S w t hv pv rv fv ∧ ∀ r, r < 6 → cs[i * 6 + r]? = (subC t hv pv rv fv)[r]?
  | [], _, _, i, t, ht => by simp at ht
  | a :: ts, _, ⟨hv, pv, rv, fv, rest, e, h1, h2⟩, 0, t, ht => by
    subst e
    simp only [List.getElem?_cons_zero, Option.some.injEq] at ht
    subst ht
    refine ⟨hv, pv, rv, fv, h1, fun r hr => ?_⟩
    match r, hr with
    | 0, _ | 1, _ | 2, _ | 3, _ | 4, _ | 5, _ => rfl
  | a :: ts, _, ⟨hv, pv, rv, fv, rest, e, h1, h2⟩, i + 1, t, ht => by
    subst e
    obtain ⟨hv', pv', rv', fv', h3, h4⟩ := SubsR.get h2 i t (by simpa using ht)
    refine ⟨hv', pv', rv', fv', h3, fun r hr => ?_⟩
    rw [← h4 r hr, show (i + 1) * 6 + r = (i * 6 + r) + 6 by omega]
    rfl
/-- An element of a slice of sub types. -/
theorem Sl.sub_elem {S : List Nat} {w : World} {v : Value} {ts : List SubT} {cs : List Value} (h : Sl S w 6 v ts.length cs) (hs : SubsR S w ts cs) (i : Nat) (t : SubT) (hi : ts[i]? = some t) :
    ∃ b off cap hv pv rv fv, v = .slice (some ⟨b, off, none⟩) ts.length cap ∧ b < w.heap.size ∧ b ∉ S ∧ SubR S w t hv pv rv fv ∧ ∀ r, r < 6 → w.cell? ⟨b, off + (i * 6 + r), none⟩ = (subC t hv pv rv fv)[r]? := by
  obtain ⟨h1, h2, a, cap, rfl, h4, h5, hN, h6⟩ := h
  have hlt : i < ts.length := (List.getElem?_eq_some_iff.1 hi).1
  obtain ⟨hv, pv, rv, fv, h7, h8⟩ := hs.get i t hi
  rcases h6 with h6 | ⟨b, off, rfl, hn, hb, hc⟩
  · omega
  · refine ⟨b, off, cap, hv, pv, rv, fv, rfl, hb, hn, h7, fun r hr => ?_⟩
    rw [hc _ (by omega)]
    exact h8 r hr
theorem pSub_len (t : SubT) (hok : t.ok) (hl : t.len ≤ 65536) : (pSub t).length ≤ 1048704 := by
  obtain ⟨o1, o2, o3, o4⟩ := hok
  unfold SubT.len at hl
  have a1 := pList_lenH t.supers o1 (by omega)
  have a2 := pList_lenV t.comp.params o2 (by omega)
  have a3 := pList_lenV t.comp.results o3 (by omega)
  have a4 : (pList pField t.comp.fields).length ≤ 10 + 16 * t.comp.fields.length := by
    have h1 := putU_len t.comp.fields.length (by omega)
    have h2 := flat_len pField 16 t.comp.fields (fun f hf => pField_len f (o4 f hf))
    unfold pList
    rw [List.length_append]
    omega
  have a5 : (t.comp.fields.head?.elim [] pField).length ≤ 16 := by
    cases hf : t.comp.fields with
    | nil => simp
    | cons a b => exact pField_len a (o4 a (by simp [hf]))
  have e1 : (if t.final_ = false then 80 :: pList pSuper t.supers else if 0 < t.supers.length then 79 :: pList pSuper t.supers else []).length ≤ 11 + 16 * t.supers.length := by
    split
    · simp; omega
    · split
      · simp; omega
      · simp
  have e2 : (if t.comp.kind = 1 then 96 :: (pList pVal t.comp.params ++ pList pVal t.comp.results) else if t.comp.kind = 2 then 95 :: pList pField t.comp.fields else 94 :: t.comp.fields.head?.elim [] pField).length ≤ 38 + 16 * (t.comp.params.length + t.comp.results.length + t.comp.fields.length) := by
    split
    · simp; omega
    · split
      · simp; omega
      · simp; omega
  unfold pSub
  rw [List.length_append]
  omega

set_option maxRecDepth 100000 in
set_option maxHeartbeats 1600000 in
theorem putList_sub {w : World} (v : Value) (hg : Gl (Value.blk v) w) (xs : List UInt8) (sv : Value) (ts : List SubT) (cs : List Value) (h : Sl (Value.blk v) w 6 sv ts.length cs) (hs : SubsR (Value.blk v) w ts cs)
    (hok : ∀ t, t ∈ ts → t.ok ∧ t.len ≤ 65536 ∧ (t.comp.kind ≠ 1 → t.comp.kind ≠ 2 → 0 < t.comp.fields.length))
    (ho : Out w v xs) (hx : xs.length ≤ 1048576) (hn : ts.length ≤ 65536) :
    Calls Tryd.prog 68 #[v, sv, .func (.func 67) #[] #[]] w fun e w' => ∃ v', e = .returned v' ∧ Out w' v' (xs ++ pList pSub ts) ∧ Ap w v w' v' := by
  have hh := h
  obtain ⟨_, _, a, cap, rfl, _⟩ := h
  have hN : ts.length < 18446744073709551616 := by omega
  have hlen := putU_len ts.length hN
  have hb1 : xs.length + (putU ts.length).length ≤ 140737488355328 := by omega
  have hpl : ∀ i, ((ts.take i).flatMap pSub).length ≤ 1048704 * ts.length := by
    intro i
    have h1 := flat_len pSub 1048704 (ts.take i) (fun t ht => pSub_len t (hok t (List.mem_of_mem_take ht)).1 (hok t (List.mem_of_mem_take ht)).2.1)
    have h2 : (ts.take i).length ≤ ts.length := by rw [List.length_take]; omega
    have := Nat.mul_le_mul_left 1048704 h2
    omega
  go_enter Tryd.func68, Tryd.ntmps68
  go_wp2_with first | (go_at_call 113; refine (PutU_any ts.length _ hN).mono ?_; rintro e w2 ⟨v2, rfl, ho2, hN2, hF2⟩; have hs2 := ho2.sl (S' := []) (by simp); have hoo2 := Own.fr ho hF2 (by simp)) | (at_builtin; refine app_u8 rfl (.tmp 9) (.tmp 13) _ rfl _ _ _ rfl hoo2 _ _ _ rfl (hs2.src und_bytes) hb1 ?_; intro v3 w3 hown3 hf3 hb3)
  have ho3 : Out w3 v3 (xs ++ putU ts.length) := Out.app hown3
  have hA3 : Ap w v w3 v3 := (Ap.fr0 hF2).trans (Ap.of hf3 hb3)
  go_loopw [0, 17] (fun u n wr => ∃ (i : Nat), n = .int .i64 i ∧ i ≤ ts.length ∧ Out wr u (xs ++ (putU ts.length ++ (ts.take i).flatMap pSub)) ∧ Ap w v wr u) (fun _ n _ => ts.length - (intOf n).toNat)
  case atStart => exact ⟨0, rfl, by omega, by simpa using ho3, hA3⟩
  case round =>
    obtain ⟨i, rfl, hi, hoi, hAi⟩ := hrel
    have hF := hAi.1
    by_cases hlt : i < ts.length
    · obtain ⟨t, ht⟩ : ∃ t, ts[i]? = some t := ⟨ts[i], by simp [hlt]⟩
      obtain ⟨b, off, cap2, hv, pv, rv, fv, hve, hb, hnS, hsr, hc⟩ := Sl.sub_elem hh hs i t ht
      injection hve with hv1 hv2 hv3
      subst hv1 hv3
      have hbw : b < wr.heap.size := Nat.lt_of_lt_of_le hb hF.size
      have htm : t ∈ ts := List.mem_of_getElem? ht
      obtain ⟨hok1, hok2, hok3⟩ := hok t htm
      have hpi := hpl i
      have hx2 : (xs ++ (putU ts.length ++ (ts.take i).flatMap pSub)).length + 16 * t.len + 512 ≤ 70368744177664 := by rw [List.length_append, List.length_append]; omega
      have e0 := (hF.cell hb hnS _).trans (hc 0 (by decide))
      have e1 := (hF.cell hb hnS _).trans (hc 1 (by decide))
      have e2 := (hF.cell hb hnS _).trans (hc 2 (by decide))
      have e3 := (hF.cell hb hnS _).trans (hc 3 (by decide))
      have e4 := (hF.cell hb hnS _).trans (hc 4 (by decide))
      have e5 := (hF.cell hb hnS _).trans (hc 5 (by decide))
      simp only [Nat.add_zero, ← Nat.add_assoc, subC, List.getElem?_cons_zero, List.getElem?_cons_succ] at e0 e1 e2 e3 e4 e5
      obtain ⟨ha, hc, rfl⟩ := hsr.1.shape
      obtain ⟨pa, pc, rfl⟩ := hsr.2.1.shape
      obtain ⟨ra, rc, rfl⟩ := hsr.2.2.1.shape
      obtain ⟨fa, fc, rfl⟩ := hsr.2.2.2.shape
      have hoa := fun o => Out.alloc hoi o
      have hAa := fun o => hAi.alloc o
      go_wp2_with (go_at_call 67; refine (putSub_any _ (hg.ap (hAa _)) _ t _ _ _ _ (hsr.ap (hAa _)) (hoa _) hok1 hx2 hok3).mono ?_; rintro e w4 ⟨v4, rfl, ho4, hA4⟩)
      go_roundw
      case rel => exact ⟨i + 1, by go_num, by omega, by rw [take_one ts i t ht, List.flatMap_append]; simpa using ho4, (hAa _).trans hA4⟩
      case measure => simp [intOf]; omega
    · have hk : i = ts.length := by omega
      subst hk
      go_wp2
      go_ret
      exact ⟨_, rfl, by simpa [pList] using hoi, hAi⟩
end Go.Proofs.YtokneepfknepaaaDoor
