/- Plain: what is read, and put, has no more bytes than it had, and is read as the same. -/
import Derived.Test.YtokneepfknepaaaDoorCutP
namespace Go.Proofs.YtokneepfknepaaaDoor

theorem flat_len_ge {α : Type} (p : α → List UInt8) : ∀ (ts : List α), (∀ t, t ∈ ts → 1 ≤ (p t).length) → ts.length ≤ (ts.flatMap p).length
  | [], _ => by simp
  | t :: ts, h => by
    have h1 := h t (by simp)
    have h2 := flat_len_ge p ts (fun u hu => h u (by simp [hu]))
    rw [List.flatMap_cons, List.length_append, List.length_cons]
    omega
theorem pList_len_ge {α : Type} (p : α → List UInt8) (ts : List α) (h : ∀ t, t ∈ ts → 1 ≤ (p t).length) : ts.length ≤ (pList p ts).length := by
  have := flat_len_ge p ts h
  unfold pList
  rw [List.length_append]
  omega
theorem sub_len_le (t : SubT) (hp : plainSub t = true) : t.supers.length ≤ (pSub t).length ∧ t.comp.params.length ≤ (pSub t).length ∧ t.comp.results.length ≤ (pSub t).length ∧ t.comp.fields.length ≤ (pSub t).length := by
  unfold plainSub at hp
  simp only [Bool.and_eq_true, List.all_eq_true] at hp
  obtain ⟨⟨_, ⟨h2, h3⟩, h4⟩, h5⟩ := hp
  have a1 := pList_len_ge pSuper t.supers (fun x _ => putU_pos _)
  have a2 := pList_len_ge pVal t.comp.params (fun x hx => pVal_pos x (h2 x hx))
  have a3 := pList_len_ge pVal t.comp.results (fun x hx => pVal_pos x (h3 x hx))
  have a4 := pList_len_ge pField t.comp.fields (fun x _ => pField_pos x)
  have e1 : t.supers.length ≤ (if t.final_ = false then 80 :: pList pSuper t.supers else if 0 < t.supers.length then 79 :: pList pSuper t.supers else []).length := by
    split
    · simp; omega
    · split
      · simp; omega
      · omega
  have e2 : t.comp.params.length ≤ (if t.comp.kind = 1 then 96 :: (pList pVal t.comp.params ++ pList pVal t.comp.results) else if t.comp.kind = 2 then 95 :: pList pField t.comp.fields else 94 :: t.comp.fields.head?.elim [] pField).length ∧
      t.comp.results.length ≤ (if t.comp.kind = 1 then 96 :: (pList pVal t.comp.params ++ pList pVal t.comp.results) else if t.comp.kind = 2 then 95 :: pList pField t.comp.fields else 94 :: t.comp.fields.head?.elim [] pField).length ∧
      t.comp.fields.length ≤ (if t.comp.kind = 1 then 96 :: (pList pVal t.comp.params ++ pList pVal t.comp.results) else if t.comp.kind = 2 then 95 :: pList pField t.comp.fields else 94 :: t.comp.fields.head?.elim [] pField).length := by
    split at h5
    · rename_i k1
      rw [if_pos k1]
      simp at h5
      simp [h5]
      omega
    · rename_i k1
      rw [if_neg k1]
      split at h5
      · rename_i k2
        rw [if_pos k2]
        simp at h5
        simp [h5]
        omega
      · rename_i k2
        rw [if_neg k2]
        split at h5
        · simp at h5
          simp [h5]
        · cases h5
  unfold pSub
  rw [List.length_append]
  omega
theorem pRecB_mem {ts : List SubT} {t : SubT} (h : t ∈ ts) : (pSub t).length ≤ (pRecB ts).length := by
  match ts, h with
  | [s], h =>
    simp at h
    subst h
    exact Nat.le_refl _
  | a :: b :: l, h =>
    rw [pRecB_big]
    have : ∀ (l : List SubT), t ∈ l → (pSub t).length ≤ (l.flatMap pSub).length := by
      intro l
      induction l with
      | nil => intro h; cases h
      | cons x l ih =>
        intro h
        rw [List.flatMap_cons, List.length_append]
        rcases List.mem_cons.1 h with rfl | h
        · omega
        · have := ih h; omega
    have := this _ h
    unfold pList
    simp only [List.length_cons, List.length_append]
    omega
theorem pRecB_len {ts : List SubT} (hp : ts.all plainSub = true) : ts.length ≤ (pRecB ts).length := by
  match ts with
  | [] => simp
  | [s] =>
    obtain ⟨b, r, e, _⟩ := pSub_head s
    show 1 ≤ (pSub s).length
    rw [e]; simp
  | a :: b :: l =>
    rw [pRecB_big]
    have := pList_len_ge pSub (a :: b :: l) (fun t _ => by obtain ⟨x, r, e, _⟩ := pSub_head t; rw [e]; simp)
    simp only [List.length_cons] at this ⊢
    omega
/-- What is read without an error. -/
theorem rRec_back_law (bs : List UInt8) (hb : bs.length ≤ 600) (h0 : (rRec bs rOpen).2.err = 0) :
    (∀ t, t ∈ (rRec bs rOpen).1 → t.supers.length ≤ 600 ∧ t.comp.params.length ≤ 600 ∧ t.comp.results.length ≤ 600 ∧ t.comp.fields.length ≤ 600) ∧ (rRec bs rOpen).1.length ≤ 600 ∧
    ((rRec bs rOpen).1 = [] → pRec (rRec bs rOpen).1 = []) ∧
    ((rRec bs rOpen).1 ≠ [] → 0 < (pRec (rRec bs rOpen).1).length ∧ (pRec (rRec bs rOpen).1).length ≤ (rRec bs rOpen).2.at_ ∧ rRec (pRec (rRec bs rOpen).1) rOpen = ((rRec bs rOpen).1, ⟨(pRec (rRec bs rOpen).1).length, 0, 0⟩)) := by
  obtain ⟨k, h1, h2, hp, h3, h4⟩ := rRec_back bs rOpen rfl (by simp [rOpen]) h0
  have hk : k ≤ 600 := by simp [rOpen] at h2; omega
  generalize rRec bs rOpen = q at h0 h1 hp h3 ⊢
  obtain ⟨x, s⟩ := q
  simp only at h0 h1 hp h3 ⊢
  have hmem : ∀ t, t ∈ x → t.supers.length ≤ 600 ∧ t.comp.params.length ≤ 600 ∧ t.comp.results.length ≤ 600 ∧ t.comp.fields.length ≤ 600 := fun t ht => by
    have a := sub_len_le t (List.all_eq_true.1 hp t ht)
    have b := pRecB_mem ht
    omega
  have hlen := pRecB_len hp
  have hpr : pRec x = pRecB x := by rw [pRec_eq, if_pos hp]
  refine ⟨hmem, by omega, fun h => by rw [h]; rfl, fun hn => ?_⟩
  have hpos : 0 < (pRec x).length := by
    rw [hpr]
    have : 0 < x.length := List.length_pos_iff.2 hn
    omega
  refine ⟨hpos, ?_, ?_⟩
  · rw [hpr, h1]; simp [RdS.adv, rOpen]; omega
  · have := rRec_behind x (by omega) (fun t ht => by
      obtain ⟨a, b, c, d⟩ := hmem t ht
      exact ⟨by omega, by omega, by omega, by omega⟩) hpos []
    simpa using this
/-- A plain value type is read as it was put, whatever stands behind. -/
theorem rVal_behind (v : ValT) (hp : plainVal v = true) (l : List UInt8) : rVal (pVal v ++ l) rOpen = (v, ⟨(pVal v).length, 0, 0⟩) := by
  have := rVal_rt v hp (pVal v ++ l) rOpen l (at_open _)
  rw [this]
  simp [RdS.adv, rOpen]
end Go.Proofs.YtokneepfknepaaaDoor
