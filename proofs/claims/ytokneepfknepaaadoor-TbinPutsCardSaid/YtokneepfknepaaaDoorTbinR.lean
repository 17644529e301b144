/- Laws of layer 6, the fourth part: what is put is read as it was, whatever stands behind. -/
import Derived.Test.YtokneepfknepaaaDoorTbinL3
set_option linter.unusedSimpArgs false
set_option linter.unusedVariables false
namespace Go.Proofs.YtokneepfknepaaaDoor

/-- A reader stands at the place from which on the bytes are l. -/
structure At (bs : List UInt8) (s : RdS) (l : List UInt8) : Prop where
  ok : s.err = 0
  le : s.at_ ≤ bs.length
  eq : bs.drop s.at_ = l
theorem At.adv {bs : List UInt8} {s : RdS} {b l : List UInt8} (h : At bs s (b ++ l)) : At bs (s.adv b.length) l := by
  have h3 := congrArg List.length h.eq
  simp at h3
  have := h.le
  refine ⟨h.ok, by simp; omega, ?_⟩
  simp only [adv_at, ← List.drop_drop]
  rw [h.eq]; simp
theorem At.head {bs : List UInt8} {s : RdS} {c : UInt8} {l : List UInt8} (h : At bs s (c :: l)) : s.at_ < bs.length ∧ bs.getD s.at_ 0 = c := by
  have h3 := congrArg List.length h.eq
  simp at h3
  have hl : s.at_ < bs.length := by omega
  refine ⟨hl, ?_⟩
  have := congrArg (fun l => l.getD 0 0) h.eq
  simpa [List.getD, List.getElem?_drop] using this

/-- What b says is read as x, whatever stands behind. -/
def RT {α : Type} (F : Pars α) (b : List UInt8) (x : α) : Prop := ∀ bs s l, At bs s (b ++ l) → F bs s = (x, s.adv b.length)

theorem rByte_rt (c : UInt8) : RT rByte [c] c.toNat := fun bs s l h => by
  have := At.head (c := c) (l := l) (by simpa using h)
  unfold rByte
  rw [if_pos ⟨h.ok, this.1⟩, this.2]; rfl
theorem rPeek_rt {bs : List UInt8} {s : RdS} {c : UInt8} {l : List UInt8} (h : At bs s (c :: l)) : rPeek bs s = c.toNat := by
  have := At.head h
  unfold rPeek
  rw [if_pos ⟨h.ok, this.1⟩, this.2]
theorem rU_rt (bits n : Nat) (h1 : 1 ≤ bits) (hb : bits ≤ 64) (hn : n < 2 ^ bits) : RT (fun bs => rU bs bits) (putU n) n := fun bs s l h => by
  have hr : lebRead bs s.at_ bits false = (n, s.at_ + (putU n).length, 0) := by
    rw [lebRead_eq h.le, h.eq, lebGo_putU bits hb n n (Nat.le_refl n) l s.at_ 0 0 (by omega) (by simp) (by simpa using hn)]
    simp
  simp [rU, h.ok, hr, RdS.adv]
theorem rS_rt (bits : Nat) (n : Int) (h1 : 1 ≤ bits) (hb : bits ≤ 64) (hlo : -(2 ^ (bits - 1)) ≤ n) (hhi : n < 2 ^ (bits - 1)) : RT (fun bs => rS bs bits) (putS n) n := fun bs s l h => by
  obtain ⟨v, h2, h3⟩ := lebGo_putS bits hb n.natAbs n (Nat.le_refl _) l s.at_ 0 0 (by omega) (by simp) (by simp) (by simpa using hlo) (by simpa using hhi)
  have hr : lebRead bs s.at_ bits true = (v, s.at_ + (putS n).length, 0) := by
    rw [lebRead_eq h.le, h.eq, h2]
  simp at h3
  simp [rS, h.ok, hr, RdS.adv, h3]

theorem RT.bind {α β : Type} {F : Pars α} {G : Nat → α → Pars β} {b1 b2 : List UInt8} {x : α} {y : β} (hF : RT F b1 x) (hG : ∀ a, RT (G a x) b2 y) : RT (pBind F G) (b1 ++ b2) y := fun bs s l h => by
  have h : At bs s (b1 ++ (b2 ++ l)) := by simpa using h
  unfold pBind
  rw [hF bs s _ h, hG s.at_ bs _ l h.adv, adv_adv, List.length_append]
theorem RT.map {α β : Type} {F : Pars α} {b : List UInt8} {x : α} (h : RT F b x) (m : α → β) : RT (pMap F m) b (m x) := fun bs s l ha => by
  unfold pMap; rw [h bs s l ha]
theorem RT.ret {α : Type} (x : α) : RT (pRet x) [] x := fun _ _ _ _ => rfl
theorem RT.alike {α : Type} {F G : Pars α} {b : List UInt8} {x : α} (h : Alike F G) (hG : RT G b x) : RT F b x := fun bs s l ha => by
  have h1 := h bs s
  have h2 := hG bs s l ha
  refine Prod.ext ?_ ?_
  · rw [h1.2 (by rw [h2]; exact ha.ok), h2]
  · rw [h1.1, h2]

theorem rHeap_rt (h : HeapT) (hp : plainHeap h = true) : RT rHeap (pHeap h) h := fun bs s l ha => by
  simp only [plainHeap, Bool.or_eq_true, givenH, indexedH, decide_eq_true_eq] at hp
  obtain ⟨k, n⟩ := h
  simp only at hp
  rcases hp with ⟨h1, h2, rfl⟩ | ⟨rfl, h2, h3⟩
  · have hb : ∃ c : UInt8, heapByte k = [c] ∧ givenK c.toNat = k := by
      have : k = 1 ∨ k = 2 ∨ k = 3 ∨ k = 4 ∨ k = 5 ∨ k = 6 ∨ k = 7 ∨ k = 8 ∨ k = 9 ∨ k = 10 ∨ k = 11 ∨ k = 12 := by omega
      rcases this with rfl | rfl | rfl | rfl | rfl | rfl | rfl | rfl | rfl | rfl | rfl | rfl
      · exact ⟨110, by decide, by decide⟩
      · exact ⟨109, by decide, by decide⟩
      · exact ⟨108, by decide, by decide⟩
      · exact ⟨107, by decide, by decide⟩
      · exact ⟨106, by decide, by decide⟩
      · exact ⟨113, by decide, by decide⟩
      · exact ⟨112, by decide, by decide⟩
      · exact ⟨115, by decide, by decide⟩
      · exact ⟨111, by decide, by decide⟩
      · exact ⟨114, by decide, by decide⟩
      · exact ⟨105, by decide, by decide⟩
      · exact ⟨116, by decide, by decide⟩
    obtain ⟨c, e1, e2⟩ := hb
    simp only [pHeap] at ha ⊢
    rw [if_neg (by omega), e1] at ha ⊢
    have hpk := rPeek_rt (c := c) (l := l) (by simpa using ha)
    unfold rHeap
    rw [hpk, e2, if_neg (by omega)]
    rfl
  · simp only [pHeap, if_true] at ha ⊢
    have hS := rS_rt 33 n (by decide) (by decide) (by omega) (by omega) bs s l ha
    simp only at hS
    have hg : givenK (rPeek bs s) = 0 := by
      obtain ⟨c, r, e, hc⟩ : ∃ (c : UInt8) (r : List UInt8), putS n = c :: r ∧ givenK c.toNat = 0 := by
        by_cases hs : n < 64
        · refine ⟨_, [], putS_small n (by omega) hs, ?_⟩
          rw [u8_ofNat _ (by omega)]
          unfold givenK; rw [if_pos (by omega)]
        · refine ⟨_, _, putS_big n (by omega), ?_⟩
          rw [u8_ofNat _ (by omega)]
          unfold givenK; rw [if_pos (by omega)]
      rw [e] at ha
      rw [rPeek_rt (c := c) (l := r ++ l) (by simpa using ha)]; exact hc
    unfold rHeap
    rw [if_pos hg, hS]
    simp [RdS.told, ha.ok, show ¬ n < 0 by omega]

theorem rVal_rt (v : ValT) (hp : plainVal v = true) : RT rVal (pVal v) v := by
  obtain ⟨k, nl, h⟩ := v
  simp only [plainVal] at hp
  rw [rVal_bind]
  simp only [pVal]
  split at hp
  · rename_i hk
    simp at hp
    obtain ⟨rfl, rfl⟩ := hp
    rcases hk with rfl | rfl
    · exact RT.bind (b1 := [127]) (b2 := []) (rByte_rt 127) fun a => by simp only [rValG]; exact RT.ret _
    · exact RT.bind (b1 := [126]) (b2 := []) (rByte_rt 126) fun a => by simp only [rValG]; exact RT.ret _
  · rename_i hk
    split at hp
    · rename_i h3
      subst h3
      have hp : plainHeap h = true := hp
      rw [if_neg (by decide), if_neg (by decide)]
      cases nl with
      | false =>
        rw [if_pos rfl]
        refine RT.bind (b1 := [100]) (b2 := pHeap h) (rByte_rt 100) fun a => ?_
        have : rValG a (100 : UInt8).toNat = pTold rHeap ValT.zero fun h => ⟨3, false, h⟩ := by simp [rValG]
        rw [this]
        exact RT.alike (pTold_alike _ _ _) ((rHeap_rt h hp).map _)
      | true =>
        rw [if_neg (by decide)]
        by_cases hx : h.kind = 13
        · rw [if_pos hx]
          refine RT.bind (b1 := [99]) (b2 := pHeap h) (rByte_rt 99) fun a => ?_
          have : rValG a (99 : UInt8).toNat = pTold rHeap ValT.zero fun h => ⟨3, true, h⟩ := by simp [rValG]
          rw [this]
          exact RT.alike (pTold_alike _ _ _) ((rHeap_rt h hp).map _)
        · rw [if_neg hx]
          obtain ⟨k, n⟩ := h
          simp only at hx
          simp only [plainHeap, Bool.or_eq_true, givenH, indexedH, decide_eq_true_eq] at hp
          rcases hp with ⟨h1, h2, rfl⟩ | ⟨rfl, _⟩
          · have hb : ∃ c : UInt8, heapByte k = [c] ∧ givenK c.toNat = k ∧ 105 ≤ c.toNat ∧ c.toNat ≤ 116 := by
              have : k = 1 ∨ k = 2 ∨ k = 3 ∨ k = 4 ∨ k = 5 ∨ k = 6 ∨ k = 7 ∨ k = 8 ∨ k = 9 ∨ k = 10 ∨ k = 11 ∨ k = 12 := by omega
              rcases this with rfl | rfl | rfl | rfl | rfl | rfl | rfl | rfl | rfl | rfl | rfl | rfl
              · exact ⟨110, by decide, by decide, by decide, by decide⟩
              · exact ⟨109, by decide, by decide, by decide, by decide⟩
              · exact ⟨108, by decide, by decide, by decide, by decide⟩
              · exact ⟨107, by decide, by decide, by decide, by decide⟩
              · exact ⟨106, by decide, by decide, by decide, by decide⟩
              · exact ⟨113, by decide, by decide, by decide, by decide⟩
              · exact ⟨112, by decide, by decide, by decide, by decide⟩
              · exact ⟨115, by decide, by decide, by decide, by decide⟩
              · exact ⟨111, by decide, by decide, by decide, by decide⟩
              · exact ⟨114, by decide, by decide, by decide, by decide⟩
              · exact ⟨105, by decide, by decide, by decide, by decide⟩
              · exact ⟨116, by decide, by decide, by decide, by decide⟩
            obtain ⟨c, e1, e2, e3, e4⟩ := hb
            simp only [pHeap]
            rw [if_neg hx, e1]
            refine RT.bind (b1 := [c]) (b2 := []) (rByte_rt c) fun a => ?_
            unfold rValG
            rw [if_neg (by omega), if_neg (by omega), if_neg (by omega), if_neg (by omega), if_neg (by omega), e2]
            exact RT.ret _
          · exact absurd rfl hx
    · cases hp

theorem rMany_rt {α : Type} {F : Pars α} {put : α → List UInt8} : ∀ (l : List α), (∀ x, x ∈ l → RT F (put x) x) → RT (fun bs s => rMany (F bs) l.length s) (l.flatMap put) l := by
  intro l
  induction l with
  | nil => intro _ bs s r h; rfl
  | cons x l ih =>
    intro hx bs s r h
    have h : At bs s (put x ++ (l.flatMap put ++ r)) := by simpa using h
    have h1 := hx x (by simp) bs s _ h
    have h2 := ih (fun y hy => hx y (by simp [hy])) bs _ r h.adv
    simp only at h2
    simp only [List.length_cons, rMany, if_pos h.ok, h1, h2, adv_adv]
    simp
theorem flat_ge {α : Type} (put : α → List UInt8) (l : List α) (h : ∀ x, x ∈ l → 1 ≤ (put x).length) : l.length ≤ (l.flatMap put).length := by
  induction l with
  | nil => simp
  | cons x l ih =>
    have := ih (fun y hy => h y (by simp [hy]))
    have := h x (by simp)
    simp only [List.flatMap_cons, List.length_append, List.length_cons]; omega
theorem pListF_rt {α : Type} {F : Pars α} {put : α → List UInt8} (l : List α) (hn : l.length < 4294967296) (h : ∀ x, x ∈ l → RT F (put x) x ∧ 1 ≤ (put x).length) : RT (pListF F) (pList put l) l := fun bs s r ha => by
  have hge := flat_ge put l (fun x hx => (h x hx).2)
  unfold pList at ha ⊢
  have ha : At bs s (putU l.length ++ (l.flatMap put ++ r)) := by simpa using ha
  have h1 := rU_rt 32 l.length (by decide) (by decide) (by simpa using hn) bs s _ ha
  simp only at h1
  have h2 := rMany_rt l (fun x hx => (h x hx).1) bs _ r ha.adv
  simp only at h2
  have h3 : rCount bs s = (l.length, s.adv (putU l.length).length) := by
    have hl := congrArg List.length ha.adv.eq
    simp only [List.length_drop, List.length_append, adv_at] at hl
    unfold rCount
    rw [h1, if_neg]
    simp only [adv_at]
    omega
  unfold pListF rList
  rw [h3]
  simp only [h2, adv_adv, RdS.told, if_pos (show (s.adv ((putU l.length).length + (l.flatMap put).length)).err = 0 from ha.ok), List.length_append]

theorem pHeap_pos (h : HeapT) (hp : plainHeap h = true) : 1 ≤ (pHeap h).length := by
  unfold pHeap
  split
  · exact putS_pos _
  · rename_i hx
    simp only [plainHeap, Bool.or_eq_true, givenH, indexedH, decide_eq_true_eq] at hp
    have : h.kind = 1 ∨ h.kind = 2 ∨ h.kind = 3 ∨ h.kind = 4 ∨ h.kind = 5 ∨ h.kind = 6 ∨ h.kind = 7 ∨ h.kind = 8 ∨ h.kind = 9 ∨ h.kind = 10 ∨ h.kind = 11 ∨ h.kind = 12 := by omega
    rcases this with e | e | e | e | e | e | e | e | e | e | e | e <;> rw [e] <;> decide
theorem pVal_pos (v : ValT) (hp : plainVal v = true) : 1 ≤ (pVal v).length := by
  unfold pVal
  split
  · simp
  · split
    · simp
    · split
      · simp
      · split
        · simp
        · rename_i h1 h2 _ _
          unfold plainVal at hp
          rw [if_neg (by omega)] at hp
          split at hp
          · exact pHeap_pos _ hp
          · cases hp
theorem rVals_rt (l : List ValT) (hn : l.length < 4294967296) (hp : l.all plainVal = true) : RT rVals (pList pVal l) l :=
  pListF_rt l hn fun x hx => by
    have := List.all_eq_true.1 hp x hx
    exact ⟨rVal_rt x this, pVal_pos x this⟩
theorem rSuper_rt (h : HeapT) (hp : indexedH h = true) : RT rSuper (pSuper h) h := by
  simp only [indexedH, decide_eq_true_eq] at hp
  obtain ⟨k, n⟩ := h
  simp only at hp
  obtain ⟨rfl, h1, h2⟩ := hp
  have := (rU_rt 32 n.toNat (by decide) (by decide) (by omega)).map (fun n => (⟨13, n⟩ : HeapT))
  rw [Int.toNat_of_nonneg h1] at this
  exact this
theorem rBit_rt (b : Bool) : RT rBit [if b then 1 else 0] b := by
  rw [rBit_bind]
  cases b
  · exact RT.bind (b1 := [0]) (b2 := []) (rByte_rt 0) fun a => by intro bs s l h; rfl
  · exact RT.bind (b1 := [1]) (b2 := []) (rByte_rt 1) fun a => by intro bs s l h; rfl
theorem rStore_rt (p : Int) (v : ValT) (h : (if p = 0 then plainVal v else if p = 8 ∨ p = 16 then decide (v = ⟨1, false, ⟨0, 0⟩⟩) else false) = true) :
    RT rStore (if p = 8 then [120] else if p = 16 then [119] else pVal v) (p, v) := fun bs s l ha => by
  split at h
  · rename_i h0
    subst h0
    rw [if_neg (by decide), if_neg (by decide)] at ha ⊢
    have hb : ∃ (c : UInt8) (r : List UInt8), pVal v = c :: r ∧ c.toNat ≠ 120 ∧ c.toNat ≠ 119 := by
      have h1 := rVal_rt v h bs s l ha
      have h2 := pVal_pos v h
      obtain ⟨c, r, e⟩ := List.exists_cons_of_length_pos h2
      refine ⟨c, r, e, ?_⟩
      rw [e] at ha
      have h3 := rByte_rt c bs s (r ++ l) (by simpa using ha)
      rw [rVal_bind] at h1
      unfold pBind at h1
      rw [h3] at h1
      constructor <;>
      · intro hc
        rw [hc] at h1
        have h4 := congrArg (fun x => x.2.err) h1
        simp [rValG, givenK, RdS.form, RdS.refuse, RdS.fail, ha.ok] at h4
    obtain ⟨c, r, e, c1, c2⟩ := hb
    have hpk : rPeek bs s = c.toNat := by
      rw [e] at ha
      exact rPeek_rt (c := c) (l := r ++ l) (by simpa using ha)
    unfold rStore
    rw [hpk, if_neg c1, if_neg c2, rVal_rt v h bs s l ha]
  · rename_i h0
    split at h
    · rename_i h1
      have hv : v = ⟨1, false, ⟨0, 0⟩⟩ := by simpa using h
      subst hv
      rcases h1 with rfl | rfl
      · rw [if_pos rfl] at ha ⊢
        have hpk := rPeek_rt (c := 120) (l := l) (by simpa using ha)
        unfold rStore
        rw [hpk]; rfl
      · rw [if_neg (by decide), if_pos rfl] at ha ⊢
        have hpk := rPeek_rt (c := 119) (l := l) (by simpa using ha)
        unfold rStore
        rw [hpk]; rfl
    · cases h
theorem rField_rt (f : FieldT) (hp : plainField f = true) : RT rField (pField f) f := by
  rw [rField_bind]
  exact RT.bind (rStore_rt f.pack f.val hp) fun a => (rBit_rt f.mut_).map _
theorem pField_pos (f : FieldT) : 1 ≤ (pField f).length := by simp [pField]
theorem rComp_rt (c : CompT) (hp : plainComp c = true) (h1 : c.params.length < 4294967296) (h2 : c.results.length < 4294967296) (h3 : c.fields.length < 4294967296) : RT rComp (pComp c) c := by
  obtain ⟨k, ps, rs, fs⟩ := c
  simp only [plainComp, Bool.and_eq_true] at hp
  obtain ⟨⟨⟨p1, p2⟩, p3⟩, p4⟩ := hp
  rw [rComp_bind]
  simp only [pComp]
  split at p4
  · rename_i hk
    subst hk
    have : fs = [] := by simpa using p4
    subst this
    rw [if_pos rfl]
    refine RT.bind (b1 := [96]) (b2 := pList pVal ps ++ pList pVal rs) (rByte_rt 96) fun a => ?_
    have : rCompG a (96 : UInt8).toNat = pBind rVals rFuncG := by simp [rCompG]
    rw [this]
    exact RT.bind (rVals_rt ps h1 p1) fun a => (rVals_rt rs h2 p2).map _
  · rename_i hk
    split at p4
    · rename_i hk2
      subst hk2
      have hpr : ps = [] ∧ rs = [] := by simpa using p4
      obtain ⟨rfl, rfl⟩ := hpr
      rw [if_neg (by decide), if_pos rfl]
      refine RT.bind (b1 := [95]) (b2 := pList pField fs) (rByte_rt 95) fun a => ?_
      have : rCompG a (95 : UInt8).toNat = pMap (pListF rField) fun l => ⟨2, [], [], l⟩ := by simp [rCompG]
      rw [this]
      exact (pListF_rt fs h3 fun x hx => ⟨rField_rt x (List.all_eq_true.1 p3 x hx), pField_pos x⟩).map _
    · rename_i hk2
      split at p4
      · rename_i hk3
        subst hk3
        simp only [Bool.and_eq_true, beq_iff_eq] at p4
        have hpr : ps = [] ∧ rs = [] := by simpa using p4.1
        obtain ⟨rfl, rfl⟩ := hpr
        obtain ⟨f, rfl⟩ := List.length_eq_one_iff.1 p4.2
        rw [if_neg (by decide), if_neg (by decide)]
        refine RT.bind (b1 := [94]) (b2 := pField f) (rByte_rt 94) fun a => ?_
        have : rCompG a (94 : UInt8).toNat = pMap rField fun f => ⟨3, [], [], [f]⟩ := by simp [rCompG]
        rw [this]
        exact (rField_rt f (by simpa using p3)).map _
      · cases p4
theorem pComp_head (c : CompT) : ∃ (b : UInt8) (r : List UInt8), pComp c = b :: r ∧ b.toNat ≠ 80 ∧ b.toNat ≠ 79 ∧ b.toNat ≠ 78 := by
  unfold pComp
  split
  · exact ⟨96, _, rfl, by decide, by decide, by decide⟩
  · split
    · exact ⟨95, _, rfl, by decide, by decide, by decide⟩
    · exact ⟨94, _, rfl, by decide, by decide, by decide⟩

/-- Lists that are no longer than any number of 32 bits. -/
structure SmallSub (s : SubT) : Prop where
  supers : s.supers.length < 4294967296
  params : s.comp.params.length < 4294967296
  results : s.comp.results.length < 4294967296
  fields : s.comp.fields.length < 4294967296
theorem rSupers_rt (l : List HeapT) (hn : l.length < 4294967296) (hp : l.all indexedH = true) : RT (pListF rSuper) (pList pSuper l) l :=
  pListF_rt l hn fun x hx => ⟨rSuper_rt x (List.all_eq_true.1 hp x hx), putU_pos _⟩
theorem pSub_head (s : SubT) : ∃ (b : UInt8) (r : List UInt8), pSub s = b :: r ∧ b.toNat ≠ 78 := by
  rw [pSub_eq]
  unfold pHead
  split
  · exact ⟨80, _, rfl, by decide⟩
  · split
    · exact ⟨79, _, rfl, by decide⟩
    · obtain ⟨b, r, e, _, _, h⟩ := pComp_head s.comp
      exact ⟨b, r, by simpa using e, h⟩
theorem rSub_rt (t : SubT) (hp : plainSub t = true) (hs : SmallSub t) : RT rSub (pSub t) t := fun bs s l ha => by
  rw [plainSub_eq, Bool.and_eq_true] at hp
  rw [pSub_eq] at ha ⊢
  have hc := rComp_rt t.comp hp.2 hs.params hs.results hs.fields
  obtain ⟨b, r, e, n1, n2, _⟩ := pComp_head t.comp
  have hH : rHead bs s = ((t.final_, t.supers), s.adv (pHead t.final_ t.supers).length) := by
    unfold pHead at ha ⊢
    unfold rHead
    split at ha
    · rename_i hf
      rw [if_pos hf]
      have hpk := rPeek_rt (c := 80) (l := pList pSuper t.supers ++ (pComp t.comp ++ l)) (by simpa using ha)
      have ha1 : At bs (s.adv 1) (pList pSuper t.supers ++ (pComp t.comp ++ l)) := At.adv (b := [80]) (by simpa using ha)
      have hl := rSupers_rt t.supers hs.supers hp.1 bs _ _ ha1
      have hl : rList bs (rSuper bs) s.next = (t.supers, (s.adv 1).adv (pList pSuper t.supers).length) := hl
      rw [hpk, if_pos (by decide), hl, adv_adv, hf]
      simp [Nat.add_comm]
    · rename_i hf
      rw [if_neg hf]
      have hf : t.final_ = true := by simpa using hf
      split at ha
      · rename_i hn
        rw [if_pos hn]
        have hpk := rPeek_rt (c := 79) (l := pList pSuper t.supers ++ (pComp t.comp ++ l)) (by simpa using ha)
        have ha1 : At bs (s.adv 1) (pList pSuper t.supers ++ (pComp t.comp ++ l)) := At.adv (b := [79]) (by simpa using ha)
        have hl := rSupers_rt t.supers hs.supers hp.1 bs _ _ ha1
        have hl : rList bs (rSuper bs) s.next = (t.supers, (s.adv 1).adv (pList pSuper t.supers).length) := hl
        rw [hpk, if_pos (by decide), hl, adv_adv, hf]
        simp [Nat.add_comm]
      · rename_i hn
        rw [if_neg hn]
        have hse : t.supers = [] := by simpa using hn
        rw [e] at ha
        have hpk := rPeek_rt (c := b) (l := r ++ l) (by simpa using ha)
        rw [hpk, if_neg (by omega), hf, hse]
        rfl
  have ha2 : At bs (s.adv (pHead t.final_ t.supers).length) (pComp t.comp ++ l) := At.adv (by simpa using ha)
  unfold rSub
  rw [hH]
  simp only
  rw [hc bs _ l ha2]
  simp [RdS.told, ha.ok, adv_adv]

theorem pRecB_big (a b : SubT) (l : List SubT) : pRecB (a :: b :: l) = 78 :: pList pSub (a :: b :: l) := rfl
theorem rRec_rt (l : List SubT) (hp : l.all plainSub = true) (hn : l ≠ []) (hl : l.length < 4294967296) (hs : ∀ t, t ∈ l → SmallSub t) : RT rRec (pRecB l) l := fun bs s r ha => by
  match l, hn with
  | [t], _ =>
    simp only [pRecB] at ha ⊢
    obtain ⟨b, q, e, n1⟩ := pSub_head t
    have hpk : rPeek bs s = b.toNat := by
      rw [e] at ha
      exact rPeek_rt (c := b) (l := q ++ r) (by simpa using ha)
    unfold rRec
    rw [hpk, if_neg n1, rSub_rt t (by simpa using hp) (hs t (by simp)) bs s r ha]
    simp [RdS.told, ha.ok]
  | x :: y :: q, _ =>
    rw [pRecB_big] at ha ⊢
    have hpk := rPeek_rt (c := 78) (l := pList pSub (x :: y :: q) ++ r) (by simpa using ha)
    have ha1 : At bs (s.adv 1) (pList pSub (x :: y :: q) ++ r) := At.adv (b := [78]) (by simpa using ha)
    have h1 := pListF_rt (F := rSub) (put := pSub) (x :: y :: q) hl (fun t ht => ⟨rSub_rt t (List.all_eq_true.1 hp t ht) (hs t ht), by
      obtain ⟨b, q, e, _⟩ := pSub_head t; rw [e]; simp⟩) bs _ r ha1
    have h1 : rList bs (rSub bs) s.next = (x :: y :: q, (s.adv 1).adv (pList pSub (x :: y :: q)).length) := h1
    unfold rRec
    rw [hpk, if_pos (by decide), h1, adv_adv]
    simp [Nat.add_comm]

end Go.Proofs.YtokneepfknepaaaDoor
