/- Laws of layer 6, the third part: supers, fields, composite types, declared types, groups; and the way back: what is put is read. -/
import Derived.Test.YtokneepfknepaaaDoorTbinL2
set_option linter.unusedSimpArgs false
set_option linter.unusedVariables false
namespace Go.Proofs.YtokneepfknepaaaDoor

theorem cut_val {α : Type} {F : Pars α} {bs : List UInt8} {s : RdS} {k c : Nat} (h : CutAt F bs s k c) (h1 : s.at_ + k ≤ c) : F (bs.take c) s = F bs s := h.1 h1

def SuperP (h : HeapT) (k : Nat) : Prop := indexedH h = true ∧ (pSuper h).length ≤ k ∧ 1 ≤ k
theorem rSuper_eq : rSuper = pMap (fun bs => rU bs 32) fun n => (⟨13, n⟩ : HeapT) := rfl
theorem rSuper_back : Back rSuper SuperP := by
  rw [rSuper_eq]
  refine pMap_back (rU_back 32 (by decide) (by decide)) _ fun n k ⟨h1, h2⟩ => ⟨?_, ?_, ?_⟩
  · have h2 : n < 4294967296 := by simpa using h2
    simp [indexedH]; omega
  · simpa [pSuper] using h1
  · have := putU_pos n; omega
theorem rSuper_cut : Cut rSuper := by rw [rSuper_eq]; exact pMap_cut (rU_cut 32) _

def StoreP (x : Int × ValT) (k : Nat) : Prop :=
  (if x.1 = 0 then plainVal x.2 else if x.1 = 8 ∨ x.1 = 16 then decide (x.2 = ⟨1, false, ⟨0, 0⟩⟩) else false) = true ∧ (if x.1 = 8 then [120] else if x.1 = 16 then [119] else pVal x.2 : List UInt8).length ≤ k
theorem rStore_stuck : Stuck rStore := fun bs s h => by
  unfold rStore
  rw [peek_stuck bs h, if_neg (by decide), if_neg (by decide)]
  exact rVal_stuck bs s h
theorem rStore_back : Back rStore StoreP := fun bs s he ha h0 => by
  unfold rStore at h0 ⊢
  split at h0
  · rename_i h1
    have := peek_pos (s := s) (bs := bs) (by rw [h1]; decide)
    simp only [if_pos h1]
    exact ⟨1, rfl, by omega, by simp [StoreP]⟩
  · rename_i h1
    split at h0
    · rename_i h2
      have := peek_pos (s := s) (bs := bs) (by rw [h2]; decide)
      simp only [if_neg h1, if_pos h2]
      exact ⟨1, rfl, by omega, by simp [StoreP]⟩
    · rename_i h2
      simp only [if_neg h1, if_neg h2]
      obtain ⟨k, e, l, p1, p2, _⟩ := rVal_back bs s he ha h0
      exact ⟨k, e, l, by simpa using p1, by simpa using p2⟩
theorem rStore_cut : Cut rStore := fun bs s k he ha hk c hac hc => by
  rcases Nat.lt_or_ge s.at_ c with hlt | hge
  · have hp := peek_cut hlt hc
    unfold rStore at hk
    split at hk
    · rename_i h1
      have hk1 : k = 1 := (adv_inj (a := 1) hk).symm
      subst hk1
      unfold CutAt rStore
      rw [hp, if_pos h1, if_pos h1]
      exact ⟨fun _ => rfl, fun h => by omega⟩
    · rename_i h1
      split at hk
      · rename_i h2
        have hk1 : k = 1 := (adv_inj (a := 1) hk).symm
        subst hk1
        unfold CutAt rStore
        rw [hp, if_neg h1, if_pos h2, if_neg h1, if_pos h2]
        exact ⟨fun _ => rfl, fun h => by omega⟩
      · rename_i h2
        obtain ⟨a, b⟩ := rVal_cut bs s k he ha hk c hac hc
        unfold CutAt rStore
        rw [hp, if_neg h1, if_neg h2, if_neg h1, if_neg h2]
        exact ⟨fun h => by rw [a h], fun h => b h⟩
  · have hce : c = s.at_ := by omega
    subst hce
    have hp : rPeek (bs.take s.at_) s = 0 := peek_end (by omega)
    have hE : Early (rVal (bs.take s.at_) s).2 s.at_ := by
      have h1 : ¬ s.at_ < (bs.take s.at_).length := by simp; omega
      have h2 : rByte (bs.take s.at_) s = (0, { s with err := 10, errAt := s.at_ }) := by
        unfold rByte; rw [if_neg (fun h => h1 h.2), fail_ok he (by decide)]
      rw [rVal_bind]; unfold pBind; rw [h2]
      rw [rValG_stuck0 _ _ _ (by simp)]
      exact ⟨rfl, by simp, by simp⟩
    have hk0 : k ≠ 0 := by
      rintro rfl
      obtain ⟨k', e, l, p⟩ := rStore_back bs s he ha (by rw [hk]; exact he)
      have hk' := adv_inj (hk.symm.trans e)
      subst hk'
      unfold rStore at hk
      split at hk
      · exact absurd (adv_inj (a := 1) hk) (by decide)
      · split at hk
        · exact absurd (adv_inj (a := 1) hk) (by decide)
        · obtain ⟨k2, e2, l2, p2⟩ := rVal_back bs s he ha (by simp only at hk; rw [hk]; exact he)
          have := adv_inj (hk.symm.trans e2)
          have := p2.2.2
          omega
    unfold CutAt rStore
    rw [hp, if_neg (by decide), if_neg (by decide)]
    exact ⟨fun h => by omega, fun h => hE⟩

def rBitG (a c : Nat) : Pars Bool := fun _ s => (c == 1, if 1 < c then s.form a else s)
theorem rBit_bind : rBit = pBind rByte rBitG := rfl
theorem rBitG_back (a c : Nat) : Back (rBitG a c) fun _ k => k = 0 ∧ c ≤ 1 := fun bs s he ha h0 => by
  unfold rBitG at h0 ⊢
  split at h0
  · rw [form_err he] at h0; cases h0
  · rename_i h1
    simp only [if_neg h1]
    exact ⟨0, rfl, by omega, rfl, by omega⟩
theorem rBitG_cut (a c : Nat) : Cut (rBitG a c) := by
  unfold rBitG
  by_cases h : 1 < c
  · simp only [if_pos h]
    exact Fails.cut fun bs s he => by show (s.form a).err ≠ 0; rw [form_err he]; decide
  · simp only [if_neg h]
    exact pRet_cut _
theorem rBitG_stuck0 (a : Nat) : Stuck (rBitG a 0) := fun bs s h => by simp [rBitG]
theorem rBit_stuck : Stuck rBit := fun bs s h => by
  rw [rBit_bind]; unfold pBind
  have h1 := rByte_stuck bs s h
  have h2 : (rByte bs s).1 = 0 := rByte_errz bs s (by rw [h1]; exact h)
  rw [h1, h2]; exact rBitG_stuck0 _ bs s h
theorem rBit_back : Back rBit fun _ k => k = 1 := by
  rw [rBit_bind]
  refine (Back.bind rByte_back rByte_stuck (rByteZ rBitG_stuck0) (fun a x _ _ => rBitG_back a x)).mono ?_
  rintro v k ⟨x, k1, k2, rfl, ⟨rfl, _⟩, rfl, _⟩
  rfl
theorem rBit_cut : Cut rBit := by
  rw [rBit_bind]
  exact Cut.bind rByte_back rByte_cut (rByteZ rBitG_stuck0) (fun a x _ _ => rBitG_back a x) (fun a x _ _ => rBitG_cut a x)

def FieldP (f : FieldT) (k : Nat) : Prop := plainField f = true ∧ (pField f).length ≤ k ∧ 1 ≤ k
def rFieldG (_ : Nat) (x : Int × ValT) : Pars FieldT := pMap rBit fun b => ⟨x.1, x.2, b⟩
theorem rField_bind : rField = pBind rStore rFieldG := rfl
theorem rFieldG_back (a : Nat) (x : Int × ValT) : Back (rFieldG a x) fun f k => f.pack = x.1 ∧ f.val = x.2 ∧ k = 1 :=
  pMap_back rBit_back _ fun _ _ h => ⟨rfl, rfl, h⟩
theorem rField_stuck : Stuck rField := fun bs s h => by
  rw [rField_bind]; unfold pBind
  rw [rStore_stuck bs s h]; exact rBit_stuck bs s h
theorem rField_back : Back rField FieldP := by
  rw [rField_bind]
  refine (Back.bind rStore_back rStore_stuck (fun _ _ _ => rBit_stuck) (fun a x _ _ => rFieldG_back a x)).mono ?_
  rintro f k ⟨x, k1, k2, rfl, ⟨p1, p2⟩, e1, e2, rfl⟩
  refine ⟨?_, ?_, by omega⟩
  · unfold plainField; rw [e1, e2]; exact p1
  · unfold pField; rw [e1, e2]; simp only [List.length_append, List.length_cons, List.length_nil]; omega
theorem rField_cut : Cut rField := by
  rw [rField_bind]
  exact Cut.bind rStore_back rStore_cut (fun _ _ _ => rBit_stuck) (fun a x _ _ => rFieldG_back a x) (fun a x _ _ => pMap_cut rBit_cut _)

/- Composite types. -/
def plainComp (c : CompT) : Bool :=
  (c.params.all plainVal && c.results.all plainVal && c.fields.all plainField) &&
  (if c.kind = 1 then c.fields.length == 0
   else if c.kind = 2 then c.params.length + c.results.length == 0
   else if c.kind = 3 then c.params.length + c.results.length == 0 && c.fields.length == 1
   else false)
def pComp (c : CompT) : List UInt8 :=
  if c.kind = 1 then 96 :: (pList pVal c.params ++ pList pVal c.results)
  else if c.kind = 2 then 95 :: pList pField c.fields
  else 94 :: c.fields.head?.elim [] pField
def CompP (c : CompT) (k : Nat) : Prop := plainComp c = true ∧ (pComp c).length ≤ k ∧ 1 ≤ k
def rFuncG (_ : Nat) (x : List ValT) : Pars CompT := pMap rVals fun y => ⟨1, x, y, []⟩
def rCompG (a c : Nat) : Pars CompT :=
  if c = 96 then pBind rVals rFuncG
  else if c = 95 then pMap (pListF rField) fun l => ⟨2, [], [], l⟩
  else if c = 94 then pMap rField fun f => ⟨3, [], [], [f]⟩
  else fun _ s => (CompT.zero, s.form a)
theorem rComp_bind : rComp = pBind rByte rCompG := by
  funext bs s
  unfold rComp pBind rCompG
  generalize (rByte bs s).1 = c
  generalize (rByte bs s).2 = s'
  split
  · rfl
  · split
    · rfl
    · split <;> rfl
theorem rFuncG_back (a : Nat) (x : List ValT) : Back (rFuncG a x) fun c k => c.kind = 1 ∧ c.params = x ∧ c.fields = [] ∧ ListP plainVal pVal c.results k :=
  pMap_back rVals_back _ fun _ _ h => ⟨rfl, rfl, rfl, h⟩
theorem rFunc_back : Back (pBind rVals rFuncG) fun c k => c.kind = 1 ∧ c.fields = [] ∧ ∃ k1 k2, k = k1 + k2 ∧ ListP plainVal pVal c.params k1 ∧ ListP plainVal pVal c.results k2 := by
  refine (Back.bind rVals_back rVals_stuck (fun _ _ _ => rVals_stuck) (fun a x _ _ => rFuncG_back a x)).mono ?_
  rintro c k ⟨x, k1, k2, rfl, p1, e1, e2, e3, p2⟩
  subst e2
  exact ⟨e1, e3, k1, k2, rfl, p1, p2⟩
theorem rFields_back : Back (pListF rField) (ListP plainField pField) := pListF_back rField_back fun _ _ h => h
theorem rFields_cut : Cut (pListF rField) := pListF_cut rField_back rField_cut fun _ _ h => h.2.2
theorem rCompG_back (a c : Nat) : Back (rCompG a c) fun x k => plainComp x = true ∧ (pComp x).length ≤ 1 + k := by
  unfold rCompG
  split
  · refine rFunc_back.mono ?_
    rintro x k ⟨e1, e2, k1, k2, rfl, ⟨p1, p2, _⟩, ⟨q1, q2, _⟩⟩
    refine ⟨by simp only [plainComp, p1, q1, e1, e2]; rfl, ?_⟩
    simp only [pComp, e1, if_true, List.length_cons, List.length_append]
    omega
  · split
    · refine pMap_back rFields_back _ fun l k ⟨p1, p2, _⟩ => ⟨by simp only [plainComp, p1]; rfl, ?_⟩
      simp [pComp]; omega
    · split
      · refine pMap_back rField_back _ fun f k ⟨p1, p2, _⟩ => ⟨by simp [plainComp, p1], ?_⟩
        simp [pComp]; omega
      · exact Fails.back (fun bs s he => by show (s.form a).err ≠ 0; rw [form_err he]; decide) _
theorem rCompG_cut (a c : Nat) : Cut (rCompG a c) := by
  unfold rCompG
  split
  · exact Cut.bind rVals_back rVals_cut (fun _ _ _ => rVals_stuck) (fun a x _ _ => rFuncG_back a x) (fun a x _ _ => pMap_cut rVals_cut _)
  · split
    · exact pMap_cut rFields_cut _
    · split
      · exact pMap_cut rField_cut _
      · exact Fails.cut (fun bs s he => by show (s.form a).err ≠ 0; rw [form_err he]; decide)
theorem rCompG_stuck0 (a : Nat) : Stuck (rCompG a 0) := fun bs s h => by simp [rCompG, form_stuck h]
theorem rComp_stuck : Stuck rComp := fun bs s h => by
  rw [rComp_bind]; unfold pBind
  have h1 := rByte_stuck bs s h
  have h2 : (rByte bs s).1 = 0 := rByte_errz bs s (by rw [h1]; exact h)
  rw [h1, h2]; exact rCompG_stuck0 _ bs s h
theorem rComp_back : Back rComp CompP := by
  rw [rComp_bind]
  refine (Back.bind rByte_back rByte_stuck (rByteZ rCompG_stuck0) (fun a x _ _ => rCompG_back a x)).mono ?_
  rintro v k ⟨x, k1, k2, rfl, ⟨rfl, _⟩, h1, h2⟩
  exact ⟨h1, h2, by omega⟩
theorem rComp_cut : Cut rComp := by
  rw [rComp_bind]
  exact Cut.bind rByte_back rByte_cut (rByteZ rCompG_stuck0) (fun a x _ _ => rCompG_back a x) (fun a x _ _ => rCompG_cut a x)

/- Declared types. -/
def pHead (f : Bool) (l : List HeapT) : List UInt8 :=
  if f = false then 80 :: pList pSuper l else if 0 < l.length then 79 :: pList pSuper l else []
def HeadP (x : Bool × List HeapT) (k : Nat) : Prop := x.2.all indexedH = true ∧ (pHead x.1 x.2).length ≤ k
theorem rSupers_back : Back (pListF rSuper) (ListP indexedH pSuper) := pListF_back rSuper_back fun _ _ h => h
theorem rSupers_cut : Cut (pListF rSuper) := pListF_cut rSuper_back rSuper_cut fun _ _ h => h.2.2
theorem rHead_stuck : Stuck rHead := fun bs s h => by simp [rHead, peek_stuck bs h]
theorem rHead_back : Back rHead HeadP := fun bs s he ha h0 => by
  unfold rHead at h0 ⊢
  split at h0
  · rename_i h1
    have hp := peek_pos (s := s) (bs := bs) (by omega)
    simp only [if_pos h1]
    obtain ⟨k, e, l, p1, p2, _⟩ := rSupers_back bs (s.adv 1) he (by simp; omega) h0
    have e' : (rList bs (rSuper bs) s.next).2 = (s.adv 1).adv k := e
    simp at l
    refine ⟨1 + k, by rw [e', adv_adv], by omega, p1, ?_⟩
    have p2 : (pList pSuper (rList bs (rSuper bs) s.next).1).length ≤ k := p2
    simp only [pHead]
    split
    · simp only [List.length_cons]; omega
    · split
      · simp only [List.length_cons]; omega
      · simp
  · rename_i h1
    simp only [if_neg h1]
    exact ⟨0, rfl, by omega, rfl, by simp [pHead]⟩
theorem rHead_cut1 : Cut1 rHead := fun bs s k he ha hk c hac hc => by
  have hp := peek_cut hac hc
  unfold rHead at hk
  split at hk
  · rename_i h1
    have hpos := peek_pos (s := s) (bs := bs) (by omega)
    obtain ⟨k', e, l, _⟩ := rSupers_back bs (s.adv 1) he (by simp; omega) (by
      show (rList bs (rSuper bs) s.next).2.err = 0
      simp only at hk; rw [hk]; exact he)
    have e' : (rList bs (rSuper bs) s.next).2 = (s.adv 1).adv k' := e
    have hkk : k = 1 + k' := by
      simp only at hk
      rw [hk, adv_adv] at e'; exact adv_inj e'
    subst hkk
    obtain ⟨a, b⟩ := rSupers_cut bs (s.adv 1) k' he (by simp; omega) e c (by simp; omega) hc
    simp only [adv_at] at a b
    unfold CutAt rHead
    rw [hp, if_pos h1, if_pos h1]
    refine ⟨fun h => ?_, fun h => ?_⟩
    · have a := a (by omega)
      have a : rList (bs.take c) (rSuper (bs.take c)) s.next = rList bs (rSuper bs) s.next := a
      rw [a]
    · exact b (by omega)
  · rename_i h1
    have hk1 : k = 0 := (adv_inj (a := 0) hk).symm
    subst hk1
    unfold CutAt rHead
    rw [hp, if_neg h1, if_neg h1]
    exact ⟨fun _ => rfl, fun h => by omega⟩

def SubP (x : SubT) (k : Nat) : Prop := plainSub x = true ∧ (pSub x).length ≤ k ∧ 1 ≤ k
def rSubG (_ : Nat) (x : Bool × List HeapT) : Pars SubT := pMap rComp fun c => ⟨x.1, x.2, c⟩
theorem rSub_alike : Alike rSub (pBind rHead rSubG) := fun bs s => ⟨rfl, fun h => by
  have h : (rComp bs (rHead bs s).2).2.err = 0 := h
  simp [rSub, RdS.told, h, pBind, rSubG, pMap]⟩
theorem rSubG_back (a : Nat) (x : Bool × List HeapT) : Back (rSubG a x) fun t k => t.final_ = x.1 ∧ t.supers = x.2 ∧ CompP t.comp k :=
  pMap_back rComp_back _ fun _ _ h => ⟨rfl, rfl, h⟩
theorem plainSub_eq (s : SubT) : plainSub s = (s.supers.all indexedH && plainComp s.comp) := by simp [plainSub, plainComp, Bool.and_assoc]
theorem pSub_eq (s : SubT) : pSub s = pHead s.final_ s.supers ++ pComp s.comp := rfl
theorem rSub_stuck : Stuck rSub := fun bs s h => by
  show (rComp bs (rHead bs s).2).2 = s
  rw [rHead_stuck bs s h, rComp_stuck bs s h]
theorem rSub_back : Back rSub SubP := by
  refine rSub_alike.back ((Back.bind rHead_back rHead_stuck (fun _ _ _ => rComp_stuck) (fun a x _ _ => rSubG_back a x)).mono ?_)
  rintro t k ⟨x, k1, k2, rfl, ⟨p1, p2⟩, e1, e2, q1, q2, q3⟩
  refine ⟨?_, ?_, by omega⟩
  · rw [plainSub_eq, e2, p1, q1]; rfl
  · rw [pSub_eq, e1, e2, List.length_append]; omega
theorem rComp_end {bs : List UInt8} {s : RdS} (he : s.err = 0) (h : bs.length ≤ s.at_) : Early (rComp bs s).2 s.at_ := by
  have h2 : rByte bs s = (0, { s with err := 10, errAt := s.at_ }) := by
    unfold rByte; rw [if_neg (fun h => by omega), fail_ok he (by decide)]
  rw [rComp_bind]; unfold pBind; rw [h2]
  rw [rCompG_stuck0 _ _ _ (by simp)]
  exact ⟨rfl, by simp, by simp⟩
theorem rSub_end {bs : List UInt8} {s : RdS} (he : s.err = 0) (h : bs.length ≤ s.at_) : Early (rSub bs s).2 s.at_ := by
  have hp : rPeek bs s = 0 := by unfold rPeek; rw [if_neg (fun h => by omega)]
  have hh : rHead bs s = ((true, []), s) := by unfold rHead; rw [hp]; simp
  show Early (rComp bs (rHead bs s).2).2 s.at_
  rw [hh]; exact rComp_end he h
theorem rSub_cut : Cut rSub := fun bs s k he ha hk c hac hc => by
  rcases Nat.lt_or_ge s.at_ c with hlt | hge
  · have h := Cut1.bind rHead_back rHead_cut1 (fun _ _ _ => rComp_stuck) (fun a x _ _ => rSubG_back a x) (fun a x _ _ => pMap_cut rComp_cut _)
    have h1 := rSub_alike bs s
    have hk' := hk
    rw [h1.1] at hk
    obtain ⟨a, b⟩ := h bs s k he ha hk c hlt hc
    have h2 := rSub_alike (bs.take c) s
    refine ⟨fun hh => ?_, fun hh => by rw [h2.1]; exact b hh⟩
    have e := a hh
    have h0 : (pBind rHead rSubG bs s).2.err = 0 := by rw [hk]; exact he
    refine Prod.ext ?_ ?_
    · rw [h2.2 (by rw [e]; exact h0), h1.2 h0, e]
    · rw [h2.1, h1.1, e]
  · obtain ⟨k', e, l, p⟩ := rSub_back bs s he ha (by rw [hk]; exact he)
    have hkk := adv_inj (hk.symm.trans e)
    subst hkk
    have := p.2.2
    have hce : c = s.at_ := by omega
    subst hce
    exact ⟨fun h => by omega, fun _ => rSub_end he (by simp; omega)⟩

/- Groups. -/
def pRecB (l : List SubT) : List UInt8 := match l with
  | [] => []
  | [s] => pSub s
  | l => 78 :: pList pSub l
theorem pRec_eq (l : List SubT) : pRec l = if l.all plainSub then pRecB l else [] := rfl
def RecP (l : List SubT) (k : Nat) : Prop := l.all plainSub = true ∧ (pRecB l).length ≤ k ∧ 1 ≤ k
theorem rSubs_back : Back (pListF rSub) (ListP plainSub pSub) := pListF_back rSub_back fun _ _ h => h
theorem rSubs_cut : Cut (pListF rSub) := pListF_cut rSub_back rSub_cut fun _ _ h => h.2.2
theorem pList_len1 (s : SubT) : (pSub s).length < (pList pSub [s]).length := by simp [pList]; have := putU_pos 1; omega
theorem rRec_back : Back rRec RecP := fun bs s he ha h0 => by
  unfold rRec at h0 ⊢
  split at h0
  · rename_i h1
    have hp := peek_pos (s := s) (bs := bs) (by omega)
    simp only [if_pos h1]
    obtain ⟨k, e, l, p1, p2, p3⟩ := rSubs_back bs (s.adv 1) he (by simp; omega) h0
    have e' : (rList bs (rSub bs) s.next).2 = (s.adv 1).adv k := e
    simp at l
    refine ⟨1 + k, by rw [e', adv_adv], by omega, p1, ?_, by omega⟩
    have p2 : (pList pSub (rList bs (rSub bs) s.next).1).length ≤ k := p2
    generalize (rList bs (rSub bs) s.next).1 = x at p2
    match x, p2 with
    | [], _ => simp [pRecB]
    | [t], p2 => have := pList_len1 t; simp only [pRecB]; omega
    | a :: b :: r, p2 => simp only [pRecB, List.length_cons] at p2 ⊢; omega
  · rename_i h1
    simp only [if_neg h1]
    obtain ⟨k, e, l, p1, p2, p3⟩ := rSub_back bs s he ha h0
    have h0' : (rSub bs s).2.err = 0 := h0
    refine ⟨k, e, l, ?_⟩
    simp only [RdS.told, if_pos h0']
    exact ⟨by simpa using p1, by simpa [pRecB] using p2, p3⟩
theorem rRec_errz (bs : List UInt8) (s : RdS) (h : (rRec bs s).2.err ≠ 0) : (rRec bs s).1 = [] := by
  unfold rRec at h ⊢
  split
  · rename_i h1
    rw [if_pos h1] at h
    unfold rList at h ⊢
    simp at h
    simp [RdS.told, h]
  · rename_i h1
    rw [if_neg h1] at h
    simp at h
    simp [RdS.told, h]
theorem rRec_cut : Cut rRec := fun bs s k he ha hk c hac hc => by
  rcases Nat.lt_or_ge s.at_ c with hlt | hge
  · have hp := peek_cut hlt hc
    unfold rRec at hk
    split at hk
    · rename_i h1
      have hpos := peek_pos (s := s) (bs := bs) (by omega)
      obtain ⟨k', e, l, _⟩ := rSubs_back bs (s.adv 1) he (by simp; omega) (by
        show (rList bs (rSub bs) s.next).2.err = 0
        rw [hk]; exact he)
      have e' : (rList bs (rSub bs) s.next).2 = (s.adv 1).adv k' := e
      have hkk : k = 1 + k' := by rw [hk, adv_adv] at e'; exact adv_inj e'
      subst hkk
      obtain ⟨a, b⟩ := rSubs_cut bs (s.adv 1) k' he (by simp; omega) e c (by simp; omega) hc
      simp only [adv_at] at a b
      unfold CutAt rRec
      rw [hp, if_pos h1, if_pos h1]
      exact ⟨fun h => a (by omega), fun h => b (by omega)⟩
    · rename_i h1
      obtain ⟨a, b⟩ := rSub_cut bs s k he ha hk c hac hc
      unfold CutAt rRec
      rw [hp, if_neg h1, if_neg h1]
      exact ⟨fun h => by rw [a h], fun h => b h⟩
  · obtain ⟨k', e, l, p⟩ := rRec_back bs s he ha (by rw [hk]; exact he)
    have hkk := adv_inj (hk.symm.trans e)
    subst hkk
    have := p.2.2
    have hce : c = s.at_ := by omega
    subst hce
    refine ⟨fun h => by omega, fun _ => ?_⟩
    unfold rRec
    rw [peek_end (by omega), if_neg (by decide)]
    exact rSub_end he (by simp; omega)

end Go.Proofs.YtokneepfknepaaaDoor
