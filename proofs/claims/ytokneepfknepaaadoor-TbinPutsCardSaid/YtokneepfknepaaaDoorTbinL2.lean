/- Laws of layer 6, the second part: heap types, value types, lists, fields, declared types, groups. -/
import Derived.Test.YtokneepfknepaaaDoorTbinL
set_option linter.unusedSimpArgs false
set_option linter.unusedVariables false
namespace Go.Proofs.YtokneepfknepaaaDoor

/-- The value behind an error is z. -/
def pTold {α β : Type} (F : Pars α) (z : β) (m : α → β) : Pars β := fun bs s => ((F bs s).2.told z (m (F bs s).1), (F bs s).2)
theorem pTold_alike {α β : Type} (F : Pars α) (z : β) (m : α → β) : Alike (pTold F z m) (pMap F m) := fun bs s => ⟨rfl, fun h => by
  have h : (F bs s).2.err = 0 := h
  simp [pTold, pMap, RdS.told, h]⟩
theorem pMap_stuck {α β : Type} {F : Pars α} (h : Stuck F) (m : α → β) : Stuck (pMap F m) := h

theorem peek_stuck {s : RdS} (bs : List UInt8) (h : s.err ≠ 0) : rPeek bs s = 0 := by simp [rPeek, h]
theorem peek_pos {s : RdS} {bs : List UInt8} (h : rPeek bs s ≠ 0) : s.err = 0 ∧ s.at_ < bs.length ∧ rPeek bs s = (bs.getD s.at_ 0).toNat := by
  unfold rPeek at h ⊢
  split at h
  · rename_i hc; rw [if_pos hc]; exact ⟨hc.1, hc.2, rfl⟩
  · exact absurd rfl h
theorem peek_cut {bs : List UInt8} {s : RdS} {c : Nat} (h : s.at_ < c) (hc : c ≤ bs.length) : rPeek (bs.take c) s = rPeek bs s := by
  unfold rPeek
  rw [take_getD _ _ _ h]
  have h1 : (s.at_ < (bs.take c).length) := by simp; omega
  have h2 : s.at_ < bs.length := by omega
  by_cases he : s.err = 0
  · rw [if_pos ⟨he, h1⟩, if_pos ⟨he, h2⟩]
  · rw [if_neg (fun h => he h.1), if_neg (fun h => he h.1)]
theorem peek_end {bs : List UInt8} {s : RdS} {c : Nat} (h : c ≤ s.at_) : rPeek (bs.take c) s = 0 := by
  unfold rPeek
  rw [if_neg]
  simp; omega

theorem givenK_lt {c : Nat} (h : givenK c ≠ 0) : 105 ≤ c ∧ c ≤ 116 := by
  unfold givenK at h
  split at h
  · exact absurd rfl h
  · omega
theorem givenK_facts {c : Nat} (h : givenK c ≠ 0) : 1 ≤ givenK c ∧ givenK c ≤ 12 ∧ heapByte (givenK c) = [UInt8.ofNat c] ∧ (UInt8.ofNat c).toNat = c := by
  have h2 := givenK_lt h
  have : c = 105 ∨ c = 106 ∨ c = 107 ∨ c = 108 ∨ c = 109 ∨ c = 110 ∨ c = 111 ∨ c = 112 ∨ c = 113 ∨ c = 114 ∨ c = 115 ∨ c = 116 := by omega
  rcases this with rfl | rfl | rfl | rfl | rfl | rfl | rfl | rfl | rfl | rfl | rfl | rfl <;> decide

def plainHeap (h : HeapT) : Bool := givenH h || indexedH h
def HeapP (h : HeapT) (k : Nat) : Prop := plainHeap h = true ∧ (pHeap h).length ≤ k ∧ 1 ≤ k

theorem rHeap_stuck : Stuck rHeap := fun bs s h => by
  unfold rHeap
  have h2 := rS_stuck 33 bs s h
  simp only at h2
  have h1 : (rS bs 33 s).1 = 0 := by simp [rS, h]
  simp [peek_stuck bs h, givenK, h1, h2]
theorem rHeap_errz (bs : List UInt8) (s : RdS) (h : (rHeap bs s).2.err ≠ 0) : (rHeap bs s).1 = HeapT.zero := by
  unfold rHeap at h ⊢
  split at h
  · rename_i h1
    rw [if_pos h1]
    split at h
    · rename_i h2; rw [if_pos h2]
    · rename_i h2; rw [if_neg h2]; simp at h; simp [RdS.told, h]
  · rename_i h1
    have := peek_pos (s := s) (bs := bs) (fun h0 => h1 (by rw [h0]; rfl))
    exact absurd this.1 h
theorem rHeap_back : Back rHeap HeapP := fun bs s he ha h0 => by
  unfold rHeap at h0 ⊢
  split at h0
  · rename_i h1
    simp only [if_pos h1]
    split at h0
    · rename_i h2
      by_cases h3 : (rS bs 33 s).2.err = 0
      · rw [show ((rS bs 33 s).2.refuse 60 s.at_).err = 60 from refuse_err h3 (by decide) _] at h0
        cases h0
      · rw [rS_errz bs 33 s h3] at h2
        exact absurd h2 (by decide)
    · rename_i h2
      simp only [if_neg h2]
      obtain ⟨k, e, l, p1, p2, p3⟩ := rS_back 33 (by decide) (by decide) bs s he ha h0
      simp only at e p1 p2 p3
      refine ⟨k, e, l, ?_⟩
      have h0' : (rS bs 33 s).2.err = 0 := h0
      simp only [RdS.told, if_pos h0', HeapP]
      refine ⟨?_, by simpa [pHeap] using p1, by have := putS_pos (rS bs 33 s).1; omega⟩
      simp only [plainHeap, indexedH, Bool.or_eq_true, decide_eq_true_eq]
      right
      have p3 : (rS bs 33 s).1 < 4294967296 := by simpa using p3
      refine ⟨trivial, by omega, by omega⟩
  · rename_i h1
    simp only [if_neg h1]
    have := peek_pos (s := s) (bs := bs) (fun h0 => h1 (by rw [h0]; rfl))
    obtain ⟨f1, f2, f3, _⟩ := givenK_facts h1
    refine ⟨1, rfl, by omega, ?_, ?_, by omega⟩
    · simp [plainHeap, givenH, f1, f2]
    · simp only [pHeap]
      rw [if_neg (by omega), f3]; simp
theorem rHeap_cut : Cut rHeap := fun bs s k he ha hk c hac hc => by
  by_cases h1 : givenK (rPeek bs s) = 0
  · have hS : (rHeap bs s).2.err = 0 := by rw [hk]; exact he
    have h2 : ¬ (rS bs 33 s).1 < 0 := by
      intro h2
      unfold rHeap at hS
      rw [if_pos h1, if_pos h2] at hS
      by_cases h3 : (rS bs 33 s).2.err = 0
      · rw [show ((rS bs 33 s).2.refuse 60 s.at_).err = 60 from refuse_err h3 (by decide) _] at hS
        cases hS
      · rw [rS_errz bs 33 s h3] at h2
        exact absurd h2 (by decide)
    have hk2 : (rS bs 33 s).2 = s.adv k := by
      unfold rHeap at hk
      rw [if_pos h1, if_neg h2] at hk
      exact hk
    have hp : givenK (rPeek (bs.take c) s) = 0 := by
      rcases Nat.lt_or_ge s.at_ c with h | h
      · rw [peek_cut h hc]; exact h1
      · rw [peek_end h]; rfl
    obtain ⟨a, b⟩ := rS_cut 33 bs s k he ha hk2 c hac hc
    refine ⟨fun h => ?_, fun h => ?_⟩
    · have a := a h
      simp only at a
      unfold rHeap
      rw [if_pos h1, if_pos hp, a]
    · have b := b h
      simp only at b
      have h3 : (rS (bs.take c) 33 s).2.err ≠ 0 := by rw [b.1]; decide
      have h4 := rS_errz _ _ _ h3
      unfold rHeap
      rw [if_pos hp, if_neg (by rw [h4]; decide)]
      exact b
  · have h2 := peek_pos (s := s) (bs := bs) (fun h0 => h1 (by rw [h0]; rfl))
    have hk1 : k = 1 := by
      unfold rHeap at hk
      rw [if_neg h1] at hk
      exact (adv_inj (a := 1) hk).symm
    subst hk1
    refine ⟨fun h => ?_, fun h => ?_⟩
    · unfold rHeap; rw [peek_cut (by omega) hc, if_neg h1, if_neg h1]
    · have hp : rPeek (bs.take c) s = 0 := peek_end (by omega)
      have hl : lebRead (bs.take c) s.at_ 33 true = (0, 0, 10) := by
        rw [lebRead_eq (by simp; omega), List.drop_eq_nil_of_le (by simp; omega)]; rfl
      have hr : rS (bs.take c) 33 s = (0, { s with err := 10, errAt := s.at_ }) := by simp [rS, he, hl, fail_ok he]
      unfold rHeap
      rw [hp, if_pos (by rfl), hr]
      simp [Early]; omega

def ValP (v : ValT) (k : Nat) : Prop := plainVal v = true ∧ (pVal v).length ≤ k ∧ 1 ≤ k

def rValG (a c : Nat) : Pars ValT :=
  if c = 127 then pRet ⟨1, false, ⟨0, 0⟩⟩
  else if c = 126 then pRet ⟨2, false, ⟨0, 0⟩⟩
  else if c = 100 ∨ c = 99 then pTold rHeap ValT.zero fun h => ⟨3, c == 99, h⟩
  else if c = 125 ∨ c = 124 ∨ c = 123 then fun _ s => (ValT.zero, s.refuse 61 a)
  else if givenK c = 0 then fun _ s => (ValT.zero, s.form a)
  else pRet ⟨3, true, ⟨givenK c, 0⟩⟩
theorem rVal_bind : rVal = pBind rByte rValG := by
  funext bs s
  unfold rVal pBind rValG
  generalize (rByte bs s).1 = c
  generalize (rByte bs s).2 = s'
  split
  · rfl
  · split
    · rfl
    · split
      · rfl
      · split
        · rfl
        · split <;> rfl

def ValQ (c : Nat) (v : ValT) (k : Nat) : Prop := plainVal v = true ∧ (pVal v).length ≤ 1 + k
theorem rValG_back (a c : Nat) : Back (rValG a c) (ValQ c) := by
  unfold rValG
  split
  · exact pRet_back ⟨by decide, by decide⟩
  · split
    · exact pRet_back ⟨by decide, by decide⟩
    · split
      · refine (pTold_alike _ _ _).back (pMap_back rHeap_back _ fun h k ⟨h1, h2, _⟩ => ⟨?_, ?_⟩)
        · simpa [plainVal, plainHeap] using h1
        · simp [pVal]
          repeat' split
          all_goals (try simp only [List.length_cons])
          all_goals omega
      · split
        · exact Fails.back (fun bs s he => by show (s.refuse 61 a).err ≠ 0; rw [refuse_err he (by decide)]; decide) _
        · split
          · exact Fails.back (fun bs s he => by show (s.form a).err ≠ 0; rw [form_err he]; decide) _
          · rename_i hg
            obtain ⟨f1, f2, f3, _⟩ := givenK_facts hg
            refine pRet_back ⟨?_, ?_⟩
            · simp [plainVal, givenH, f1, f2]
            · simp only [pVal, pHeap]
              simp
              rw [if_neg (by omega), if_neg (by omega), f3]; simp
theorem rValG_cut (a c : Nat) : Cut (rValG a c) := by
  unfold rValG
  split
  · exact pRet_cut _
  · split
    · exact pRet_cut _
    · split
      · exact (pTold_alike _ _ _).cut (pMap_cut rHeap_cut _)
      · split
        · exact Fails.cut (fun bs s he => by show (s.refuse 61 a).err ≠ 0; rw [refuse_err he (by decide)]; decide)
        · split
          · exact Fails.cut (fun bs s he => by show (s.form a).err ≠ 0; rw [form_err he]; decide)
          · exact pRet_cut _
theorem rValG_stuck0 (a : Nat) : Stuck (rValG a 0) := fun bs s h => by simp [rValG, givenK, form_stuck h]
theorem rVal_stuck : Stuck rVal := fun bs s h => by
  rw [rVal_bind]; unfold pBind
  have h1 := rByte_stuck bs s h
  have h2 : (rByte bs s).1 = 0 := rByte_errz bs s (by rw [h1]; exact h)
  rw [h1, h2]; exact rValG_stuck0 _ bs s h
theorem rByteZ {α : Type} {G : Nat → Nat → Pars α} (h : ∀ a, Stuck (G a 0)) (bs : List UInt8) (s : RdS) (hc : (rByte bs s).2.err ≠ 0) : Stuck (G s.at_ (rByte bs s).1) := by
  rw [rByte_errz bs s hc]; exact h _
theorem rVal_back : Back rVal ValP := by
  rw [rVal_bind]
  refine (Back.bind rByte_back rByte_stuck (rByteZ rValG_stuck0) (fun a x _ _ => rValG_back a x)).mono ?_
  rintro v k ⟨x, k1, k2, rfl, ⟨rfl, _⟩, h1, h2⟩
  exact ⟨h1, h2, by omega⟩
theorem rVal_cut : Cut rVal := by
  rw [rVal_bind]
  exact Cut.bind rByte_back rByte_cut (rByteZ rValG_stuck0) (fun a x _ _ => rValG_back a x) (fun a x _ _ => rValG_cut a x)

/- Lists. -/
inductive All2 {α β : Type} (R : α → β → Prop) : List α → List β → Prop
  | nil : All2 R [] []
  | cons {a : α} {b : β} {l : List α} {m : List β} (h : R a b) (t : All2 R l m) : All2 R (a :: l) (b :: m)

theorem rMany_stuck {α : Type} {F : Pars α} (n : Nat) : Stuck (fun bs s => rMany (F bs) n s) := fun bs s h => by
  cases n <;> simp [rMany, h]

theorem rMany_back {α : Type} {F : Pars α} {P : α → Nat → Prop} (hF : Back F P) (n : Nat) :
    Back (fun bs s => rMany (F bs) n s) fun l k => l.length = n ∧ ∃ ks : List Nat, k = ks.sum ∧ All2 P l ks := by
  induction n with
  | zero => exact fun bs s he ha _ => ⟨0, rfl, by omega, rfl, [], rfl, .nil⟩
  | succ n ih =>
    intro bs s he ha h0
    simp only [rMany, if_pos he] at h0 ⊢
    have h1 : (F bs s).2.err = 0 := by
      by_cases hc : (F bs s).2.err = 0
      · exact hc
      · have := rMany_stuck (F := F) n bs _ hc
        simp only at this
        rw [this] at h0; exact absurd h0 hc
    obtain ⟨k1, e1, l1, p1⟩ := hF bs s he ha h1
    obtain ⟨k2, e2, l2, p2, ks, p3, p4⟩ := ih bs _ h1 (by rw [e1]; exact l1) h0
    simp only at e2 p2 p4
    rw [e1] at l2
    simp at l2
    refine ⟨k1 + k2, by rw [e2, e1, adv_adv], by omega, by simp [p2], k1 :: ks, by simp [p3], .cons p1 p4⟩

theorem rMany_cut {α : Type} {F : Pars α} {P : α → Nat → Prop} (hF : Back F P) (hFc : Cut F) (n : Nat) : Cut (fun bs s => rMany (F bs) n s) := by
  induction n with
  | zero =>
    intro bs s k he ha hk c hac hc
    have : k = 0 := by have := congrArg RdS.at_ hk; simp [rMany] at this; exact this
    subst this
    exact ⟨fun _ => rfl, fun h => by omega⟩
  | succ n ih =>
    intro bs s k he ha hk c hac hc
    have hs := rMany_stuck (F := F) n
    have h1 : (F bs s).2.err = 0 := by
      by_cases h : (F bs s).2.err = 0
      · exact h
      · have h2 := hs bs _ h
        simp only [rMany, if_pos he] at hk h2
        rw [h2] at hk; rw [hk] at h; exact absurd he h
    obtain ⟨k1, e1, l1, p1⟩ := hF bs s he ha h1
    have hk2 : ∃ k2, (rMany (F bs) n (s.adv k1)).2 = (s.adv k1).adv k2 ∧ k = k1 + k2 := by
      simp only [rMany, if_pos he] at hk
      rw [e1] at hk
      obtain ⟨k2, e2, l2, _⟩ := rMany_back hF n bs (s.adv k1) he l1 (by simp only; rw [hk]; exact he)
      simp only at e2
      refine ⟨k2, e2, ?_⟩
      rw [hk, adv_adv] at e2
      exact adv_inj e2
    obtain ⟨k2, e2, rfl⟩ := hk2
    obtain ⟨f1, f2⟩ := hFc bs s k1 he ha e1 c hac hc
    unfold CutAt
    simp only [rMany, if_pos he]
    rcases Nat.lt_or_ge c (s.at_ + k1) with h | h
    · refine ⟨by omega, fun _ => ?_⟩
      have hE := f2 h
      have h3 := hs (bs.take c) (F (bs.take c) s).2 (by rw [hE.1]; decide)
      simp only at h3
      rw [h3]; exact hE
    · have hFe := f1 h
      have h4 := ih bs (s.adv k1) k2 he l1 e2 c (by simpa using h) hc
      unfold CutAt at h4
      simp only [adv_at, Nat.add_assoc] at h4
      rw [hFe, e1]
      refine ⟨fun hh => ?_, fun hh => h4.2 (by omega)⟩
      rw [h4.1 (by omega)]

def pListF {α : Type} (F : Pars α) : Pars (List α) := fun bs s => rList bs (F bs) s
def ListP {α : Type} (pl : α → Bool) (put : α → List UInt8) (l : List α) (k : Nat) : Prop := l.all pl = true ∧ (pList put l).length ≤ k ∧ 1 ≤ k

theorem rCount_inv {bs : List UInt8} {s : RdS} (he : s.err = 0) (ha : s.at_ ≤ bs.length) (h0 : (rCount bs s).2.err = 0) :
    ∃ k1, rCount bs s = rU bs 32 s ∧ (rU bs 32 s).2 = s.adv k1 ∧ s.at_ + k1 ≤ bs.length ∧ (putU (rU bs 32 s).1).length ≤ k1 ∧ (rU bs 32 s).1 ≤ bs.length - (s.at_ + k1) ∧ (rU bs 32 s).1 < 4294967296 := by
  unfold rCount at h0 ⊢
  split at h0
  · rename_i h1
    by_cases h2 : (rU bs 32 s).2.err = 0
    · simp only at h0
      rw [refuse_err h2 (by decide)] at h0
      cases h0
    · rw [rU_errz _ _ _ h2] at h1
      exact absurd h1 (by omega)
  · rename_i h1
    obtain ⟨k1, e, l, p1, p2⟩ := rU_back 32 (by decide) (by decide) bs s he ha h0
    simp only at e p1 p2
    rw [if_neg h1]
    rw [e] at h1
    simp at h1
    exact ⟨k1, rfl, e, l, p1, by omega, by simpa using p2⟩

theorem rCount_stuck : Stuck rCount := fun bs s h => by
  have h1 := rU_stuck 32 bs s h
  simp only at h1
  have h2 : (rU bs 32 s).1 = 0 := by simp [rU, h]
  simp [rCount, h1, h2]
theorem rCount_errz (bs : List UInt8) (s : RdS) (h : (rCount bs s).2.err ≠ 0) : (rCount bs s).1 = 0 := by
  unfold rCount at h ⊢
  split at h
  · rename_i h1; rw [if_pos h1]
  · rename_i h1; rw [if_neg h1]; exact rU_errz _ _ _ h
theorem pListF_stuck {α : Type} (F : Pars α) : Stuck (pListF F) := fun bs s h => by
  have h1 := rCount_stuck bs s h
  unfold pListF rList
  rw [h1]
  exact rMany_stuck (F := F) _ bs s h

theorem sum_ge {α : Type} {P : α → Nat → Prop} (put : α → List UInt8) (h : ∀ x k, P x k → (put x).length ≤ k ∧ 1 ≤ k) {l : List α} {ks : List Nat} (hf : All2 P l ks) : (l.flatMap put).length ≤ ks.sum ∧ l.length ≤ ks.sum := by
  induction hf with
  | nil => simp
  | cons hp _ ih => have := h _ _ hp; simp only [List.flatMap_cons, List.length_append, List.length_cons, List.sum_cons]; omega
theorem forall_all {α : Type} {P : α → Nat → Prop} (pl : α → Bool) (h : ∀ x k, P x k → pl x = true) {l : List α} {ks : List Nat} (hf : All2 P l ks) : l.all pl = true := by
  induction hf with
  | nil => rfl
  | cons hp _ ih => simp [h _ _ hp]; simpa using ih

theorem pListF_back {α : Type} {F : Pars α} {P : α → Nat → Prop} {pl : α → Bool} {put : α → List UInt8} (hF : Back F P) (hP : ∀ x k, P x k → pl x = true ∧ (put x).length ≤ k ∧ 1 ≤ k) :
    Back (pListF F) (ListP pl put) := fun bs s he ha h0 => by
  unfold pListF rList at h0 ⊢
  simp only at h0 ⊢
  have h1 : (rCount bs s).2.err = 0 := by
    by_cases h : (rCount bs s).2.err = 0
    · exact h
    · have := rMany_stuck (F := F) (rCount bs s).1 bs _ h
      simp only at this
      rw [this] at h0; exact absurd h0 h
  obtain ⟨k1, e0, e1, l1, p1, p2, p3⟩ := rCount_inv he ha h1
  rw [e0, e1] at h0 ⊢
  obtain ⟨k2, e2, l2, q1, ks, q2, q3⟩ := rMany_back hF _ bs (s.adv k1) he l1 h0
  simp only at e2 q1 q3
  simp at l2
  have hs := sum_ge put (fun x k h => (hP x k h).2) q3
  refine ⟨k1 + k2, by rw [e2, adv_adv], by omega, ?_⟩
  simp only [RdS.told, if_pos h0]
  refine ⟨forall_all pl (fun x k h => (hP x k h).1) q3, ?_, by have := putU_pos (rU bs 32 s).1; omega⟩
  simp only [pList, List.length_append, q1]
  omega

theorem pListF_cut {α : Type} {F : Pars α} {P : α → Nat → Prop} (hF : Back F P) (hFc : Cut F) (hP : ∀ x k, P x k → 1 ≤ k) : Cut (pListF F) := fun bs s k he ha hk c hac hc => by
  unfold pListF rList at hk
  simp only at hk
  have h1 : (rCount bs s).2.err = 0 := by
    by_cases h : (rCount bs s).2.err = 0
    · exact h
    · have := rMany_stuck (F := F) (rCount bs s).1 bs _ h
      simp only at this
      rw [this] at hk; rw [hk] at h; exact absurd he h
  obtain ⟨k1, e0, e1, l1, p1, p2, p3⟩ := rCount_inv he ha h1
  rw [e0, e1] at hk
  obtain ⟨k2, e2, l2, q1, ks, q2, q3⟩ := rMany_back hF _ bs (s.adv k1) he l1 (by simp only; rw [hk]; exact he)
  simp only at e2 q1 q3
  simp at l2
  have hs := sum_ge (fun _ => []) (fun x k h => ⟨by simp, hP x k h⟩) q3
  have hkk : k = k1 + k2 := by rw [hk, adv_adv] at e2; exact adv_inj e2
  subst hkk
  obtain ⟨u1, u2⟩ := rU_cut 32 bs s k1 he ha e1 c hac hc
  simp only at u1 u2
  have hst := fun n => rMany_stuck (F := F) n
  have hE0 : pListF F bs s = ((rMany (F bs) (rU bs 32 s).1 (s.adv k1)).1, (s.adv k1).adv k2) := by
    unfold pListF rList
    rw [e0, e1, e2]
    simp [RdS.told, he]
  rcases Nat.lt_or_ge c (s.at_ + k1) with h | h
  · refine ⟨by omega, fun _ => ?_⟩
    have hE := u2 h
    have h3 : (rU (bs.take c) 32 s).2.err ≠ 0 := by rw [hE.1]; decide
    have h4 := rU_errz _ _ _ h3
    have h5 : rCount (bs.take c) s = rU (bs.take c) 32 s := by unfold rCount; rw [h4]; simp
    unfold pListF rList
    rw [h5]
    have h6 := hst (rU (bs.take c) 32 s).1 (bs.take c) (rU (bs.take c) 32 s).2 h3
    simp only at h6
    rw [h6]; exact hE
  · have hu := u1 h
    have hl : (bs.take c).length = c := by simp; omega
    by_cases hn : c - (s.at_ + k1) < (rU bs 32 s).1
    · refine ⟨by omega, fun _ => ?_⟩
      have h5 : rCount (bs.take c) s = (0, (s.adv k1).refuse 10 s.at_) := by
        unfold rCount; rw [hu, hl, e1, if_pos (by simpa using hn)]
      unfold pListF rList
      rw [h5]
      simp [rMany, RdS.refuse, fail_ok (s := s.adv k1) he (e := 10) (by decide), Early]
      omega
    · have h5 : rCount (bs.take c) s = rU bs 32 s := by
        unfold rCount; rw [hu, hl, e1, if_neg (by simpa using hn)]
      have h6 := rMany_cut hF hFc (rU bs 32 s).1 bs (s.adv k1) k2 he l1 e2 c (by simpa using h) hc
      unfold CutAt at h6
      simp only [adv_at] at h6
      refine ⟨fun hh => ?_, fun hh => ?_⟩
      · rw [hE0]
        unfold pListF rList
        rw [h5, e1, h6.1 (by omega), e2]
        simp [RdS.told, he]
      · unfold pListF rList
        rw [h5, e1]
        exact h6.2 (by omega)

theorem rVals_stuck : Stuck rVals := pListF_stuck rVal
theorem rVals_back : Back rVals (ListP plainVal pVal) := pListF_back rVal_back fun _ _ h => h
theorem rVals_cut : Cut rVals := pListF_cut rVal_back rVal_cut fun _ _ h => h.2.2

end Go.Proofs.YtokneepfknepaaaDoor
