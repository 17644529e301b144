/- Laws of layer 6, the second part: heap types, value types, lists, fields, declared types, groups. The walks of layer 6, the fourth part: heap types and value types are read. The walks of layer 6, the fifth part: value types are read. The walks of layer 6, the sixth part: lists are read. The walks of layer 6, the seventh part: supers and fields, and lists of them. The walks of layer 6, the eighth part: fields. The walks of layer 6, the ninth part: composite types. The walks of layer 6: a reader is opened. What every law's statement is closed by: the table of heap types out of the condition, and what the statement asks of the world behind the call. The walks of layer 6: what is put, the first part: heap types, value types. The walks of layer 6: what is put, the second part: value types, and what is plain. -/
import Derived.Test.YtokneepfknepaaaDoorG1
import Derived.Lib.SliceRun
import Derived.Test.YtokneepfknepaaaDoorCards
import Derived.Test.YtokneepfknepaaaDoorTie
import Derived.WalkKit
import Derived.ProofKit
import Derived.OpenShut
import Derived.Deep.DeepHandedRow
import Derived.Lib.LaidTab
set_option linter.unusedSimpArgs false
set_option linter.unusedVariables false
namespace Go.Proofs.YtokneepfknepaaaDoor

/-- The value behind an error is z. -/
def pTold {α β : Type} (F : Pars α) (z : β) (m : α → β) : Pars β := fun bs s => ((F bs s).2.told z (m (F bs s).1), (F bs s).2)
theorem pTold_alike {α β : Type} (F : Pars α) (z : β) (m : α → β) : Alike (pTold F z m) (pMap F m) := fun bs s => ⟨rfl, fun h => by
  have h : (F bs s).2.err = 0 := h
  simp [pTold, pMap, RdS.told, h]⟩
theorem pMap_stuck {α β : Type} {F : Pars α} (h : Stuck F) (m : α → β) : Stuck (pMap F m) := h

theorem peek_stuck {s : RdS} (bs : List UInt8) (h : s.err ≠ 0) : rPeek bs s = 0 := by simp [rPeek, h]
theorem peek_pos {s : RdS} {bs : List UInt8} (h : rPeek bs s ≠ 0) : s.err = 0 ∧ s.at_ < bs.length ∧ rPeek bs s = (bs.getD s.at_ 0).toNat := by
  unfold rPeek at h ⊢
  split at h
  · rename_i hc; rw [if_pos hc]; exact ⟨hc.1, hc.2, rfl⟩
  · exact absurd rfl h
theorem peek_cut {bs : List UInt8} {s : RdS} {c : Nat} (h : s.at_ < c) (hc : c ≤ bs.length) : rPeek (bs.take c) s = rPeek bs s := by
  unfold rPeek
  rw [take_getD _ _ _ h]
  have h1 : (s.at_ < (bs.take c).length) := by simp; omega
  have h2 : s.at_ < bs.length := by omega
  by_cases he : s.err = 0
  · rw [if_pos ⟨he, h1⟩, if_pos ⟨he, h2⟩]
  · rw [if_neg (fun h => he h.1), if_neg (fun h => he h.1)]
theorem peek_end {bs : List UInt8} {s : RdS} {c : Nat} (h : c ≤ s.at_) : rPeek (bs.take c) s = 0 := by
  unfold rPeek
  rw [if_neg]
  simp; omega

theorem givenK_lt {c : Nat} (h : givenK c ≠ 0) : 105 ≤ c ∧ c ≤ 116 := by
  unfold givenK at h
  split at h
  · exact absurd rfl h
  · omega
theorem givenK_facts {c : Nat} (h : givenK c ≠ 0) : 1 ≤ givenK c ∧ givenK c ≤ 12 ∧ heapByte (givenK c) = [UInt8.ofNat c] ∧ (UInt8.ofNat c).toNat = c := by
  have h2 := givenK_lt h
  have : c = 105 ∨ c = 106 ∨ c = 107 ∨ c = 108 ∨ c = 109 ∨ c = 110 ∨ c = 111 ∨ c = 112 ∨ c = 113 ∨ c = 114 ∨ c = 115 ∨ c = 116 := by omega
  rcases this with rfl | rfl | rfl | rfl | rfl | rfl | rfl | rfl | rfl | rfl | rfl | rfl <;> decide

def plainHeap (h : HeapT) : Bool := givenH h || indexedH h
def HeapP (h : HeapT) (k : Nat) : Prop := plainHeap h = true ∧ (pHeap h).length ≤ k ∧ 1 ≤ k

theorem rHeap_stuck : Stuck rHeap := fun bs s h => by
  unfold rHeap
  have h2 := rS_stuck 33 bs s h
  simp only at h2
  have h1 : (rS bs 33 s).1 = 0 := by simp [rS, h]
  simp [peek_stuck bs h, givenK, h1, h2]
theorem rHeap_errz (bs : List UInt8) (s : RdS) (h : (rHeap bs s).2.err ≠ 0) : (rHeap bs s).1 = HeapT.zero := by
  unfold rHeap at h ⊢
  split at h
  · rename_i h1
    rw [if_pos h1]
    split at h
    · rename_i h2; rw [if_pos h2]
    · rename_i h2; rw [if_neg h2]; simp at h; simp [RdS.told, h]
  · rename_i h1
    have := peek_pos (s := s) (bs := bs) (fun h0 => h1 (by rw [h0]; rfl))
    exact absurd this.1 h
theorem rHeap_back : Back rHeap HeapP := fun bs s he ha h0 => by
  unfold rHeap at h0 ⊢
  split at h0
  · rename_i h1
    simp only [if_pos h1]
    split at h0
    · rename_i h2
      by_cases h3 : (rS bs 33 s).2.err = 0
      · rw [show ((rS bs 33 s).2.refuse 60 s.at_).err = 60 from refuse_err h3 (by decide) _] at h0
        cases h0
      · rw [rS_errz bs 33 s h3] at h2
        exact absurd h2 (by decide)
    · rename_i h2
      simp only [if_neg h2]
      obtain ⟨k, e, l, p1, p2, p3⟩ := rS_back 33 (by decide) (by decide) bs s he ha h0
      simp only at e p1 p2 p3
      refine ⟨k, e, l, ?_⟩
      have h0' : (rS bs 33 s).2.err = 0 := h0
      simp only [RdS.told, if_pos h0', HeapP]
      refine ⟨?_, by simpa [pHeap] using p1, by have := putS_pos (rS bs 33 s).1; omega⟩
      simp only [plainHeap, indexedH, Bool.or_eq_true, decide_eq_true_eq]
      right
      have p3 : (rS bs 33 s).1 < 4294967296 := by simpa using p3
      refine ⟨trivial, by omega, by omega⟩
  · rename_i h1
    simp only [if_neg h1]
    have := peek_pos (s := s) (bs := bs) (fun h0 => h1 (by rw [h0]; rfl))
    obtain ⟨f1, f2, f3, _⟩ := givenK_facts h1
    refine ⟨1, rfl, by omega, ?_, ?_, by omega⟩
    · simp [plainHeap, givenH, f1, f2]
    · simp only [pHeap]
      rw [if_neg (by omega), f3]; simp
theorem rHeap_cut : Cut rHeap := fun bs s k he ha hk c hac hc => by
  by_cases h1 : givenK (rPeek bs s) = 0
  · have hS : (rHeap bs s).2.err = 0 := by rw [hk]; exact he
    have h2 : ¬ (rS bs 33 s).1 < 0 := by
      intro h2
      unfold rHeap at hS
      rw [if_pos h1, if_pos h2] at hS
      by_cases h3 : (rS bs 33 s).2.err = 0
      · rw [show ((rS bs 33 s).2.refuse 60 s.at_).err = 60 from refuse_err h3 (by decide) _] at hS
        cases hS
      · rw [rS_errz bs 33 s h3] at h2
        exact absurd h2 (by decide)
    have hk2 : (rS bs 33 s).2 = s.adv k := by
      unfold rHeap at hk
      rw [if_pos h1, if_neg h2] at hk
      exact hk
    have hp : givenK (rPeek (bs.take c) s) = 0 := by
      rcases Nat.lt_or_ge s.at_ c with h | h
      · rw [peek_cut h hc]; exact h1
      · rw [peek_end h]; rfl
    obtain ⟨a, b⟩ := rS_cut 33 bs s k he ha hk2 c hac hc
    refine ⟨fun h => ?_, fun h => ?_⟩
    · have a := a h
      simp only at a
      unfold rHeap
      rw [if_pos h1, if_pos hp, a]
    · have b := b h
      simp only at b
      have h3 : (rS (bs.take c) 33 s).2.err ≠ 0 := by rw [b.1]; decide
      have h4 := rS_errz _ _ _ h3
      unfold rHeap
      rw [if_pos hp, if_neg (by rw [h4]; decide)]
      exact b
  · have h2 := peek_pos (s := s) (bs := bs) (fun h0 => h1 (by rw [h0]; rfl))
    have hk1 : k = 1 := by
      unfold rHeap at hk
      rw [if_neg h1] at hk
      exact (adv_inj (a := 1) hk).symm
    subst hk1
    refine ⟨fun h => ?_, fun h => ?_⟩
    · unfold rHeap; rw [peek_cut (by omega) hc, if_neg h1, if_neg h1]
    · have hp : rPeek (bs.take c) s = 0 := peek_end (by omega)
      have hl : lebRead (bs.take c) s.at_ 33 true = (0, 0, 10) := by
        rw [lebRead_eq (by simp; omega), List.drop_eq_nil_of_le (by simp; omega)]; rfl
      have hr : rS (bs.take c) 33 s = (0, { s with err := 10, errAt := s.at_ }) := by simp [rS, he, hl, fail_ok he]
      unfold rHeap
      rw [hp, if_pos (by rfl), hr]
      simp [Early]; omega

def ValP (v : ValT) (k : Nat) : Prop := plainVal v = true ∧ (pVal v).length ≤ k ∧ 1 ≤ k

def rValG (a c : Nat) : Pars ValT :=
  if c = 127 then pRet ⟨1, false, ⟨0, 0⟩⟩
  else if c = 126 then pRet ⟨2, false, ⟨0, 0⟩⟩
  else if c = 100 ∨ c = 99 then pTold rHeap ValT.zero fun h => ⟨3, c == 99, h⟩
  else if c = 125 ∨ c = 124 ∨ c = 123 then fun _ s => (ValT.zero, s.refuse 61 a)
  else if givenK c = 0 then fun _ s => (ValT.zero, s.form a)
  else pRet ⟨3, true, ⟨givenK c, 0⟩⟩
theorem rVal_bind : rVal = pBind rByte rValG := by
  funext bs s
  unfold rVal pBind rValG
  generalize (rByte bs s).1 = c
  generalize (rByte bs s).2 = s'
  split
  · rfl
  · split
    · rfl
    · split
      · rfl
      · split
        · rfl
        · split <;> rfl

def ValQ (c : Nat) (v : ValT) (k : Nat) : Prop := plainVal v = true ∧ (pVal v).length ≤ 1 + k
theorem rValG_back (a c : Nat) : Back (rValG a c) (ValQ c) := by
  unfold rValG
  split
  · exact pRet_back ⟨by decide, by decide⟩
  · split
    · exact pRet_back ⟨by decide, by decide⟩
    · split
      · refine (pTold_alike _ _ _).back (pMap_back rHeap_back _ fun h k ⟨h1, h2, _⟩ => ⟨?_, ?_⟩)
        · simpa [plainVal, plainHeap] using h1
        · simp [pVal]
          repeat' split
          all_goals (try simp only [List.length_cons])
          all_goals omega
      · split
        · exact Fails.back (fun bs s he => by show (s.refuse 61 a).err ≠ 0; rw [refuse_err he (by decide)]; decide) _
        · split
          · exact Fails.back (fun bs s he => by show (s.form a).err ≠ 0; rw [form_err he]; decide) _
          · rename_i hg
            obtain ⟨f1, f2, f3, _⟩ := givenK_facts hg
            refine pRet_back ⟨?_, ?_⟩
            · simp [plainVal, givenH, f1, f2]
            · simp only [pVal, pHeap]
              simp
              rw [if_neg (by omega), if_neg (by omega), f3]; simp
theorem rValG_cut (a c : Nat) : Cut (rValG a c) := by
  unfold rValG
  split
  · exact pRet_cut _
  · split
    · exact pRet_cut _
    · split
      · exact (pTold_alike _ _ _).cut (pMap_cut rHeap_cut _)
      · split
        · exact Fails.cut (fun bs s he => by show (s.refuse 61 a).err ≠ 0; rw [refuse_err he (by decide)]; decide)
        · split
          · exact Fails.cut (fun bs s he => by show (s.form a).err ≠ 0; rw [form_err he]; decide)
          · exact pRet_cut _
theorem rValG_stuck0 (a : Nat) : Stuck (rValG a 0) := fun bs s h => by simp [rValG, givenK, form_stuck h]
theorem rVal_stuck : Stuck rVal := fun bs s h => by
  rw [rVal_bind]; unfold pBind
  have h1 := rByte_stuck bs s h
  have h2 : (rByte bs s).1 = 0 := rByte_errz bs s (by rw [h1]; exact h)
  rw [h1, h2]; exact rValG_stuck0 _ bs s h
theorem rByteZ {α : Type} {G : Nat → Nat → Pars α} (h : ∀ a, Stuck (G a 0)) (bs : List UInt8) (s : RdS) (hc : (rByte bs s).2.err ≠ 0) : Stuck (G s.at_ (rByte bs s).1) := by
  rw [rByte_errz bs s hc]; exact h _
theorem rVal_back : Back rVal ValP := by
  rw [rVal_bind]
  refine (Back.bind rByte_back rByte_stuck (rByteZ rValG_stuck0) (fun a x _ _ => rValG_back a x)).mono ?_
  rintro v k ⟨x, k1, k2, rfl, ⟨rfl, _⟩, h1, h2⟩
  exact ⟨h1, h2, by omega⟩
theorem rVal_cut : Cut rVal := by
  rw [rVal_bind]
  exact Cut.bind rByte_back rByte_cut (rByteZ rValG_stuck0) (fun a x _ _ => rValG_back a x) (fun a x _ _ => rValG_cut a x)

/- Lists. -/
inductive All2 {α β : Type} (R : α → β → Prop) : List α → List β → Prop
  | nil : All2 R [] []
  | cons {a : α} {b : β} {l : List α} {m : List β} (h : R a b) (t : All2 R l m) : All2 R (a :: l) (b :: m)

theorem rMany_stuck {α : Type} {F : Pars α} (n : Nat) : Stuck (fun bs s => rMany (F bs) n s) := fun bs s h => by
  cases n <;> simp [rMany, h]

theorem rMany_back {α : Type} {F : Pars α} {P : α → Nat → Prop} (hF : Back F P) (n : Nat) :
    Back (fun bs s => rMany (F bs) n s) fun l k => l.length = n ∧ ∃ ks : List Nat, k = ks.sum ∧ All2 P l ks := by
  induction n with
  | zero => exact fun bs s he ha _ => ⟨0, rfl, by omega, rfl, [], rfl, .nil⟩
  | succ n ih =>
    intro bs s he ha h0
    simp only [rMany, if_pos he] at h0 ⊢
    have h1 : (F bs s).2.err = 0 := by
      by_cases hc : (F bs s).2.err = 0
      · exact hc
      · have := rMany_stuck (F := F) n bs _ hc
        simp only at this
        rw [this] at h0; exact absurd h0 hc
    obtain ⟨k1, e1, l1, p1⟩ := hF bs s he ha h1
    obtain ⟨k2, e2, l2, p2, ks, p3, p4⟩ := ih bs _ h1 (by rw [e1]; exact l1) h0
    simp only at e2 p2 p4
    rw [e1] at l2
    simp at l2
    refine ⟨k1 + k2, by rw [e2, e1, adv_adv], by omega, by simp [p2], k1 :: ks, by simp [p3], .cons p1 p4⟩

theorem rMany_cut {α : Type} {F : Pars α} {P : α → Nat → Prop} (hF : Back F P) (hFc : Cut F) (n : Nat) : Cut (fun bs s => rMany (F bs) n s) := by
  induction n with
  | zero =>
    intro bs s k he ha hk c hac hc
    have : k = 0 := by have := congrArg RdS.at_ hk; simp [rMany] at this; exact this
    subst this
    exact ⟨fun _ => rfl, fun h => by omega⟩
  | succ n ih =>
    intro bs s k he ha hk c hac hc
    have hs := rMany_stuck (F := F) n
    have h1 : (F bs s).2.err = 0 := by
      by_cases h : (F bs s).2.err = 0
      · exact h
      · have h2 := hs bs _ h
        simp only [rMany, if_pos he] at hk h2
        rw [h2] at hk; rw [hk] at h; exact absurd he h
    obtain ⟨k1, e1, l1, p1⟩ := hF bs s he ha h1
    have hk2 : ∃ k2, (rMany (F bs) n (s.adv k1)).2 = (s.adv k1).adv k2 ∧ k = k1 + k2 := by
      simp only [rMany, if_pos he] at hk
      rw [e1] at hk
      obtain ⟨k2, e2, l2, _⟩ := rMany_back hF n bs (s.adv k1) he l1 (by simp only; rw [hk]; exact he)
      simp only at e2
      refine ⟨k2, e2, ?_⟩
      rw [hk, adv_adv] at e2
      exact adv_inj e2
    obtain ⟨k2, e2, rfl⟩ := hk2
    obtain ⟨f1, f2⟩ := hFc bs s k1 he ha e1 c hac hc
    unfold CutAt
    simp only [rMany, if_pos he]
    rcases Nat.lt_or_ge c (s.at_ + k1) with h | h
    · refine ⟨by omega, fun _ => ?_⟩
      have hE := f2 h
      have h3 := hs (bs.take c) (F (bs.take c) s).2 (by rw [hE.1]; decide)
      simp only at h3
      rw [h3]; exact hE
    · have hFe := f1 h
      have h4 := ih bs (s.adv k1) k2 he l1 e2 c (by simpa using h) hc
      unfold CutAt at h4
      simp only [adv_at, Nat.add_assoc] at h4
      rw [hFe, e1]
      refine ⟨fun hh => ?_, fun hh => h4.2 (by omega)⟩
      rw [h4.1 (by omega)]

def pListF {α : Type} (F : Pars α) : Pars (List α) := fun bs s => rList bs (F bs) s
def ListP {α : Type} (pl : α → Bool) (put : α → List UInt8) (l : List α) (k : Nat) : Prop := l.all pl = true ∧ (pList put l).length ≤ k ∧ 1 ≤ k

theorem rCount_inv {bs : List UInt8} {s : RdS} (he : s.err = 0) (ha : s.at_ ≤ bs.length) (h0 : (rCount bs s).2.err = 0) :
    ∃ k1, rCount bs s = rU bs 32 s ∧ (rU bs 32 s).2 = s.adv k1 ∧ s.at_ + k1 ≤ bs.length ∧ (putU (rU bs 32 s).1).length ≤ k1 ∧ (rU bs 32 s).1 ≤ bs.length - (s.at_ + k1) ∧ (rU bs 32 s).1 < 4294967296 := by
  unfold rCount at h0 ⊢
  split at h0
  · rename_i h1
    by_cases h2 : (rU bs 32 s).2.err = 0
    · simp only at h0
      rw [refuse_err h2 (by decide)] at h0
      cases h0
    · rw [rU_errz _ _ _ h2] at h1
      exact absurd h1 (by omega)
  · rename_i h1
    obtain ⟨k1, e, l, p1, p2⟩ := rU_back 32 (by decide) (by decide) bs s he ha h0
    simp only at e p1 p2
    rw [if_neg h1]
    rw [e] at h1
    simp at h1
    exact ⟨k1, rfl, e, l, p1, by omega, by simpa using p2⟩

theorem rCount_stuck : Stuck rCount := fun bs s h => by
  have h1 := rU_stuck 32 bs s h
  simp only at h1
  have h2 : (rU bs 32 s).1 = 0 := by simp [rU, h]
  simp [rCount, h1, h2]
theorem rCount_errz (bs : List UInt8) (s : RdS) (h : (rCount bs s).2.err ≠ 0) : (rCount bs s).1 = 0 := by
  unfold rCount at h ⊢
  split at h
  · rename_i h1; rw [if_pos h1]
  · rename_i h1; rw [if_neg h1]; exact rU_errz _ _ _ h
theorem pListF_stuck {α : Type} (F : Pars α) : Stuck (pListF F) := fun bs s h => by
  have h1 := rCount_stuck bs s h
  unfold pListF rList
  rw [h1]
  exact rMany_stuck (F := F) _ bs s h

theorem sum_ge {α : Type} {P : α → Nat → Prop} (put : α → List UInt8) (h : ∀ x k, P x k → (put x).length ≤ k ∧ 1 ≤ k) {l : List α} {ks : List Nat} (hf : All2 P l ks) : (l.flatMap put).length ≤ ks.sum ∧ l.length ≤ ks.sum := by
  induction hf with
  | nil => simp
  | cons hp _ ih => have := h _ _ hp; simp only [List.flatMap_cons, List.length_append, List.length_cons, List.sum_cons]; omega
theorem forall_all {α : Type} {P : α → Nat → Prop} (pl : α → Bool) (h : ∀ x k, P x k → pl x = true) {l : List α} {ks : List Nat} (hf : All2 P l ks) : l.all pl = true := by
  induction hf with
  | nil => rfl
  | cons hp _ ih => simp [h _ _ hp]; simpa using ih

theorem pListF_back {α : Type} {F : Pars α} {P : α → Nat → Prop} {pl : α → Bool} {put : α → List UInt8} (hF : Back F P) (hP : ∀ x k, P x k → pl x = true ∧ (put x).length ≤ k ∧ 1 ≤ k) :
    Back (pListF F) (ListP pl put) := fun bs s he ha h0 => by
  unfold pListF rList at h0 ⊢
  simp only at h0 ⊢
  have h1 : (rCount bs s).2.err = 0 := by
    by_cases h : (rCount bs s).2.err = 0
    · exact h
    · have := rMany_stuck (F := F) (rCount bs s).1 bs _ h
      simp only at this
      rw [this] at h0; exact absurd h0 h
  obtain ⟨k1, e0, e1, l1, p1, p2, p3⟩ := rCount_inv he ha h1
  rw [e0, e1] at h0 ⊢
  obtain ⟨k2, e2, l2, q1, ks, q2, q3⟩ := rMany_back hF _ bs (s.adv k1) he l1 h0
  simp only at e2 q1 q3
  simp at l2
  have hs := sum_ge put (fun x k h => (hP x k h).2) q3
  refine ⟨k1 + k2, by rw [e2, adv_adv], by omega, ?_⟩
  simp only [RdS.told, if_pos h0]
  refine ⟨forall_all pl (fun x k h => (hP x k h).1) q3, ?_, by have := putU_pos (rU bs 32 s).1; omega⟩
  simp only [pList, List.length_append, q1]
  omega

theorem pListF_cut {α : Type} {F : Pars α} {P : α → Nat → Prop} (hF : Back F P) (hFc : Cut F) (hP : ∀ x k, P x k → 1 ≤ k) : Cut (pListF F) := fun bs s k he ha hk c hac hc => by
  unfold pListF rList at hk
  simp only at hk
  have h1 : (rCount bs s).2.err = 0 := by
    by_cases h : (rCount bs s).2.err = 0
    · exact h
    · have := rMany_stuck (F := F) (rCount bs s).1 bs _ h
      simp only at this
      rw [this] at hk; rw [hk] at h; exact absurd he h
  obtain ⟨k1, e0, e1, l1, p1, p2, p3⟩ := rCount_inv he ha h1
  rw [e0, e1] at hk
  obtain ⟨k2, e2, l2, q1, ks, q2, q3⟩ := rMany_back hF _ bs (s.adv k1) he l1 (by simp only; rw [hk]; exact he)
  simp only at e2 q1 q3
  simp at l2
  have hs := sum_ge (fun _ => []) (fun x k h => ⟨by simp, hP x k h⟩) q3
  have hkk : k = k1 + k2 := by rw [hk, adv_adv] at e2; exact adv_inj e2
  subst hkk
  obtain ⟨u1, u2⟩ := rU_cut 32 bs s k1 he ha e1 c hac hc
  simp only at u1 u2
  have hst := fun n => rMany_stuck (F := F) n
  have hE0 : pListF F bs s = ((rMany (F bs) (rU bs 32 s).1 (s.adv k1)).1, (s.adv k1).adv k2) := by
    unfold pListF rList
    rw [e0, e1, e2]
    simp [RdS.told, he]
  rcases Nat.lt_or_ge c (s.at_ + k1) with h | h
  · refine ⟨by omega, fun _ => ?_⟩
    have hE := u2 h
    have h3 : (rU (bs.take c) 32 s).2.err ≠ 0 := by rw [hE.1]; decide
    have h4 := rU_errz _ _ _ h3
    have h5 : rCount (bs.take c) s = rU (bs.take c) 32 s := by unfold rCount; rw [h4]; simp
    unfold pListF rList
    rw [h5]
    have h6 := hst (rU (bs.take c) 32 s).1 (bs.take c) (rU (bs.take c) 32 s).2 h3
    simp only at h6
    rw [h6]; exact hE
  · have hu := u1 h
    have hl : (bs.take c).length = c := by simp; omega
    by_cases hn : c - (s.at_ + k1) < (rU bs 32 s).1
    · refine ⟨by omega, fun _ => ?_⟩
      have h5 : rCount (bs.take c) s = (0, (s.adv k1).refuse 10 s.at_) := by
        unfold rCount; rw [hu, hl, e1, if_pos (by simpa using hn)]
      unfold pListF rList
      rw [h5]
      simp [rMany, RdS.refuse, fail_ok (s := s.adv k1) he (e := 10) (by decide), Early]
      omega
    · have h5 : rCount (bs.take c) s = rU bs 32 s := by
        unfold rCount; rw [hu, hl, e1, if_neg (by simpa using hn)]
      have h6 := rMany_cut hF hFc (rU bs 32 s).1 bs (s.adv k1) k2 he l1 e2 c (by simpa using h) hc
      unfold CutAt at h6
      simp only [adv_at] at h6
      refine ⟨fun hh => ?_, fun hh => ?_⟩
      · rw [hE0]
        unfold pListF rList
        rw [h5, e1, h6.1 (by omega), e2]
        simp [RdS.told, he]
      · unfold pListF rList
        rw [h5, e1]
        exact h6.2 (by omega)

theorem rVals_stuck : Stuck rVals := pListF_stuck rVal
theorem rVals_back : Back rVals (ListP plainVal pVal) := pListF_back rVal_back fun _ _ h => h
theorem rVals_cut : Cut rVals := pListF_cut rVal_back rVal_cut fun _ _ h => h.2.2

end Go.Proofs.YtokneepfknepaaaDoor

set_option linter.unusedSimpArgs false
set_option linter.unusedVariables false
namespace Go.Proofs.YtokneepfknepaaaDoor
open Go.RowKit

def heapV (h : HeapT) : Value := .agg #[.int .i64 h.kind, .int .i64 h.n]
def valV (v : ValT) : Value := .agg #[.int .i64 v.kind, .bool v.null, .int .i64 v.heap.kind, .int .i64 v.heap.n]
attribute [go_sem] heapV valV

set_option maxRecDepth 100000 in
set_option maxHeartbeats 400000 in
theorem given_any {S : List Nat} {w : World} (hg : Gl S w) (c : Nat) (hc : c < 256) :
    Calls Tryd.prog 57 #[.int .u8 c] w fun e w' => e = .returned (.tuple #[heapV ⟨givenK c, 0⟩, .bool (decide (105 ≤ c ∧ c < 117))]) ∧ Fr [] w w' := by
  by_cases h1 : 105 ≤ c ∧ c < 117
  · have hcell := fun o : Obj => (World.cell?_alloc_lt w o ⟨0, c - 105, none⟩ hg.lt).trans (hg.cell (c - 105) (by omega))
    have hk : givenK c = heapsL.getD (c - 105) 0 := by unfold givenK; rw [if_neg (by omega)]
    have hd : decide (105 ≤ c ∧ c < 117) = true := by simpa using h1
    rw [hd, hk]
    generalize heapsL.getD (c - 105) 0 = k at hcell ⊢
    have hi : ((c : Int) - 105).toNat = c - 105 := by omega
    clear hk hd
    obtain ⟨h1a, h1b⟩ := h1
    go_enter Tryd.func57, Tryd.ntmps57
    go_wp2
    refine bodyPost_ret (v := .tuple #[heapV ⟨k, 0⟩, .bool true]) (by simp [results, Tryd.results57, go_sem]) rfl ⟨rfl, ?_⟩
    repeat (first | (with_reducible exact Fr.refl _ _) | (with_reducible assumption) | (with_reducible apply Fr.alloc) | (with_reducible apply Fr.drew) | (with_reducible apply Fr.drewN) | (with_reducible refine Fr.setCell ?_ (by first | (left; simp; done) | (right; simp; done) | (right; simp; omega)) _))
  · have hk : givenK c = 0 := by unfold givenK; rw [if_pos (by omega)]
    have hd : decide (105 ≤ c ∧ c < 117) = false := by simpa using h1
    rw [hd, hk]
    clear hk hd
    go_enter Tryd.func57, Tryd.ntmps57
    go_wp2
    all_goals
      refine bodyPost_ret (v := .tuple #[heapV ⟨0, 0⟩, .bool false]) (by simp [results, Tryd.results57, go_sem]) rfl ⟨rfl, ?_⟩
      repeat (first | (with_reducible exact Fr.refl _ _) | (with_reducible assumption) | (with_reducible apply Fr.alloc) | (with_reducible apply Fr.drew) | (with_reducible apply Fr.drewN) | (with_reducible refine Fr.setCell ?_ (by first | (left; simp; done) | (right; simp; done) | (right; simp; omega)) _))

set_option maxRecDepth 100000 in
set_option maxHeartbeats 400000 in
theorem told_heap {S : List Nat} {w : World} {rb : Nat} {bv : Value} {bs : List UInt8} {s : RdS} (h : Rd S w rb bv bs s) (x : HeapT) :
    Calls Tryd.prog 58 #[.pointer (some ⟨rb, 0, none⟩), heapV x] w fun e w' => e = .returned (heapV (s.told HeapT.zero x)) ∧ Fr [] w w' := by
  have hR := fun o1 o2 => (h.alloc o1).alloc o2
  by_cases he : s.err = 0
  · have g1 : (s.err == 0) = true := by simp [he]
    have ht : s.told HeapT.zero x = x := by simp [RdS.told, he]
    rw [ht]
    unfold heapV
    clear ht he
    go_enter Tryd.func58, Tryd.ntmps58
    go_wp2_with (go_at_call 45; refine (rd_reads (hR _ _)).mono ?_; rintro e w' ⟨rfl, rfl⟩)
    refine bodyPost_ret (v := heapV x) (by simp [results, Tryd.results58, go_sem]) rfl ⟨rfl, ?_⟩
    repeat (first | (with_reducible exact Fr.refl _ _) | (with_reducible assumption) | (with_reducible apply Fr.alloc) | (with_reducible apply Fr.drew) | (with_reducible apply Fr.drewN) | (with_reducible refine Fr.setCell ?_ (by first | (left; simp; done) | (right; simp; done) | (right; simp; omega)) _))
  · have g1 : (s.err == 0) = false := by simp [he]
    have ht : s.told HeapT.zero x = HeapT.zero := by simp [RdS.told, he]
    rw [ht]
    unfold heapV
    clear ht he
    go_enter Tryd.func58, Tryd.ntmps58
    go_wp2_with (go_at_call 45; refine (rd_reads (hR _ _)).mono ?_; rintro e w' ⟨rfl, rfl⟩)
    refine bodyPost_ret (v := heapV HeapT.zero) (by simp [results, Tryd.results58, go_sem, HeapT.zero]) rfl ⟨rfl, ?_⟩
    repeat (first | (with_reducible exact Fr.refl _ _) | (with_reducible assumption) | (with_reducible apply Fr.alloc) | (with_reducible apply Fr.drew) | (with_reducible apply Fr.drewN) | (with_reducible refine Fr.setCell ?_ (by first | (left; simp; done) | (right; simp; done) | (right; simp; omega)) _))

set_option maxRecDepth 100000 in
set_option maxHeartbeats 400000 in
theorem told_val {S : List Nat} {w : World} {rb : Nat} {bv : Value} {bs : List UInt8} {s : RdS} (h : Rd S w rb bv bs s) (x : ValT) :
    Calls Tryd.prog 59 #[.pointer (some ⟨rb, 0, none⟩), valV x] w fun e w' => e = .returned (valV (s.told ValT.zero x)) ∧ Fr [] w w' := by
  have hR := fun o1 o2 => (h.alloc o1).alloc o2
  by_cases he : s.err = 0
  · have g1 : (s.err == 0) = true := by simp [he]
    have ht : s.told ValT.zero x = x := by simp [RdS.told, he]
    rw [ht]
    unfold valV
    clear ht he
    go_enter Tryd.func59, Tryd.ntmps59
    go_wp2_with (go_at_call 45; refine (rd_reads (hR _ _)).mono ?_; rintro e w' ⟨rfl, rfl⟩)
    refine bodyPost_ret (v := valV x) (by simp [results, Tryd.results59, go_sem]) rfl ⟨rfl, ?_⟩
    repeat (first | (with_reducible exact Fr.refl _ _) | (with_reducible assumption) | (with_reducible apply Fr.alloc) | (with_reducible apply Fr.drew) | (with_reducible apply Fr.drewN) | (with_reducible refine Fr.setCell ?_ (by first | (left; simp; done) | (right; simp; done) | (right; simp; omega)) _))
  · have g1 : (s.err == 0) = false := by simp [he]
    have ht : s.told ValT.zero x = ValT.zero := by simp [RdS.told, he]
    rw [ht]
    unfold valV
    clear ht he
    go_enter Tryd.func59, Tryd.ntmps59
    go_wp2_with (go_at_call 45; refine (rd_reads (hR _ _)).mono ?_; rintro e w' ⟨rfl, rfl⟩)
    refine bodyPost_ret (v := valV ValT.zero) (by simp [results, Tryd.results59, go_sem, ValT.zero]) rfl ⟨rfl, ?_⟩
    repeat (first | (with_reducible exact Fr.refl _ _) | (with_reducible assumption) | (with_reducible apply Fr.alloc) | (with_reducible apply Fr.drew) | (with_reducible apply Fr.drewN) | (with_reducible refine Fr.setCell ?_ (by first | (left; simp; done) | (right; simp; done) | (right; simp; omega)) _))


theorem rPeek_lt (bs : List UInt8) (s : RdS) : rPeek bs s < 256 := by
  unfold rPeek
  split
  · exact (bs.getD s.at_ 0).toNat_lt
  · decide
theorem given_iff (c : Nat) : decide (105 ≤ c ∧ c < 117) = !(givenK c == 0) := by
  by_cases h : 105 ≤ c ∧ c < 117
  · have : c = 105 ∨ c = 106 ∨ c = 107 ∨ c = 108 ∨ c = 109 ∨ c = 110 ∨ c = 111 ∨ c = 112 ∨ c = 113 ∨ c = 114 ∨ c = 115 ∨ c = 116 := by omega
    rcases this with rfl | rfl | rfl | rfl | rfl | rfl | rfl | rfl | rfl | rfl | rfl | rfl <;> decide
  · have : givenK c = 0 := by unfold givenK; rw [if_pos (by omega)]
    rw [this]; simpa using h
theorem rd_setAt {S : List Nat} {w : World} {rb : Nat} {bv : Value} {bs : List UInt8} {s : RdS} (h : Rd S w rb bv bs s) (n : Nat) (hn : n ≤ bs.length) : Rd S (w.setCell ⟨rb, 0, none⟩ (.int .i64 n)) rb bv bs { s with at_ := n } :=
  h.step ((Fr.refl _ _).setCell (by simp) _) (h.loc.set 0 _) hn

theorem rd_next {S : List Nat} {w : World} {rb : Nat} {bv : Value} {bs : List UInt8} {s : RdS} (h : Rd S w rb bv bs s) (hn : s.at_ < bs.length) : Rd S (w.setCell ⟨rb, 0, none⟩ (.int .i64 ((s.at_ : Int) + 1))) rb bv bs s.next :=
  rd_setAt h (s.at_ + 1) hn

set_option maxRecDepth 100000 in
set_option maxHeartbeats 1600000 in
theorem rd_heap {S : List Nat} {w : World} {rb : Nat} {bv : Value} {bs : List UInt8} {s : RdS} (h : Rd S w rb bv bs s) :
    Calls Tryd.prog 18 #[.pointer (some ⟨rb, 0, none⟩)] w fun e w' => e = .returned (heapV (rHeap bs s).1) ∧ Rd S w' rb bv bs (rHeap bs s).2 ∧ Fr [rb] w w' := by
  have hle := h.le
  have hsm := h.small
  have hrb := h.loc.lt
  have hcl := rPeek_lt bs s
  have hR := h.loc1 (.cells #[.int .i64 0, .int .i64 0] 40)
  have hgiff := given_iff (rPeek bs s)
  have hL : Loc (w.alloc (.cells #[.int .i64 0, .int .i64 0] 40)) w.heap.size [.int .i64 0, .int .i64 0] 40 := Loc.new _ _ _
  have f0 : Fr [rb] w (w.alloc (.cells #[.int .i64 0, .int .i64 0] 40)) := (Fr.refl _ _).alloc _
  by_cases hg : givenK (rPeek bs s) = 0
  · have hg2 : decide (105 ≤ rPeek bs s ∧ rPeek bs s < 117) = false := by rw [hgiff, hg]; rfl
    by_cases hn : (rS bs 33 s).1 < 0
    · have hp : rHeap bs s = (HeapT.zero, (rS bs 33 s).2.refuse 60 s.at_) := by unfold rHeap; rw [if_pos hg, if_pos hn]
      have ht : ((rS bs 33 s).2.refuse 60 s.at_).told HeapT.zero ⟨13, (rS bs 33 s).1⟩ = HeapT.zero := by
        by_cases h0 : (rS bs 33 s).2.err = 0
        · simp [RdS.told, RdS.refuse, RdS.fail, h0]
        · simp [RdS.told, RdS.refuse, RdS.fail, h0]
      have HT := Lib.hid ht
      rw [hp]
      clear hgiff hg hp ht
      go_enter Tryd.func18, Tryd.ntmps18
      go_wp2_with first | (go_at_call 22; refine (rd_at hR).mono ?_; rintro e w' ⟨rfl, rfl⟩) | (go_at_call 46; refine (rd_peek hR).mono ?_; rintro e w' ⟨rfl, nq, rfl⟩) | (go_at_call 57; refine (given_any (hR.drewN _).gl _ hcl).mono ?_; rintro e w1 ⟨rfl, hF1⟩) | fail
      have hR1 := (hR.drewN nq).fr hF1 (by simp) (by simp)
      have hR1o := fun o => hR1.alloc o
      have hL1 := (hL.drewN nq).fr hF1 (by simp)
      have f1 := (f0.drewN nq).trans (hF1.mono (by simp))
      go_wp2_with first | (go_at_call 14; refine (rd_s (hR1o _) 33 (by decide) (by decide)).mono ?_; rintro e w2 ⟨rfl, hR2, hF2⟩) | fail
      have hL2 := (hL1.alloc _).fr hF2 (by simp; omega)
      have f2 := (f1.alloc _).trans hF2
      go_wp2_with first | (go_at_call 55; refine (rd_refuse hR2 _ _ hle).mono ?_; rintro e w3 ⟨rfl, hR3, hF3⟩) | fail
      have hL3 := hL2.fr hF3 (by simp; omega)
      have f3 := f2.trans hF3
      go_wp2_with ((go_at_call 58; refine (told_heap hR3 ⟨13, _⟩).mono ?_; rintro e w4 ⟨rfl, hF4⟩); rw [HT.out]; have hL4 := hL3.fr hF4 (by simp); have hR4 := hR3.fr hF4 (by simp) (by simp); have f4 := f3.trans (hF4.mono (by simp)); have hLC4 := hL4.cell; have hLF4 := hL4.frz; have hLT4 := hL4.lt)
      refine bodyPost_ret (v := heapV HeapT.zero) (by simp [results, Tryd.results18, go_sem, *]) rfl ⟨rfl, ?_, ?_⟩
      · refine Rd.un1 (lb := w.heap.size) ?_ h.mem
        repeat (first | (with_reducible assumption) | (with_reducible refine Rd.setLoc ?_ (by simp) (by omega) _ _) | (with_reducible apply Rd.alloc) | (with_reducible apply Rd.drewN))
      · repeat (first | (with_reducible exact Fr.refl _ _) | (with_reducible assumption) | (with_reducible apply Fr.alloc) | (with_reducible apply Fr.drew) | (with_reducible apply Fr.drewN) | (with_reducible refine Fr.setCell ?_ (by first | (left; simp; done) | (right; simp; done) | (right; simp; omega)) _))
    · have hp : rHeap bs s = ((rS bs 33 s).2.told HeapT.zero ⟨13, (rS bs 33 s).1⟩, (rS bs 33 s).2) := by unfold rHeap; rw [if_pos hg, if_neg hn]
      rw [hp]
      clear hgiff hg hp
      go_enter Tryd.func18, Tryd.ntmps18
      go_wp2_with first | (go_at_call 22; refine (rd_at hR).mono ?_; rintro e w' ⟨rfl, rfl⟩) | (go_at_call 46; refine (rd_peek hR).mono ?_; rintro e w' ⟨rfl, nq, rfl⟩) | (go_at_call 57; refine (given_any (hR.drewN _).gl _ hcl).mono ?_; rintro e w1 ⟨rfl, hF1⟩) | fail
      have hR1 := (hR.drewN nq).fr hF1 (by simp) (by simp)
      have hR1o := fun o => hR1.alloc o
      have hL1 := (hL.drewN nq).fr hF1 (by simp)
      have f1 := (f0.drewN nq).trans (hF1.mono (by simp))
      go_wp2_with first | (go_at_call 14; refine (rd_s (hR1o _) 33 (by decide) (by decide)).mono ?_; rintro e w2 ⟨rfl, hR2, hF2⟩) | fail
      have hL2 := (hL1.alloc _).fr hF2 (by simp; omega)
      have f2 := (f1.alloc _).trans hF2
      go_wp2_with ((go_at_call 58; refine (told_heap hR2 ⟨13, _⟩).mono ?_; rintro e w4 ⟨rfl, hF4⟩); have hL4 := hL2.fr hF4 (by simp); have hR4 := hR2.fr hF4 (by simp) (by simp); have f4 := f2.trans (hF4.mono (by simp)); have hLC4 := hL4.cell; have hLF4 := hL4.frz; have hLT4 := hL4.lt)
      refine bodyPost_ret (v := heapV _) (by simp [results, Tryd.results18, go_sem, *]) rfl ⟨rfl, ?_, ?_⟩
      · refine Rd.un1 (lb := w.heap.size) ?_ h.mem
        repeat (first | (with_reducible assumption) | (with_reducible refine Rd.setLoc ?_ (by simp) (by omega) _ _) | (with_reducible apply Rd.alloc) | (with_reducible apply Rd.drewN))
      · repeat (first | (with_reducible exact Fr.refl _ _) | (with_reducible assumption) | (with_reducible apply Fr.alloc) | (with_reducible apply Fr.drew) | (with_reducible apply Fr.drewN) | (with_reducible refine Fr.setCell ?_ (by first | (left; simp; done) | (right; simp; done) | (right; simp; omega)) _))
  · have hp : rHeap bs s = (⟨givenK (rPeek bs s), 0⟩, s.next) := by unfold rHeap; rw [if_neg hg]
    have hlt := (peek_pos (s := s) (bs := bs) (fun h0 => hg (by rw [h0]; rfl))).2.1
    have hg2 : decide (105 ≤ rPeek bs s ∧ rPeek bs s < 117) = true := by rw [hgiff]; simpa using hg
    rw [hp]
    clear hgiff hg hp
    go_enter Tryd.func18, Tryd.ntmps18
    go_wp2_with first | (go_at_call 22; refine (rd_at hR).mono ?_; rintro e w' ⟨rfl, rfl⟩) | (go_at_call 46; refine (rd_peek hR).mono ?_; rintro e w' ⟨rfl, nq, rfl⟩) | ((go_at_call 57; refine (given_any (hR.drewN _).gl _ hcl).mono ?_; rintro e w1 ⟨rfl, hF1⟩); have hR1 := (hR.drewN nq).fr hF1 (by simp) (by simp); have hL1 := (hL.drewN nq).fr hF1 (by simp); have f1 := (f0.drewN nq).trans (hF1.mono (by simp)); have hC1 := hR1.loc.cell; have hG1 := hR1.loc.frz; have hT1 := hR1.loc.lt; simp only [rdCells] at hC1; have hLC1 := hL1.cell; have hLF1 := hL1.frz; have hLT1 := hL1.lt)
    have hE := rd_next hR1 hlt
    refine bodyPost_ret (v := heapV ⟨givenK (rPeek bs s), 0⟩) (by simp [results, Tryd.results18, go_sem, *]) rfl ⟨rfl, ?_, ?_⟩
    · refine Rd.un1 (lb := w.heap.size) ?_ h.mem
      repeat (first | (with_reducible assumption) | (with_reducible refine Rd.setLoc ?_ (by simp) (by omega) _ _) | (with_reducible apply Rd.alloc) | (with_reducible apply Rd.drewN))
    · repeat (first | (with_reducible exact Fr.refl _ _) | (with_reducible assumption) | (with_reducible apply Fr.alloc) | (with_reducible apply Fr.drew) | (with_reducible apply Fr.drewN) | (with_reducible refine Fr.setCell ?_ (by first | (left; simp; done) | (right; simp; done) | (right; simp; omega)) _))

end Go.Proofs.YtokneepfknepaaaDoor

set_option linter.unusedSimpArgs false
set_option linter.unusedVariables false
namespace Go.Proofs.YtokneepfknepaaaDoor
open Go.RowKit

theorem und_val : Tryd.prog.underlying 44 = some ((Tryd.prog.underlying 44).get (by kernel_rfl)) := by kernel_rfl
theorem size_val : (Tryd.prog.info? 44).map (·.size) = some 4 := by kernel_rfl
theorem rByte_lt (bs : List UInt8) (s : RdS) : (rByte bs s).1 < 256 := by
  unfold rByte
  split
  · exact (bs.getD s.at_ 0).toNat_lt
  · simp

set_option maxRecDepth 100000 in
set_option maxHeartbeats 1600000 in
theorem rd_val {S : List Nat} {w : World} {rb : Nat} {bv : Value} {bs : List UInt8} {s : RdS} (h : Rd S w rb bv bs s) :
    Calls Tryd.prog 19 #[.pointer (some ⟨rb, 0, none⟩)] w fun e w' => e = .returned (valV (rVal bs s).1) ∧ Rd S w' rb bv bs (rVal bs s).2 ∧ Fr [rb] w w' := by
  have hle := h.le
  have hrb := h.loc.lt
  have hcl := rByte_lt bs s
  have hR := h.loc1 (.cells #[.int .i64 0, .bool false, .int .i64 0, .int .i64 0] 44)
  have hL : Loc (w.alloc (.cells #[.int .i64 0, .bool false, .int .i64 0, .int .i64 0] 44)) w.heap.size [.int .i64 0, .bool false, .int .i64 0, .int .i64 0] 44 := Loc.new _ _ _
  have f0 : Fr [rb] w (w.alloc (.cells #[.int .i64 0, .bool false, .int .i64 0, .int .i64 0] 44)) := (Fr.refl _ _).alloc _
  have hgiff := given_iff (rByte bs s).1
  have HG := Lib.hid hgiff
  clear hgiff
  go_enter Tryd.func19, Tryd.ntmps19
  go_wp2_with first | (go_at_call 22; refine (rd_at hR).mono ?_; rintro e w' ⟨rfl, rfl⟩) | ((go_at_call 12; refine (rd_byte hR).mono ?_; rintro e w1 ⟨rfl, hR1, hF1⟩); have hL1 := hL.fr hF1 (by simp; omega); have f1 := f0.trans hF1; have hLC1 := hL1.cell; have hLF1 := hL1.frz; have hLT1 := hL1.lt) | ((go_at_call 18; refine (rd_heap hR1).mono ?_; rintro e w2 ⟨rfl, hR2, hF2⟩); have hL2 := hL1.fr hF2 (by simp; omega); have f2 := f1.trans hF2; have hLC2 := hL2.cell; have hLF2 := hL2.frz; have hLT2 := hL2.lt) | ((go_at_call 59; refine (told_val hR2 ⟨3, _, ⟨_, _⟩⟩).mono ?_; rintro e w3 ⟨rfl, hF3⟩); have hL3 := hL2.fr hF3 (by simp); have hR3 := hR2.fr hF3 (by simp) (by simp); have f3 := f2.trans (hF3.mono (by simp)); have hLC3 := hL3.cell; have hLF3 := hL3.frz; have hLT3 := hL3.lt) | ((go_at_call 55; refine (rd_refuse hR1 _ _ hle).mono ?_; rintro e w4 ⟨rfl, hR4, hF4⟩); have hL4 := hL1.fr hF4 (by simp; omega); have f4 := f1.trans hF4; have hLC4 := hL4.cell; have hLF4 := hL4.frz; have hLT4 := hL4.lt) | ((go_at_call 57; refine (given_any hR1.gl _ hcl).mono ?_; rintro e w5 ⟨rfl, hF5⟩); have hL5 := hL1.fr hF5 (by simp); have hR5 := hR1.fr hF5 (by simp) (by simp); have hR5o := fun o => hR5.alloc o; have f5 := f1.trans (hF5.mono (by simp)); have hLC5 := hL5.cell; have hLF5 := hL5.frz; have hLT5 := hL5.lt) | ((go_at_call 60; refine (rd_form (hR5o _) _ hle).mono ?_; rintro e w6 ⟨rfl, hR6, hF6⟩); have hL6 := (hL5.alloc _).fr hF6 (by simp; omega); have f6 := (f5.alloc _).trans hF6; have hLC6 := hL6.cell; have hLF6 := hL6.frz; have hLT6 := hL6.lt)
  · have q0 : (((rByte bs s).1 : Nat) : Int) = 127 := eq_of_beqI (by assumption)
    have hp : rVal bs s = (⟨1, false, ⟨0, 0⟩⟩, (rByte bs s).2) := by unfold rVal; rw [if_pos (by omega)]
    rw [hp]
    refine ret_cell rfl rfl ((((hL1.set 0 _).set 1 _).set 2 _).set 3 _) und_val rfl size_val rfl ⟨rfl, ?_, ?_⟩
    · refine Rd.un1 (lb := w.heap.size) ?_ h.mem
      repeat (first | (with_reducible assumption) | (with_reducible refine Rd.setLoc ?_ (by simp) (by omega) _ _) | (with_reducible apply Rd.alloc) | (with_reducible apply Rd.drewN))
    · repeat (first | (with_reducible exact Fr.refl _ _) | (with_reducible assumption) | (with_reducible apply Fr.alloc) | (with_reducible apply Fr.drew) | (with_reducible apply Fr.drewN) | (with_reducible refine Fr.setCell ?_ (by first | (left; simp; done) | (right; simp; done) | (right; simp; omega)) _))
  · have q0 : (((rByte bs s).1 : Nat) : Int) ≠ 127 := ne_of_beqI (by assumption)
    have q1 : (((rByte bs s).1 : Nat) : Int) = 126 := eq_of_beqI (by assumption)
    have hp : rVal bs s = (⟨2, false, ⟨0, 0⟩⟩, (rByte bs s).2) := by unfold rVal; rw [if_neg (by omega), if_pos (by omega)]
    rw [hp]
    refine ret_cell rfl rfl ((((hL1.set 0 _).set 1 _).set 2 _).set 3 _) und_val rfl size_val rfl ⟨rfl, ?_, ?_⟩
    · refine Rd.un1 (lb := w.heap.size) ?_ h.mem
      repeat (first | (with_reducible assumption) | (with_reducible refine Rd.setLoc ?_ (by simp) (by omega) _ _) | (with_reducible apply Rd.alloc) | (with_reducible apply Rd.drewN))
    · repeat (first | (with_reducible exact Fr.refl _ _) | (with_reducible assumption) | (with_reducible apply Fr.alloc) | (with_reducible apply Fr.drew) | (with_reducible apply Fr.drewN) | (with_reducible refine Fr.setCell ?_ (by first | (left; simp; done) | (right; simp; done) | (right; simp; omega)) _))
  · have q0 : (((rByte bs s).1 : Nat) : Int) ≠ 127 := ne_of_beqI (by assumption)
    have q1 : (((rByte bs s).1 : Nat) : Int) ≠ 126 := ne_of_beqI (by assumption)
    have q2 : (((rByte bs s).1 : Nat) : Int) = 100 := eq_of_beqI (by assumption)
    have q99 : ((((rByte bs s).1 : Nat) : Int) == 99) = false := by simp; omega
    have q99n : ((rByte bs s).1 == 99) = false := by simp; omega
    have hp : rVal bs s = ((rHeap bs (rByte bs s).2).2.told ValT.zero ⟨3, false, (rHeap bs (rByte bs s).2).1⟩, (rHeap bs (rByte bs s).2).2) := by unfold rVal; rw [if_neg (by omega), if_neg (by omega), if_pos (by omega)]; rw [q99n]
    rw [hp]
    refine ret_cell rfl rfl ((((hL3.set 0 _).set 1 _).set 2 _).set 3 _) und_val rfl size_val rfl ⟨by rw [q99]; rfl, ?_, ?_⟩
    · refine Rd.un1 (lb := w.heap.size) ?_ h.mem
      repeat (first | (with_reducible assumption) | (with_reducible refine Rd.setLoc ?_ (by simp) (by omega) _ _) | (with_reducible apply Rd.alloc) | (with_reducible apply Rd.drewN))
    · repeat (first | (with_reducible exact Fr.refl _ _) | (with_reducible assumption) | (with_reducible apply Fr.alloc) | (with_reducible apply Fr.drew) | (with_reducible apply Fr.drewN) | (with_reducible refine Fr.setCell ?_ (by first | (left; simp; done) | (right; simp; done) | (right; simp; omega)) _))
  · have q0 : (((rByte bs s).1 : Nat) : Int) ≠ 127 := ne_of_beqI (by assumption)
    have q1 : (((rByte bs s).1 : Nat) : Int) ≠ 126 := ne_of_beqI (by assumption)
    have q2 : (((rByte bs s).1 : Nat) : Int) ≠ 100 := ne_of_beqI (by assumption)
    have q3 : (((rByte bs s).1 : Nat) : Int) = 99 := eq_of_beqI (by assumption)
    have q99 : ((((rByte bs s).1 : Nat) : Int) == 99) = true := by simp; omega
    have q99n : ((rByte bs s).1 == 99) = true := by simp; omega
    have hp : rVal bs s = ((rHeap bs (rByte bs s).2).2.told ValT.zero ⟨3, true, (rHeap bs (rByte bs s).2).1⟩, (rHeap bs (rByte bs s).2).2) := by unfold rVal; rw [if_neg (by omega), if_neg (by omega), if_pos (by omega)]; rw [q99n]
    rw [hp]
    refine ret_cell rfl rfl ((((hL3.set 0 _).set 1 _).set 2 _).set 3 _) und_val rfl size_val rfl ⟨rfl, ?_, ?_⟩
    · refine Rd.un1 (lb := w.heap.size) ?_ h.mem
      repeat (first | (with_reducible assumption) | (with_reducible refine Rd.setLoc ?_ (by simp) (by omega) _ _) | (with_reducible apply Rd.alloc) | (with_reducible apply Rd.drewN))
    · repeat (first | (with_reducible exact Fr.refl _ _) | (with_reducible assumption) | (with_reducible apply Fr.alloc) | (with_reducible apply Fr.drew) | (with_reducible apply Fr.drewN) | (with_reducible refine Fr.setCell ?_ (by first | (left; simp; done) | (right; simp; done) | (right; simp; omega)) _))
  · have q0 : (((rByte bs s).1 : Nat) : Int) ≠ 127 := ne_of_beqI (by assumption)
    have q1 : (((rByte bs s).1 : Nat) : Int) ≠ 126 := ne_of_beqI (by assumption)
    have q2 : (((rByte bs s).1 : Nat) : Int) ≠ 100 := ne_of_beqI (by assumption)
    have q3 : (((rByte bs s).1 : Nat) : Int) ≠ 99 := ne_of_beqI (by assumption)
    have q4 : (((rByte bs s).1 : Nat) : Int) = 125 := eq_of_beqI (by assumption)
    have hp : rVal bs s = (ValT.zero, (rByte bs s).2.refuse 61 s.at_) := by unfold rVal; rw [if_neg (by omega), if_neg (by omega), if_neg (by omega), if_pos (by omega)]
    rw [hp]
    refine ret_cell rfl rfl ((((hL4.set 0 _).set 1 _).set 2 _).set 3 _) und_val rfl size_val rfl ⟨rfl, ?_, ?_⟩
    · refine Rd.un1 (lb := w.heap.size) ?_ h.mem
      repeat (first | (with_reducible assumption) | (with_reducible refine Rd.setLoc ?_ (by simp) (by omega) _ _) | (with_reducible apply Rd.alloc) | (with_reducible apply Rd.drewN))
    · repeat (first | (with_reducible exact Fr.refl _ _) | (with_reducible assumption) | (with_reducible apply Fr.alloc) | (with_reducible apply Fr.drew) | (with_reducible apply Fr.drewN) | (with_reducible refine Fr.setCell ?_ (by first | (left; simp; done) | (right; simp; done) | (right; simp; omega)) _))
  · have q0 : (((rByte bs s).1 : Nat) : Int) ≠ 127 := ne_of_beqI (by assumption)
    have q1 : (((rByte bs s).1 : Nat) : Int) ≠ 126 := ne_of_beqI (by assumption)
    have q2 : (((rByte bs s).1 : Nat) : Int) ≠ 100 := ne_of_beqI (by assumption)
    have q3 : (((rByte bs s).1 : Nat) : Int) ≠ 99 := ne_of_beqI (by assumption)
    have q4 : (((rByte bs s).1 : Nat) : Int) ≠ 125 := ne_of_beqI (by assumption)
    have q5 : (((rByte bs s).1 : Nat) : Int) = 124 := eq_of_beqI (by assumption)
    have hp : rVal bs s = (ValT.zero, (rByte bs s).2.refuse 61 s.at_) := by unfold rVal; rw [if_neg (by omega), if_neg (by omega), if_neg (by omega), if_pos (by omega)]
    rw [hp]
    refine ret_cell rfl rfl ((((hL4.set 0 _).set 1 _).set 2 _).set 3 _) und_val rfl size_val rfl ⟨rfl, ?_, ?_⟩
    · refine Rd.un1 (lb := w.heap.size) ?_ h.mem
      repeat (first | (with_reducible assumption) | (with_reducible refine Rd.setLoc ?_ (by simp) (by omega) _ _) | (with_reducible apply Rd.alloc) | (with_reducible apply Rd.drewN))
    · repeat (first | (with_reducible exact Fr.refl _ _) | (with_reducible assumption) | (with_reducible apply Fr.alloc) | (with_reducible apply Fr.drew) | (with_reducible apply Fr.drewN) | (with_reducible refine Fr.setCell ?_ (by first | (left; simp; done) | (right; simp; done) | (right; simp; omega)) _))
  · have q0 : (((rByte bs s).1 : Nat) : Int) ≠ 127 := ne_of_beqI (by assumption)
    have q1 : (((rByte bs s).1 : Nat) : Int) ≠ 126 := ne_of_beqI (by assumption)
    have q2 : (((rByte bs s).1 : Nat) : Int) ≠ 100 := ne_of_beqI (by assumption)
    have q3 : (((rByte bs s).1 : Nat) : Int) ≠ 99 := ne_of_beqI (by assumption)
    have q4 : (((rByte bs s).1 : Nat) : Int) ≠ 125 := ne_of_beqI (by assumption)
    have q5 : (((rByte bs s).1 : Nat) : Int) ≠ 124 := ne_of_beqI (by assumption)
    have q6 : (((rByte bs s).1 : Nat) : Int) = 123 := eq_of_beqI (by assumption)
    have hp : rVal bs s = (ValT.zero, (rByte bs s).2.refuse 61 s.at_) := by unfold rVal; rw [if_neg (by omega), if_neg (by omega), if_neg (by omega), if_pos (by omega)]
    rw [hp]
    refine ret_cell rfl rfl ((((hL4.set 0 _).set 1 _).set 2 _).set 3 _) und_val rfl size_val rfl ⟨rfl, ?_, ?_⟩
    · refine Rd.un1 (lb := w.heap.size) ?_ h.mem
      repeat (first | (with_reducible assumption) | (with_reducible refine Rd.setLoc ?_ (by simp) (by omega) _ _) | (with_reducible apply Rd.alloc) | (with_reducible apply Rd.drewN))
    · repeat (first | (with_reducible exact Fr.refl _ _) | (with_reducible assumption) | (with_reducible apply Fr.alloc) | (with_reducible apply Fr.drew) | (with_reducible apply Fr.drewN) | (with_reducible refine Fr.setCell ?_ (by first | (left; simp; done) | (right; simp; done) | (right; simp; omega)) _))
  · have q0 : (((rByte bs s).1 : Nat) : Int) ≠ 127 := ne_of_beqI (by assumption)
    have q1 : (((rByte bs s).1 : Nat) : Int) ≠ 126 := ne_of_beqI (by assumption)
    have q2 : (((rByte bs s).1 : Nat) : Int) ≠ 100 := ne_of_beqI (by assumption)
    have q3 : (((rByte bs s).1 : Nat) : Int) ≠ 99 := ne_of_beqI (by assumption)
    have q4 : (((rByte bs s).1 : Nat) : Int) ≠ 125 := ne_of_beqI (by assumption)
    have q5 : (((rByte bs s).1 : Nat) : Int) ≠ 124 := ne_of_beqI (by assumption)
    have q6 : (((rByte bs s).1 : Nat) : Int) ≠ 123 := ne_of_beqI (by assumption)
    have hg : givenK (rByte bs s).1 = 0 := by
      have h1 := HG.out
      by_cases h0 : givenK (rByte bs s).1 = 0
      · exact h0
      · exfalso
        rw [show (!(givenK (rByte bs s).1 == 0)) = true by simpa using h0] at h1
        simp only [decide_eq_true_eq] at h1
        have h2 : (!decide (105 ≤ (rByte bs s).1)) = true ∨ (!decide ((rByte bs s).1 < 117)) = true := by assumption
        simp at h2
        omega
    have hp : rVal bs s = (ValT.zero, (rByte bs s).2.form s.at_) := by unfold rVal; rw [if_neg (by omega), if_neg (by omega), if_neg (by omega), if_neg (by omega)]; rw [if_pos hg]
    rw [hp]
    refine ret_cell rfl rfl ((((hL6.set 0 _).set 1 _).set 2 _).set 3 _) und_val rfl size_val rfl ⟨rfl, ?_, ?_⟩
    · refine Rd.un1 (lb := w.heap.size) ?_ h.mem
      repeat (first | (with_reducible assumption) | (with_reducible refine Rd.setLoc ?_ (by simp) (by omega) _ _) | (with_reducible apply Rd.alloc) | (with_reducible apply Rd.drewN))
    · repeat (first | (with_reducible exact Fr.refl _ _) | (with_reducible assumption) | (with_reducible apply Fr.alloc) | (with_reducible apply Fr.drew) | (with_reducible apply Fr.drewN) | (with_reducible refine Fr.setCell ?_ (by first | (left; simp; done) | (right; simp; done) | (right; simp; omega)) _))
  · have q0 : (((rByte bs s).1 : Nat) : Int) ≠ 127 := ne_of_beqI (by assumption)
    have q1 : (((rByte bs s).1 : Nat) : Int) ≠ 126 := ne_of_beqI (by assumption)
    have q2 : (((rByte bs s).1 : Nat) : Int) ≠ 100 := ne_of_beqI (by assumption)
    have q3 : (((rByte bs s).1 : Nat) : Int) ≠ 99 := ne_of_beqI (by assumption)
    have q4 : (((rByte bs s).1 : Nat) : Int) ≠ 125 := ne_of_beqI (by assumption)
    have q5 : (((rByte bs s).1 : Nat) : Int) ≠ 124 := ne_of_beqI (by assumption)
    have q6 : (((rByte bs s).1 : Nat) : Int) ≠ 123 := ne_of_beqI (by assumption)
    have hg : givenK (rByte bs s).1 ≠ 0 := by
      have h1 := HG.out
      intro h0
      rw [h0] at h1
      have h2 : (!decide (105 ≤ (rByte bs s).1)) = false ∧ (!decide ((rByte bs s).1 < 117)) = false := by assumption
      simp at h1 h2
      omega
    have hp : rVal bs s = (⟨3, true, ⟨givenK (rByte bs s).1, 0⟩⟩, (rByte bs s).2) := by unfold rVal; rw [if_neg (by omega), if_neg (by omega), if_neg (by omega), if_neg (by omega)]; rw [if_neg hg]
    rw [hp]
    refine ret_cell rfl rfl (((((hL5.set 0 _).set 1 _).set 2 _).set 3 _).alloc _) und_val rfl size_val rfl ⟨rfl, ?_, ?_⟩
    · refine Rd.un1 (lb := w.heap.size) ?_ h.mem
      repeat (first | (with_reducible assumption) | (with_reducible refine Rd.setLoc ?_ (by simp) (by omega) _ _) | (with_reducible apply Rd.alloc) | (with_reducible apply Rd.drewN))
    · repeat (first | (with_reducible exact Fr.refl _ _) | (with_reducible assumption) | (with_reducible apply Fr.alloc) | (with_reducible apply Fr.drew) | (with_reducible apply Fr.drewN) | (with_reducible refine Fr.setCell ?_ (by first | (left; simp; done) | (right; simp; done) | (right; simp; omega)) _))

end Go.Proofs.YtokneepfknepaaaDoor

set_option linter.unusedSimpArgs false
set_option linter.unusedVariables false
namespace Go.Proofs.YtokneepfknepaaaDoor
open Go.RowKit

def heapC (h : HeapT) : List Value := [.int .i64 h.kind, .int .i64 h.n]
def valC (v : ValT) : List Value := [.int .i64 v.kind, .bool v.null, .int .i64 v.heap.kind, .int .i64 v.heap.n]
def fieldC (f : FieldT) : List Value := [.int .i64 f.pack, .int .i64 f.val.kind, .bool f.val.null, .int .i64 f.val.heap.kind, .int .i64 f.val.heap.n, .bool f.mut_]

theorem rCount_le (bs : List UInt8) (s : RdS) : (rCount bs s).1 ≤ bs.length := by
  unfold rCount
  split
  · simp
  · omega

theorem info_val : (Tryd.prog.info? 44).map (fun i => (i.zero, i.size, i.bytes)) = some (some (.agg #[.int .i64 0, .bool false, .int .i64 0, .int .i64 0]), 4, 32) := by kernel_rfl
theorem und_vals : Tryd.prog.underlying 46 = some (.slice 44) := by kernel_rfl
/-- append on such a slice of the call's own. -/
theorem app_val {w : World} {ops : Array Oper} {rest : List Oper} {o : Oper} {a : Act} {Q : Exit → Act → World → Prop} (hgd : o.guard = none) (s x : Operand) (tx : TypeId)
    (ho : o.op = .call { callee := .builtin .append, args := #[s, x], argTypes := #[46, tx] })
    (v : Value) (n : Nat) (xs : List Value) (hs : a.eval s = v) (hown : Own [] w 44 4 v n xs) (xv : Value) (m : Nat) (news : List Value) (hx : a.eval x = xv) (hsrc : Src Tryd.prog 4 tx xv m news w)
    (hb : n + m ≤ 1099511627776)
    (h : ∀ v' w', Own [] w' 44 4 v' (n + m) (xs ++ news) → Fr (Value.blk v) w w' → (Value.blk v' = Value.blk v ∨ Value.blk v' = [w.heap.size]) → wpList Tryd.prog ops Q rest (a.put o.dst v') w') :
    wpList Tryd.prog ops Q (o :: rest) a w := by
  obtain ⟨i0, hi, hz0, hz1, hz2⟩ := info_parts info_val
  exact wpList_app hgd s x _ tx ho _ i0 _ 4 32 und_vals hi hz0 hz1 hz2 rfl (by decide) [] (by simp) v n xs hs hown xv m news hx hsrc (by omega) (by unfold maxLen; omega) h

set_option maxRecDepth 100000 in
set_option maxHeartbeats 400000 in
theorem told_vals {S : List Nat} {w : World} {rb : Nat} {bv : Value} {bs : List UInt8} {s : RdS} (h : Rd S w rb bv bs s) (v : Value) :
    Calls Tryd.prog 99 #[.pointer (some ⟨rb, 0, none⟩), v] w fun e w' => e = .returned (if s.err = 0 then v else .slice none 0 0) ∧ w = w' := by
  by_cases he : s.err = 0
  · have g1 : (s.err == 0) = true := by simp [he]
    rw [if_pos he]
    clear he
    go_enter Tryd.func99, Tryd.ntmps99
    go_wp2_with (go_at_call 45; refine (rd_reads h).mono ?_; rintro e w' ⟨rfl, rfl⟩)
    go_ret
    exact ⟨rfl, rfl⟩
  · have g1 : (s.err == 0) = false := by simp [he]
    rw [if_neg he]
    clear he
    go_enter Tryd.func99, Tryd.ntmps99
    go_wp2_with (go_at_call 45; refine (rd_reads h).mono ?_; rintro e w' ⟨rfl, rfl⟩)
    go_ret
    exact ⟨rfl, rfl⟩

set_option maxRecDepth 100000 in
set_option maxHeartbeats 1600000 in
theorem list_val {S : List Nat} {w : World} {rb : Nat} {bv : Value} {bs : List UInt8} {s : RdS} (h : Rd S w rb bv bs s) :
    Calls Tryd.prog 61 #[.pointer (some ⟨rb, 0, none⟩), .func (.func 19) #[.pointer (some ⟨rb, 0, none⟩)] #[]] w fun e w' =>
      ∃ v, e = .returned v ∧ Sl S w' 4 v (rList bs (rVal bs) s).1.length ((rList bs (rVal bs) s).1.flatMap valC) ∧ Rd S w' rb bv bs (rList bs (rVal bs) s).2 ∧ Fr [rb] w w' := by
  have hrb := h.loc.lt
  have hsm := h.small
  have hN := rCount_le bs s
  have hl : rList bs (rVal bs) s = ((rMany (rVal bs) (rCount bs s).1 (rCount bs s).2).2.told [] (rMany (rVal bs) (rCount bs s).1 (rCount bs s).2).1, (rMany (rVal bs) (rCount bs s).1 (rCount bs s).2).2) := rfl
  rw [hl]
  clear hl
  go_enter Tryd.func61, Tryd.ntmps61
  go_wp2_with (go_at_call 16; refine (rd_count h).mono ?_; rintro e w1 ⟨rfl, hR1, hF1⟩)
  go_loopw [5, 6] (fun v n wr => ∃ (k : Nat) (xs : List ValT) (t : RdS), n = .int .i64 k ∧ Own [] wr 44 4 v xs.length (xs.flatMap valC) ∧ New w v ∧ Rd S wr rb bv bs t ∧ Fr [rb] w wr ∧ k + xs.length = (rCount bs s).1 ∧ Hid (rMany (rVal bs) (rCount bs s).1 (rCount bs s).2 = (xs ++ (rMany (rVal bs) k t).1, (rMany (rVal bs) k t).2))) (fun _ n _ => (intOf n).toNat)
  case atStart => exact ⟨(rCount bs s).1, [], _, rfl, Own.nil _ _ _ _, New.nil _, hR1, hF1, by simp, Lib.hid rfl⟩
  case round =>
    obtain ⟨k, xs, t, rfl, hown, hnew, hR, hF, hks, hg⟩ := hrel
    have Hks := Lib.hid hks
    have hbnd : xs.length + 1 ≤ 1099511627776 ∨ k = 0 := by omega
    clear hks
    have hexit : (k = 0 ∨ t.err ≠ 0) → rMany (rVal bs) (rCount bs s).1 (rCount bs s).2 = (xs, t) := by
      intro hh
      rw [hg.out]
      cases k with
      | zero => simp [rMany]
      | succ k => simp [rMany, hh.resolve_left (by omega)]
    by_cases hk : k = 0
    · have hE := Lib.hid (hexit (.inl hk))
      subst hk
      clear hexit hbnd
      by_cases he : t.err = 0
      · have g1 : (t.err == 0) = true := by simp [he]
        go_wp2_with first | (go_at_call 99; refine (told_vals hR _).mono ?_; rintro e w' ⟨rfl, rfl⟩) | (go_at_call 45; refine (rd_reads hR).mono ?_; rintro e w' ⟨rfl, rfl⟩)
        go_ret
        refine ⟨_, rfl, ?_, by rw [hE.out]; exact hR, hF⟩
        rw [hE.out]
        simp only [RdS.told, if_pos he]
        exact hown.slN hnew h.lt
      · have g1 : (t.err == 0) = false := by simp [he]
        go_wp2_with first | (go_at_call 99; refine (told_vals hR _).mono ?_; rintro e w' ⟨rfl, rfl⟩) | (go_at_call 45; refine (rd_reads hR).mono ?_; rintro e w' ⟨rfl, rfl⟩)
        go_ret
        refine ⟨_, rfl, ?_, by rw [hE.out]; exact hR, hF⟩
        rw [hE.out]
        simp only [RdS.told, if_neg he]
        exact Sl.nil _ _ _
    · by_cases he : t.err = 0
      · have g1 : (t.err == 0) = true := by simp [he]
        have hx : rMany (rVal bs) k t = ((rVal bs t).1 :: (rMany (rVal bs) (k - 1) (rVal bs t).2).1, (rMany (rVal bs) (k - 1) (rVal bs t).2).2) := by
          obtain ⟨j, rfl⟩ : ∃ j, k = j + 1 := ⟨k - 1, by omega⟩
          simp [rMany, he]
        have HX := Lib.hid hx
        have hkp : 0 < k := by omega
        have hb2 : xs.length + 1 ≤ 1099511627776 := by omega
        have hk40 : k ≤ 1099511627776 := by have := Hks.out; omega
        clear hx he hexit hbnd
        have hone : ∀ u ∈ valC (rVal bs t).1, u.oneCell' = true := (by intro u hu; simp [valC] at hu; rcases hu with rfl | rfl | rfl | rfl <;> rfl)
        have hrv := hnew.not hrb
        go_wp2_with first | (go_at_call 45; refine (rd_reads hR).mono ?_; rintro e w' ⟨rfl, rfl⟩) | ((go_at_call 19; refine (rd_val hR).mono ?_; rintro e w2 ⟨rfl, hR2, hF2⟩); have hown2 := hown.fr hF2 (by intro b hb; simp at hb; subst hb; exact hrv)) | (at_builtin; refine app_val rfl (.tmp 17) (.tmp 20) _ rfl _ _ _ rfl (hown2.alloc _) _ _ _ rfl (src_alloc und_vals _ (valC (rVal bs t).1) _ _ _ rfl hone) hb2 ?_; intro v' w3 hown3 hf3 hb3)
        have hF3 : Fr [rb] w w3 := ((hF.trans hF2).alloc _).app hf3 hnew
        go_roundw
        case rel =>
          refine ⟨k - 1, xs ++ [(rVal bs t).1], _, by go_num, ?_, hnew.app hb3 (by have := hF.size; have := hF2.size; first | omega | (simp only [World.size_alloc]; omega)), h.step hF3 ((hR2.loc.alloc _).fr hf3 hrv) hR2.le, hF3, by have := Hks.out; simp; omega, Lib.hid ?_⟩
          · simpa using hown3
          · rw [hg.out, HX.out]; simp
        case measure => simp [intOf]; omega
      · have g1 : (t.err == 0) = false := by simp [he]
        have hE := Lib.hid (hexit (.inr he))
        have hkp : 0 < k := by omega
        clear hexit hbnd
        go_wp2_with first | (go_at_call 99; refine (told_vals hR _).mono ?_; rintro e w' ⟨rfl, rfl⟩) | (go_at_call 45; refine (rd_reads hR).mono ?_; rintro e w' ⟨rfl, rfl⟩)
        go_ret
        refine ⟨_, rfl, ?_, by rw [hE.out]; exact hR, hF⟩
        rw [hE.out]
        simp only [RdS.told, if_neg he]
        exact Sl.nil _ _ _

end Go.Proofs.YtokneepfknepaaaDoor

set_option linter.unusedSimpArgs false
set_option linter.unusedVariables false
namespace Go.Proofs.YtokneepfknepaaaDoor
open Go.RowKit

theorem lebGo_32 : ∀ (l : List UInt8) (at_ done acc : Nat), acc < 2 ^ done → done < 32 → (lebGo false 32 l at_ done acc).1 < 549755813888 := by
  intro l
  induction l with
  | nil => intro at_ done acc _ _; simp [lebGo]
  | cons c r ih =>
    intro at_ done acc ha hd
    have hlt : acc + c.toNat % 128 * 2 ^ done < 2 ^ (done + 7) := join_lt ha (by rw [show done + 7 - done = 7 by omega]; omega) (by omega)
    have hm : (acc + c.toNat % 128 * 2 ^ done) % 18446744073709551616 < 2 ^ (done + 7) := Nat.lt_of_le_of_lt (Nat.mod_le _ _) hlt
    have hp : 2 ^ (done + 7) ≤ 2 ^ 39 := Nat.pow_le_pow_right (by omega) (by omega)
    simp only [lebGo]
    split
    · simp
    · split
      · simp only [Bool.false_and, Bool.false_eq_true, if_false]
        omega
      · split
        · simp
        · exact ih _ _ _ hm (by omega)
theorem rU32_lt (bs : List UInt8) (s : RdS) : (rU bs 32 s).1 < 549755813888 := by
  unfold rU
  split
  · split
    · unfold lebRead
      split
      · exact lebGo_32 _ _ _ _ (by simp) (by omega)
      · simp
    · simp
  · simp

set_option maxRecDepth 100000 in
set_option maxHeartbeats 400000 in
theorem rd_super {S : List Nat} {w : World} {rb : Nat} {bv : Value} {bs : List UInt8} {s : RdS} (h : Rd S w rb bv bs s) :
    Calls Tryd.prog 101 #[.pointer (some ⟨rb, 0, none⟩)] w fun e w' => e = .returned (heapV (rSuper bs s).1) ∧ Rd S w' rb bv bs (rSuper bs s).2 ∧ Fr [rb] w w' := by
  have hrb := h.loc.lt
  have hlt := rU32_lt bs s
  have hR := h.loc1 (.cells #[.int .i64 0, .int .i64 0] 40)
  have hL : Loc (w.alloc (.cells #[.int .i64 0, .int .i64 0] 40)) w.heap.size [.int .i64 0, .int .i64 0] 40 := Loc.new _ _ _
  have f0 : Fr [rb] w (w.alloc (.cells #[.int .i64 0, .int .i64 0] 40)) := (Fr.refl _ _).alloc _
  go_enter Tryd.func101, Tryd.ntmps101
  go_wp2_with ((go_at_call 13; refine (rd_u hR 32 (by decide) (by decide)).mono ?_; rintro e w1 ⟨rfl, hR1, hF1⟩); have hL1 := hL.fr hF1 (by simp; omega); have f1 := f0.trans hF1; have hLC1 := hL1.cell; have hLF1 := hL1.frz; have hLT1 := hL1.lt)
  refine bodyPost_ret (v := heapV (rSuper bs s).1) (by simp [results, Tryd.results101, go_sem, rSuper, *]) rfl ⟨rfl, ?_, ?_⟩
  · refine Rd.un1 (lb := w.heap.size) ?_ h.mem
    unfold rSuper
    repeat (first | (with_reducible assumption) | (with_reducible refine Rd.setLoc ?_ (by simp) (by omega) _ _) | (with_reducible apply Rd.alloc) | (with_reducible apply Rd.drewN))
  · repeat (first | (with_reducible exact Fr.refl _ _) | (with_reducible assumption) | (with_reducible apply Fr.alloc) | (with_reducible apply Fr.drew) | (with_reducible apply Fr.drewN) | (with_reducible refine Fr.setCell ?_ (by first | (left; simp; done) | (right; simp; done) | (right; simp; omega)) _))

theorem info_heap : (Tryd.prog.info? 40).map (fun i => (i.zero, i.size, i.bytes)) = some (some (.agg #[.int .i64 0, .int .i64 0]), 2, 16) := by kernel_rfl
theorem und_heaps : Tryd.prog.underlying 54 = some (.slice 40) := by kernel_rfl
/-- append on such a slice of the call's own. -/
theorem app_heap {w : World} {ops : Array Oper} {rest : List Oper} {o : Oper} {a : Act} {Q : Exit → Act → World → Prop} (hgd : o.guard = none) (s x : Operand) (tx : TypeId)
    (ho : o.op = .call { callee := .builtin .append, args := #[s, x], argTypes := #[54, tx] })
    (v : Value) (n : Nat) (xs : List Value) (hs : a.eval s = v) (hown : Own [] w 40 2 v n xs) (xv : Value) (m : Nat) (news : List Value) (hx : a.eval x = xv) (hsrc : Src Tryd.prog 2 tx xv m news w)
    (hb : n + m ≤ 1099511627776)
    (h : ∀ v' w', Own [] w' 40 2 v' (n + m) (xs ++ news) → Fr (Value.blk v) w w' → (Value.blk v' = Value.blk v ∨ Value.blk v' = [w.heap.size]) → wpList Tryd.prog ops Q rest (a.put o.dst v') w') :
    wpList Tryd.prog ops Q (o :: rest) a w := by
  obtain ⟨i0, hi, hz0, hz1, hz2⟩ := info_parts info_heap
  exact wpList_app hgd s x _ tx ho _ i0 _ 2 16 und_heaps hi hz0 hz1 hz2 rfl (by decide) [] (by simp) v n xs hs hown xv m news hx hsrc (by omega) (by unfold maxLen; omega) h

set_option maxRecDepth 100000 in
set_option maxHeartbeats 400000 in
theorem told_heaps {S : List Nat} {w : World} {rb : Nat} {bv : Value} {bs : List UInt8} {s : RdS} (h : Rd S w rb bv bs s) (v : Value) :
    Calls Tryd.prog 138 #[.pointer (some ⟨rb, 0, none⟩), v] w fun e w' => e = .returned (if s.err = 0 then v else .slice none 0 0) ∧ w = w' := by
  by_cases he : s.err = 0
  · have g1 : (s.err == 0) = true := by simp [he]
    rw [if_pos he]
    clear he
    go_enter Tryd.func138, Tryd.ntmps138
    go_wp2_with (go_at_call 45; refine (rd_reads h).mono ?_; rintro e w' ⟨rfl, rfl⟩)
    go_ret
    exact ⟨rfl, rfl⟩
  · have g1 : (s.err == 0) = false := by simp [he]
    rw [if_neg he]
    clear he
    go_enter Tryd.func138, Tryd.ntmps138
    go_wp2_with (go_at_call 45; refine (rd_reads h).mono ?_; rintro e w' ⟨rfl, rfl⟩)
    go_ret
    exact ⟨rfl, rfl⟩

set_option maxRecDepth 100000 in
set_option maxHeartbeats 1600000 in
theorem list_heap {S : List Nat} {w : World} {rb : Nat} {bv : Value} {bs : List UInt8} {s : RdS} (h : Rd S w rb bv bs s) :
    Calls Tryd.prog 100 #[.pointer (some ⟨rb, 0, none⟩), .func (.func 101) #[.pointer (some ⟨rb, 0, none⟩)] #[]] w fun e w' =>
      ∃ v, e = .returned v ∧ Sl S w' 2 v (rList bs (rSuper bs) s).1.length ((rList bs (rSuper bs) s).1.flatMap heapC) ∧ Rd S w' rb bv bs (rList bs (rSuper bs) s).2 ∧ Fr [rb] w w' := by
  have hrb := h.loc.lt
  have hsm := h.small
  have hN := rCount_le bs s
  have hl : rList bs (rSuper bs) s = ((rMany (rSuper bs) (rCount bs s).1 (rCount bs s).2).2.told [] (rMany (rSuper bs) (rCount bs s).1 (rCount bs s).2).1, (rMany (rSuper bs) (rCount bs s).1 (rCount bs s).2).2) := rfl
  rw [hl]
  clear hl
  go_enter Tryd.func100, Tryd.ntmps100
  go_wp2_with (go_at_call 16; refine (rd_count h).mono ?_; rintro e w1 ⟨rfl, hR1, hF1⟩)
  go_loopw [5, 6] (fun v n wr => ∃ (k : Nat) (xs : List HeapT) (t : RdS), n = .int .i64 k ∧ Own [] wr 40 2 v xs.length (xs.flatMap heapC) ∧ New w v ∧ Rd S wr rb bv bs t ∧ Fr [rb] w wr ∧ k + xs.length = (rCount bs s).1 ∧ Hid (rMany (rSuper bs) (rCount bs s).1 (rCount bs s).2 = (xs ++ (rMany (rSuper bs) k t).1, (rMany (rSuper bs) k t).2))) (fun _ n _ => (intOf n).toNat)
  case atStart => exact ⟨(rCount bs s).1, [], _, rfl, Own.nil _ _ _ _, New.nil _, hR1, hF1, by simp, Lib.hid rfl⟩
  case round =>
    obtain ⟨k, xs, t, rfl, hown, hnew, hR, hF, hks, hg⟩ := hrel
    have Hks := Lib.hid hks
    have hbnd : xs.length + 1 ≤ 1099511627776 ∨ k = 0 := by omega
    clear hks
    have hexit : (k = 0 ∨ t.err ≠ 0) → rMany (rSuper bs) (rCount bs s).1 (rCount bs s).2 = (xs, t) := by
      intro hh
      rw [hg.out]
      cases k with
      | zero => simp [rMany]
      | succ k => simp [rMany, hh.resolve_left (by omega)]
    by_cases hk : k = 0
    · have hE := Lib.hid (hexit (.inl hk))
      subst hk
      clear hexit hbnd
      by_cases he : t.err = 0
      · have g1 : (t.err == 0) = true := by simp [he]
        go_wp2_with first | (go_at_call 138; refine (told_heaps hR _).mono ?_; rintro e w' ⟨rfl, rfl⟩) | (go_at_call 45; refine (rd_reads hR).mono ?_; rintro e w' ⟨rfl, rfl⟩)
        go_ret
        refine ⟨_, rfl, ?_, by rw [hE.out]; exact hR, hF⟩
        rw [hE.out]
        simp only [RdS.told, if_pos he]
        exact hown.slN hnew h.lt
      · have g1 : (t.err == 0) = false := by simp [he]
        go_wp2_with first | (go_at_call 138; refine (told_heaps hR _).mono ?_; rintro e w' ⟨rfl, rfl⟩) | (go_at_call 45; refine (rd_reads hR).mono ?_; rintro e w' ⟨rfl, rfl⟩)
        go_ret
        refine ⟨_, rfl, ?_, by rw [hE.out]; exact hR, hF⟩
        rw [hE.out]
        simp only [RdS.told, if_neg he]
        exact Sl.nil _ _ _
    · by_cases he : t.err = 0
      · have g1 : (t.err == 0) = true := by simp [he]
        have hx : rMany (rSuper bs) k t = ((rSuper bs t).1 :: (rMany (rSuper bs) (k - 1) (rSuper bs t).2).1, (rMany (rSuper bs) (k - 1) (rSuper bs t).2).2) := by
          obtain ⟨j, rfl⟩ : ∃ j, k = j + 1 := ⟨k - 1, by omega⟩
          simp [rMany, he]
        have HX := Lib.hid hx
        have hkp : 0 < k := by omega
        have hb2 : xs.length + 1 ≤ 1099511627776 := by omega
        have hk40 : k ≤ 1099511627776 := by have := Hks.out; omega
        clear hx he hexit hbnd
        have hone : ∀ u ∈ heapC (rSuper bs t).1, u.oneCell' = true := (by intro u hu; simp [heapC] at hu; rcases hu with rfl | rfl <;> rfl)
        have hrv := hnew.not hrb
        go_wp2_with first | (go_at_call 45; refine (rd_reads hR).mono ?_; rintro e w' ⟨rfl, rfl⟩) | ((go_at_call 101; refine (rd_super hR).mono ?_; rintro e w2 ⟨rfl, hR2, hF2⟩); have hown2 := hown.fr hF2 (by intro b hb; simp at hb; subst hb; exact hrv)) | (at_builtin; refine app_heap rfl (.tmp 17) (.tmp 20) _ rfl _ _ _ rfl (hown2.alloc _) _ _ _ rfl (src_alloc und_heaps _ (heapC (rSuper bs t).1) _ _ _ rfl hone) hb2 ?_; intro v' w3 hown3 hf3 hb3)
        have hF3 : Fr [rb] w w3 := ((hF.trans hF2).alloc _).app hf3 hnew
        go_roundw
        case rel =>
          refine ⟨k - 1, xs ++ [(rSuper bs t).1], _, by go_num, ?_, hnew.app hb3 (by have := hF.size; have := hF2.size; first | omega | (simp only [World.size_alloc]; omega)), h.step hF3 ((hR2.loc.alloc _).fr hf3 hrv) hR2.le, hF3, by have := Hks.out; simp; omega, Lib.hid ?_⟩
          · simpa using hown3
          · rw [hg.out, HX.out]; simp
        case measure => simp [intOf]; omega
      · have g1 : (t.err == 0) = false := by simp [he]
        have hE := Lib.hid (hexit (.inr he))
        have hkp : 0 < k := by omega
        clear hexit hbnd
        go_wp2_with first | (go_at_call 138; refine (told_heaps hR _).mono ?_; rintro e w' ⟨rfl, rfl⟩) | (go_at_call 45; refine (rd_reads hR).mono ?_; rintro e w' ⟨rfl, rfl⟩)
        go_ret
        refine ⟨_, rfl, ?_, by rw [hE.out]; exact hR, hF⟩
        rw [hE.out]
        simp only [RdS.told, if_neg he]
        exact Sl.nil _ _ _

end Go.Proofs.YtokneepfknepaaaDoor

set_option linter.unusedSimpArgs false
set_option linter.unusedVariables false
namespace Go.Proofs.YtokneepfknepaaaDoor
open Go.RowKit
def fieldV (f : FieldT) : Value := .agg #[.int .i64 f.pack, .int .i64 f.val.kind, .bool f.val.null, .int .i64 f.val.heap.kind, .int .i64 f.val.heap.n, .bool f.mut_]
attribute [go_sem] fieldV
theorem bit_eq (n : Nat) : (((n : Nat) : Int) == 1) = (n == 1) := by
  by_cases h : n = 1
  · subst h; rfl
  · have : (((n : Nat) : Int) == 1) = false := by simp; omega
    rw [this]; simp [h]

set_option maxRecDepth 100000 in
set_option maxHeartbeats 1600000 in
theorem rd_field {S : List Nat} {w : World} {rb : Nat} {bv : Value} {bs : List UInt8} {s : RdS} (h : Rd S w rb bv bs s) :
    Calls Tryd.prog 140 #[.pointer (some ⟨rb, 0, none⟩)] w fun e w' => e = .returned (fieldV (rField bs s).1) ∧ Rd S w' rb bv bs (rField bs s).2 ∧ Fr [rb] w w' := by
  have hle := h.le
  have hsm := h.small
  have hrb := h.loc.lt
  have hcl := rPeek_lt bs s
  have hR := (h.loc1 (.cells #[.int .i64 0, .int .i64 0, .bool false, .int .i64 0, .int .i64 0, .bool false] 155)).loc1 (.cells #[.int .i64 0, .int .i64 0, .bool false, .int .i64 0, .int .i64 0, .bool false] 155)
  rw [World.size_alloc] at hR
  have hA : Loc ((w.alloc (.cells #[.int .i64 0, .int .i64 0, .bool false, .int .i64 0, .int .i64 0, .bool false] 155)).alloc (.cells #[.int .i64 0, .int .i64 0, .bool false, .int .i64 0, .int .i64 0, .bool false] 155)) w.heap.size [.int .i64 0, .int .i64 0, .bool false, .int .i64 0, .int .i64 0, .bool false] 155 := (Loc.new _ _ _).alloc _
  have hB : Loc ((w.alloc (.cells #[.int .i64 0, .int .i64 0, .bool false, .int .i64 0, .int .i64 0, .bool false] 155)).alloc (.cells #[.int .i64 0, .int .i64 0, .bool false, .int .i64 0, .int .i64 0, .bool false] 155)) (w.heap.size + 1) [.int .i64 0, .int .i64 0, .bool false, .int .i64 0, .int .i64 0, .bool false] 155 := by
    have h1 := Loc.new (w.alloc (.cells #[.int .i64 0, .int .i64 0, .bool false, .int .i64 0, .int .i64 0, .bool false] 155)) [.int .i64 0, .int .i64 0, .bool false, .int .i64 0, .int .i64 0, .bool false] 155
    rw [World.size_alloc] at h1
    exact h1
  have f0 : Fr [rb] w ((w.alloc (.cells #[.int .i64 0, .int .i64 0, .bool false, .int .i64 0, .int .i64 0, .bool false] 155)).alloc (.cells #[.int .i64 0, .int .i64 0, .bool false, .int .i64 0, .int .i64 0, .bool false] 155)) := ((Fr.refl _ _).alloc _).alloc _
  by_cases hp1 : rPeek bs s = 120
  · skip
    have hst : rStore bs s = ((8, ⟨1, false, ⟨0, 0⟩⟩), s.next) := by unfold rStore; rw [if_pos hp1]
    have hlt := (peek_pos (s := s) (bs := bs) (by omega)).2.1
    have q1 : (((rPeek bs s : Nat) : Int) == 120) = true := by simp; omega
    have q2 : (((rPeek bs s : Nat) : Int) == 119) = false := by simp; omega
    by_cases hq : 1 < (rByte bs s.next).1
    · have hqi : (1 : Int) < (((rByte bs s.next).1 : Nat) : Int) := by omega
      have hf : rField bs s = (⟨8, ⟨1, false, ⟨0, 0⟩⟩, (rByte bs s.next).1 == 1⟩, (rByte bs s.next).2.form s.next.at_) := by unfold rField rBit; rw [hst]; simp only [if_pos hq]
      rw [hf]
      clear hst hf hq
      go_enter Tryd.func140, Tryd.ntmps140
      go_wp2_with first | ((go_at_call 46; refine (rd_peek hR).mono ?_; rintro e w' ⟨rfl, nq, rfl⟩); have hR0 := hR.drewN nq; have hB0 := hB.drewN nq; have hC0 := hR0.loc.cell; have hG0 := hR0.loc.frz; have hT0 := hR0.loc.lt; simp only [rdCells] at hC0; have hLC0 := hB0.cell; have hLF0 := hB0.frz; have hLT0 := hB0.lt) | fail
      have hE := rd_next (hR.drewN nq) hlt
      have hRX := fun v0 v1 v2 v3 v4 => ((((hE.setLoc (lb := w.heap.size + 1) (by simp) (by omega) 0 v0).setLoc (lb := w.heap.size + 1) (by simp) (by omega) 1 v1).setLoc (lb := w.heap.size + 1) (by simp) (by omega) 2 v2).setLoc (lb := w.heap.size + 1) (by simp) (by omega) 3 v3).setLoc (lb := w.heap.size + 1) (by simp) (by omega) 4 v4
      have hBX := fun v0 v1 v2 v3 v4 => (((((((hB.drewN nq).set' (p := ⟨rb, 0, none⟩) (by simp; omega) (.int .i64 ((s.at_ : Int) + 1))).set 0 v0).set 1 v1).set 2 v2).set 3 v3).set 4 v4)
      have hAX := fun v0 v1 v2 v3 v4 => ((((((((hA.drewN nq).set' (p := ⟨rb, 0, none⟩) (by simp; omega) (.int .i64 ((s.at_ : Int) + 1))).set' (p := ⟨w.heap.size + 1, 0, none⟩) (by simp) v0).set' (p := ⟨w.heap.size + 1, 1, none⟩) (by simp) v1).set' (p := ⟨w.heap.size + 1, 2, none⟩) (by simp) v2).set' (p := ⟨w.heap.size + 1, 3, none⟩) (by simp) v3).set' (p := ⟨w.heap.size + 1, 4, none⟩) (by simp) v4))
      have hle2 := hE.le
      go_wp2_with first | (go_at_call 22; refine (rd_at (hRX _ _ _ _ _)).mono ?_; rintro e w' ⟨rfl, rfl⟩) | ((go_at_call 12; refine (rd_byte (hRX _ _ _ _ _)).mono ?_; rintro e w5 ⟨rfl, hR5, hF5⟩); have hB5 := (hBX _ _ _ _ _).fr hF5 (by simp; omega); have hA5 := (hAX _ _ _ _ _).fr hF5 (by simp; omega); have hLC5 := hB5.cell; have hLF5 := hB5.frz; have hLT5 := hB5.lt; have hLC7 := hA5.cell; have hLF7 := hA5.frz; have hLT7 := hA5.lt) | ((go_at_call 60; refine (rd_form hR5 _ hle2).mono ?_; rintro e w6 ⟨rfl, hR6, hF6⟩); have hB6 := hB5.fr hF6 (by simp; omega); have hA6 := hA5.fr hF6 (by simp; omega); have hLC6 := hB6.cell; have hLF6 := hB6.frz; have hLT6 := hB6.lt; have hLC8 := hA6.cell; have hLF8 := hA6.frz; have hLT8 := hA6.lt)
      have f5 : Fr [rb] w w5 := Fr.trans (by repeat (first | (with_reducible exact Fr.refl _ _) | (with_reducible assumption) | (with_reducible apply Fr.alloc) | (with_reducible apply Fr.drew) | (with_reducible apply Fr.drewN) | (with_reducible refine Fr.setCell ?_ (by first | (left; simp; done) | (right; simp; done) | (right; simp; omega)) _))) hF5
      have f6 : Fr [rb] w w6 := f5.trans hF6
      refine bodyPost_ret (v := fieldV ⟨8, ⟨1, false, ⟨0, 0⟩⟩, (rByte bs s.next).1 == 1⟩) (by simp [results, Tryd.results140, go_sem, bit_eq, *]) rfl ⟨rfl, ?_, ?_⟩
      · refine Rd.un1 (lb := w.heap.size) (Rd.un1 (lb := w.heap.size + 1) ?_ (by simp; exact .inr h.mem)) h.mem
        repeat (first | (with_reducible assumption) | (with_reducible refine Rd.setLoc ?_ (by simp) (by omega) _ _) | (with_reducible apply Rd.alloc) | (with_reducible apply Rd.drewN))
      · repeat (first | (with_reducible exact Fr.refl _ _) | (with_reducible assumption) | (with_reducible apply Fr.alloc) | (with_reducible apply Fr.drew) | (with_reducible apply Fr.drewN) | (with_reducible refine Fr.setCell ?_ (by first | (left; simp; done) | (right; simp; done) | (right; simp; omega)) _))
    · have hqi : ¬ (1 : Int) < (((rByte bs s.next).1 : Nat) : Int) := by omega
      have hf : rField bs s = (⟨8, ⟨1, false, ⟨0, 0⟩⟩, (rByte bs s.next).1 == 1⟩, (rByte bs s.next).2) := by unfold rField rBit; rw [hst]; simp only [if_neg hq]
      rw [hf]
      clear hst hf hq
      go_enter Tryd.func140, Tryd.ntmps140
      go_wp2_with first | ((go_at_call 46; refine (rd_peek hR).mono ?_; rintro e w' ⟨rfl, nq, rfl⟩); have hR0 := hR.drewN nq; have hB0 := hB.drewN nq; have hC0 := hR0.loc.cell; have hG0 := hR0.loc.frz; have hT0 := hR0.loc.lt; simp only [rdCells] at hC0; have hLC0 := hB0.cell; have hLF0 := hB0.frz; have hLT0 := hB0.lt) | fail
      have hE := rd_next (hR.drewN nq) hlt
      have hRX := fun v0 v1 v2 v3 v4 => ((((hE.setLoc (lb := w.heap.size + 1) (by simp) (by omega) 0 v0).setLoc (lb := w.heap.size + 1) (by simp) (by omega) 1 v1).setLoc (lb := w.heap.size + 1) (by simp) (by omega) 2 v2).setLoc (lb := w.heap.size + 1) (by simp) (by omega) 3 v3).setLoc (lb := w.heap.size + 1) (by simp) (by omega) 4 v4
      have hBX := fun v0 v1 v2 v3 v4 => (((((((hB.drewN nq).set' (p := ⟨rb, 0, none⟩) (by simp; omega) (.int .i64 ((s.at_ : Int) + 1))).set 0 v0).set 1 v1).set 2 v2).set 3 v3).set 4 v4)
      have hAX := fun v0 v1 v2 v3 v4 => ((((((((hA.drewN nq).set' (p := ⟨rb, 0, none⟩) (by simp; omega) (.int .i64 ((s.at_ : Int) + 1))).set' (p := ⟨w.heap.size + 1, 0, none⟩) (by simp) v0).set' (p := ⟨w.heap.size + 1, 1, none⟩) (by simp) v1).set' (p := ⟨w.heap.size + 1, 2, none⟩) (by simp) v2).set' (p := ⟨w.heap.size + 1, 3, none⟩) (by simp) v3).set' (p := ⟨w.heap.size + 1, 4, none⟩) (by simp) v4))
      have hle2 := hE.le
      go_wp2_with first | (go_at_call 22; refine (rd_at (hRX _ _ _ _ _)).mono ?_; rintro e w' ⟨rfl, rfl⟩) | ((go_at_call 12; refine (rd_byte (hRX _ _ _ _ _)).mono ?_; rintro e w5 ⟨rfl, hR5, hF5⟩); have hB5 := (hBX _ _ _ _ _).fr hF5 (by simp; omega); have hA5 := (hAX _ _ _ _ _).fr hF5 (by simp; omega); have hLC5 := hB5.cell; have hLF5 := hB5.frz; have hLT5 := hB5.lt; have hLC7 := hA5.cell; have hLF7 := hA5.frz; have hLT7 := hA5.lt)
      have f5 : Fr [rb] w w5 := Fr.trans (by repeat (first | (with_reducible exact Fr.refl _ _) | (with_reducible assumption) | (with_reducible apply Fr.alloc) | (with_reducible apply Fr.drew) | (with_reducible apply Fr.drewN) | (with_reducible refine Fr.setCell ?_ (by first | (left; simp; done) | (right; simp; done) | (right; simp; omega)) _))) hF5
      refine bodyPost_ret (v := fieldV ⟨8, ⟨1, false, ⟨0, 0⟩⟩, (rByte bs s.next).1 == 1⟩) (by simp [results, Tryd.results140, go_sem, bit_eq, *]) rfl ⟨rfl, ?_, ?_⟩
      · refine Rd.un1 (lb := w.heap.size) (Rd.un1 (lb := w.heap.size + 1) ?_ (by simp; exact .inr h.mem)) h.mem
        repeat (first | (with_reducible assumption) | (with_reducible refine Rd.setLoc ?_ (by simp) (by omega) _ _) | (with_reducible apply Rd.alloc) | (with_reducible apply Rd.drewN))
      · repeat (first | (with_reducible exact Fr.refl _ _) | (with_reducible assumption) | (with_reducible apply Fr.alloc) | (with_reducible apply Fr.drew) | (with_reducible apply Fr.drewN) | (with_reducible refine Fr.setCell ?_ (by first | (left; simp; done) | (right; simp; done) | (right; simp; omega)) _))

  · by_cases hp2 : rPeek bs s = 119
    · skip
      have hst : rStore bs s = ((16, ⟨1, false, ⟨0, 0⟩⟩), s.next) := by unfold rStore; rw [if_neg hp1, if_pos hp2]
      have hlt := (peek_pos (s := s) (bs := bs) (by omega)).2.1
      have q1 : (((rPeek bs s : Nat) : Int) == 120) = false := by simp; omega
      have q2 : (((rPeek bs s : Nat) : Int) == 119) = true := by simp; omega
      by_cases hq : 1 < (rByte bs s.next).1
      · have hqi : (1 : Int) < (((rByte bs s.next).1 : Nat) : Int) := by omega
        have hf : rField bs s = (⟨16, ⟨1, false, ⟨0, 0⟩⟩, (rByte bs s.next).1 == 1⟩, (rByte bs s.next).2.form s.next.at_) := by unfold rField rBit; rw [hst]; simp only [if_pos hq]
        rw [hf]
        clear hst hf hq
        go_enter Tryd.func140, Tryd.ntmps140
        go_wp2_with first | ((go_at_call 46; refine (rd_peek hR).mono ?_; rintro e w' ⟨rfl, nq, rfl⟩); have hR0 := hR.drewN nq; have hB0 := hB.drewN nq; have hC0 := hR0.loc.cell; have hG0 := hR0.loc.frz; have hT0 := hR0.loc.lt; simp only [rdCells] at hC0; have hLC0 := hB0.cell; have hLF0 := hB0.frz; have hLT0 := hB0.lt) | fail
        have hE := rd_next (hR.drewN nq) hlt
        have hRX := fun v0 v1 v2 v3 v4 => ((((hE.setLoc (lb := w.heap.size + 1) (by simp) (by omega) 0 v0).setLoc (lb := w.heap.size + 1) (by simp) (by omega) 1 v1).setLoc (lb := w.heap.size + 1) (by simp) (by omega) 2 v2).setLoc (lb := w.heap.size + 1) (by simp) (by omega) 3 v3).setLoc (lb := w.heap.size + 1) (by simp) (by omega) 4 v4
        have hBX := fun v0 v1 v2 v3 v4 => (((((((hB.drewN nq).set' (p := ⟨rb, 0, none⟩) (by simp; omega) (.int .i64 ((s.at_ : Int) + 1))).set 0 v0).set 1 v1).set 2 v2).set 3 v3).set 4 v4)
        have hAX := fun v0 v1 v2 v3 v4 => ((((((((hA.drewN nq).set' (p := ⟨rb, 0, none⟩) (by simp; omega) (.int .i64 ((s.at_ : Int) + 1))).set' (p := ⟨w.heap.size + 1, 0, none⟩) (by simp) v0).set' (p := ⟨w.heap.size + 1, 1, none⟩) (by simp) v1).set' (p := ⟨w.heap.size + 1, 2, none⟩) (by simp) v2).set' (p := ⟨w.heap.size + 1, 3, none⟩) (by simp) v3).set' (p := ⟨w.heap.size + 1, 4, none⟩) (by simp) v4))
        have hle2 := hE.le
        go_wp2_with first | (go_at_call 22; refine (rd_at (hRX _ _ _ _ _)).mono ?_; rintro e w' ⟨rfl, rfl⟩) | ((go_at_call 12; refine (rd_byte (hRX _ _ _ _ _)).mono ?_; rintro e w5 ⟨rfl, hR5, hF5⟩); have hB5 := (hBX _ _ _ _ _).fr hF5 (by simp; omega); have hA5 := (hAX _ _ _ _ _).fr hF5 (by simp; omega); have hLC5 := hB5.cell; have hLF5 := hB5.frz; have hLT5 := hB5.lt; have hLC7 := hA5.cell; have hLF7 := hA5.frz; have hLT7 := hA5.lt) | ((go_at_call 60; refine (rd_form hR5 _ hle2).mono ?_; rintro e w6 ⟨rfl, hR6, hF6⟩); have hB6 := hB5.fr hF6 (by simp; omega); have hA6 := hA5.fr hF6 (by simp; omega); have hLC6 := hB6.cell; have hLF6 := hB6.frz; have hLT6 := hB6.lt; have hLC8 := hA6.cell; have hLF8 := hA6.frz; have hLT8 := hA6.lt)
        have f5 : Fr [rb] w w5 := Fr.trans (by repeat (first | (with_reducible exact Fr.refl _ _) | (with_reducible assumption) | (with_reducible apply Fr.alloc) | (with_reducible apply Fr.drew) | (with_reducible apply Fr.drewN) | (with_reducible refine Fr.setCell ?_ (by first | (left; simp; done) | (right; simp; done) | (right; simp; omega)) _))) hF5
        have f6 : Fr [rb] w w6 := f5.trans hF6
        refine bodyPost_ret (v := fieldV ⟨16, ⟨1, false, ⟨0, 0⟩⟩, (rByte bs s.next).1 == 1⟩) (by simp [results, Tryd.results140, go_sem, bit_eq, *]) rfl ⟨rfl, ?_, ?_⟩
        · refine Rd.un1 (lb := w.heap.size) (Rd.un1 (lb := w.heap.size + 1) ?_ (by simp; exact .inr h.mem)) h.mem
          repeat (first | (with_reducible assumption) | (with_reducible refine Rd.setLoc ?_ (by simp) (by omega) _ _) | (with_reducible apply Rd.alloc) | (with_reducible apply Rd.drewN))
        · repeat (first | (with_reducible exact Fr.refl _ _) | (with_reducible assumption) | (with_reducible apply Fr.alloc) | (with_reducible apply Fr.drew) | (with_reducible apply Fr.drewN) | (with_reducible refine Fr.setCell ?_ (by first | (left; simp; done) | (right; simp; done) | (right; simp; omega)) _))
      · have hqi : ¬ (1 : Int) < (((rByte bs s.next).1 : Nat) : Int) := by omega
        have hf : rField bs s = (⟨16, ⟨1, false, ⟨0, 0⟩⟩, (rByte bs s.next).1 == 1⟩, (rByte bs s.next).2) := by unfold rField rBit; rw [hst]; simp only [if_neg hq]
        rw [hf]
        clear hst hf hq
        go_enter Tryd.func140, Tryd.ntmps140
        go_wp2_with first | ((go_at_call 46; refine (rd_peek hR).mono ?_; rintro e w' ⟨rfl, nq, rfl⟩); have hR0 := hR.drewN nq; have hB0 := hB.drewN nq; have hC0 := hR0.loc.cell; have hG0 := hR0.loc.frz; have hT0 := hR0.loc.lt; simp only [rdCells] at hC0; have hLC0 := hB0.cell; have hLF0 := hB0.frz; have hLT0 := hB0.lt) | fail
        have hE := rd_next (hR.drewN nq) hlt
        have hRX := fun v0 v1 v2 v3 v4 => ((((hE.setLoc (lb := w.heap.size + 1) (by simp) (by omega) 0 v0).setLoc (lb := w.heap.size + 1) (by simp) (by omega) 1 v1).setLoc (lb := w.heap.size + 1) (by simp) (by omega) 2 v2).setLoc (lb := w.heap.size + 1) (by simp) (by omega) 3 v3).setLoc (lb := w.heap.size + 1) (by simp) (by omega) 4 v4
        have hBX := fun v0 v1 v2 v3 v4 => (((((((hB.drewN nq).set' (p := ⟨rb, 0, none⟩) (by simp; omega) (.int .i64 ((s.at_ : Int) + 1))).set 0 v0).set 1 v1).set 2 v2).set 3 v3).set 4 v4)
        have hAX := fun v0 v1 v2 v3 v4 => ((((((((hA.drewN nq).set' (p := ⟨rb, 0, none⟩) (by simp; omega) (.int .i64 ((s.at_ : Int) + 1))).set' (p := ⟨w.heap.size + 1, 0, none⟩) (by simp) v0).set' (p := ⟨w.heap.size + 1, 1, none⟩) (by simp) v1).set' (p := ⟨w.heap.size + 1, 2, none⟩) (by simp) v2).set' (p := ⟨w.heap.size + 1, 3, none⟩) (by simp) v3).set' (p := ⟨w.heap.size + 1, 4, none⟩) (by simp) v4))
        have hle2 := hE.le
        go_wp2_with first | (go_at_call 22; refine (rd_at (hRX _ _ _ _ _)).mono ?_; rintro e w' ⟨rfl, rfl⟩) | ((go_at_call 12; refine (rd_byte (hRX _ _ _ _ _)).mono ?_; rintro e w5 ⟨rfl, hR5, hF5⟩); have hB5 := (hBX _ _ _ _ _).fr hF5 (by simp; omega); have hA5 := (hAX _ _ _ _ _).fr hF5 (by simp; omega); have hLC5 := hB5.cell; have hLF5 := hB5.frz; have hLT5 := hB5.lt; have hLC7 := hA5.cell; have hLF7 := hA5.frz; have hLT7 := hA5.lt)
        have f5 : Fr [rb] w w5 := Fr.trans (by repeat (first | (with_reducible exact Fr.refl _ _) | (with_reducible assumption) | (with_reducible apply Fr.alloc) | (with_reducible apply Fr.drew) | (with_reducible apply Fr.drewN) | (with_reducible refine Fr.setCell ?_ (by first | (left; simp; done) | (right; simp; done) | (right; simp; omega)) _))) hF5
        refine bodyPost_ret (v := fieldV ⟨16, ⟨1, false, ⟨0, 0⟩⟩, (rByte bs s.next).1 == 1⟩) (by simp [results, Tryd.results140, go_sem, bit_eq, *]) rfl ⟨rfl, ?_, ?_⟩
        · refine Rd.un1 (lb := w.heap.size) (Rd.un1 (lb := w.heap.size + 1) ?_ (by simp; exact .inr h.mem)) h.mem
          repeat (first | (with_reducible assumption) | (with_reducible refine Rd.setLoc ?_ (by simp) (by omega) _ _) | (with_reducible apply Rd.alloc) | (with_reducible apply Rd.drewN))
        · repeat (first | (with_reducible exact Fr.refl _ _) | (with_reducible assumption) | (with_reducible apply Fr.alloc) | (with_reducible apply Fr.drew) | (with_reducible apply Fr.drewN) | (with_reducible refine Fr.setCell ?_ (by first | (left; simp; done) | (right; simp; done) | (right; simp; omega)) _))

    · skip
      have hst : rStore bs s = ((0, (rVal bs s).1), (rVal bs s).2) := by unfold rStore; rw [if_neg hp1, if_neg hp2]
      have q1 : (((rPeek bs s : Nat) : Int) == 120) = false := by simp; omega
      have q2 : (((rPeek bs s : Nat) : Int) == 119) = false := by simp; omega
      by_cases hq : 1 < (rByte bs (rVal bs s).2).1
      · have hqi : (1 : Int) < (((rByte bs (rVal bs s).2).1 : Nat) : Int) := by omega
        have hf : rField bs s = (⟨0, (rVal bs s).1, (rByte bs (rVal bs s).2).1 == 1⟩, (rByte bs (rVal bs s).2).2.form (rVal bs s).2.at_) := by unfold rField rBit; rw [hst]; simp only [if_pos hq]
        rw [hf]
        clear hst hf hq
        go_enter Tryd.func140, Tryd.ntmps140
        go_wp2_with first | ((go_at_call 46; refine (rd_peek hR).mono ?_; rintro e w' ⟨rfl, nq, rfl⟩); have hR0 := hR.drewN nq; have hB0 := hB.drewN nq; have hA0 := hA.drewN nq; have hLC0 := hB0.cell; have hLF0 := hB0.frz; have hLT0 := hB0.lt) | ((go_at_call 19; refine (rd_val (hR.drewN nq)).mono ?_; rintro e w2 ⟨rfl, hR2, hF2⟩); have hB2 := (hB.drewN nq).fr hF2 (by simp; omega); have hA2 := (hA.drewN nq).fr hF2 (by simp; omega); have hLC2 := hB2.cell; have hLF2 := hB2.frz; have hLT2 := hB2.lt) | fail
        have hRX := fun v1 v2 v3 v4 => (((hR2.setLoc (lb := w.heap.size + 1) (by simp) (by omega) 1 v1).setLoc (lb := w.heap.size + 1) (by simp) (by omega) 2 v2).setLoc (lb := w.heap.size + 1) (by simp) (by omega) 3 v3).setLoc (lb := w.heap.size + 1) (by simp) (by omega) 4 v4
        have hBX := fun v1 v2 v3 v4 => ((((hB2.set 1 v1).set 2 v2).set 3 v3).set 4 v4)
        have hAX := fun v1 v2 v3 v4 => ((((hA2.set' (p := ⟨w.heap.size + 1, 1, none⟩) (by simp) v1).set' (p := ⟨w.heap.size + 1, 2, none⟩) (by simp) v2).set' (p := ⟨w.heap.size + 1, 3, none⟩) (by simp) v3).set' (p := ⟨w.heap.size + 1, 4, none⟩) (by simp) v4)
        have hle2 := hR2.le
        go_wp2_with first | (go_at_call 22; refine (rd_at (hRX _ _ _ _)).mono ?_; rintro e w' ⟨rfl, rfl⟩) | ((go_at_call 12; refine (rd_byte (hRX _ _ _ _)).mono ?_; rintro e w5 ⟨rfl, hR5, hF5⟩); have hB5 := (hBX _ _ _ _).fr hF5 (by simp; omega); have hA5 := (hAX _ _ _ _).fr hF5 (by simp; omega); have hLC5 := hB5.cell; have hLF5 := hB5.frz; have hLT5 := hB5.lt; have hLC7 := hA5.cell; have hLF7 := hA5.frz; have hLT7 := hA5.lt) | ((go_at_call 60; refine (rd_form hR5 _ hle2).mono ?_; rintro e w6 ⟨rfl, hR6, hF6⟩); have hB6 := hB5.fr hF6 (by simp; omega); have hA6 := hA5.fr hF6 (by simp; omega); have hLC6 := hB6.cell; have hLF6 := hB6.frz; have hLT6 := hB6.lt; have hLC8 := hA6.cell; have hLF8 := hA6.frz; have hLT8 := hA6.lt)
        have f2 : Fr [rb] w w2 := Fr.trans (by repeat (first | (with_reducible exact Fr.refl _ _) | (with_reducible assumption) | (with_reducible apply Fr.alloc) | (with_reducible apply Fr.drew) | (with_reducible apply Fr.drewN) | (with_reducible refine Fr.setCell ?_ (by first | (left; simp; done) | (right; simp; done) | (right; simp; omega)) _))) hF2
        have f5 : Fr [rb] w w5 := Fr.trans (by repeat (first | (with_reducible exact Fr.refl _ _) | (with_reducible assumption) | (with_reducible apply Fr.alloc) | (with_reducible apply Fr.drew) | (with_reducible apply Fr.drewN) | (with_reducible refine Fr.setCell ?_ (by first | (left; simp; done) | (right; simp; done) | (right; simp; omega)) _))) hF5
        have f6 : Fr [rb] w w6 := f5.trans hF6
        refine bodyPost_ret (v := fieldV ⟨0, (rVal bs s).1, (rByte bs (rVal bs s).2).1 == 1⟩) (by simp [results, Tryd.results140, go_sem, bit_eq, *]) rfl ⟨rfl, ?_, ?_⟩
        · refine Rd.un1 (lb := w.heap.size) (Rd.un1 (lb := w.heap.size + 1) ?_ (by simp; exact .inr h.mem)) h.mem
          repeat (first | (with_reducible assumption) | (with_reducible refine Rd.setLoc ?_ (by simp) (by omega) _ _) | (with_reducible apply Rd.alloc) | (with_reducible apply Rd.drewN))
        · repeat (first | (with_reducible exact Fr.refl _ _) | (with_reducible assumption) | (with_reducible apply Fr.alloc) | (with_reducible apply Fr.drew) | (with_reducible apply Fr.drewN) | (with_reducible refine Fr.setCell ?_ (by first | (left; simp; done) | (right; simp; done) | (right; simp; omega)) _))
      · have hqi : ¬ (1 : Int) < (((rByte bs (rVal bs s).2).1 : Nat) : Int) := by omega
        have hf : rField bs s = (⟨0, (rVal bs s).1, (rByte bs (rVal bs s).2).1 == 1⟩, (rByte bs (rVal bs s).2).2) := by unfold rField rBit; rw [hst]; simp only [if_neg hq]
        rw [hf]
        clear hst hf hq
        go_enter Tryd.func140, Tryd.ntmps140
        go_wp2_with first | ((go_at_call 46; refine (rd_peek hR).mono ?_; rintro e w' ⟨rfl, nq, rfl⟩); have hR0 := hR.drewN nq; have hB0 := hB.drewN nq; have hA0 := hA.drewN nq; have hLC0 := hB0.cell; have hLF0 := hB0.frz; have hLT0 := hB0.lt) | ((go_at_call 19; refine (rd_val (hR.drewN nq)).mono ?_; rintro e w2 ⟨rfl, hR2, hF2⟩); have hB2 := (hB.drewN nq).fr hF2 (by simp; omega); have hA2 := (hA.drewN nq).fr hF2 (by simp; omega); have hLC2 := hB2.cell; have hLF2 := hB2.frz; have hLT2 := hB2.lt) | fail
        have hRX := fun v1 v2 v3 v4 => (((hR2.setLoc (lb := w.heap.size + 1) (by simp) (by omega) 1 v1).setLoc (lb := w.heap.size + 1) (by simp) (by omega) 2 v2).setLoc (lb := w.heap.size + 1) (by simp) (by omega) 3 v3).setLoc (lb := w.heap.size + 1) (by simp) (by omega) 4 v4
        have hBX := fun v1 v2 v3 v4 => ((((hB2.set 1 v1).set 2 v2).set 3 v3).set 4 v4)
        have hAX := fun v1 v2 v3 v4 => ((((hA2.set' (p := ⟨w.heap.size + 1, 1, none⟩) (by simp) v1).set' (p := ⟨w.heap.size + 1, 2, none⟩) (by simp) v2).set' (p := ⟨w.heap.size + 1, 3, none⟩) (by simp) v3).set' (p := ⟨w.heap.size + 1, 4, none⟩) (by simp) v4)
        have hle2 := hR2.le
        go_wp2_with first | (go_at_call 22; refine (rd_at (hRX _ _ _ _)).mono ?_; rintro e w' ⟨rfl, rfl⟩) | ((go_at_call 12; refine (rd_byte (hRX _ _ _ _)).mono ?_; rintro e w5 ⟨rfl, hR5, hF5⟩); have hB5 := (hBX _ _ _ _).fr hF5 (by simp; omega); have hA5 := (hAX _ _ _ _).fr hF5 (by simp; omega); have hLC5 := hB5.cell; have hLF5 := hB5.frz; have hLT5 := hB5.lt; have hLC7 := hA5.cell; have hLF7 := hA5.frz; have hLT7 := hA5.lt)
        have f2 : Fr [rb] w w2 := Fr.trans (by repeat (first | (with_reducible exact Fr.refl _ _) | (with_reducible assumption) | (with_reducible apply Fr.alloc) | (with_reducible apply Fr.drew) | (with_reducible apply Fr.drewN) | (with_reducible refine Fr.setCell ?_ (by first | (left; simp; done) | (right; simp; done) | (right; simp; omega)) _))) hF2
        have f5 : Fr [rb] w w5 := Fr.trans (by repeat (first | (with_reducible exact Fr.refl _ _) | (with_reducible assumption) | (with_reducible apply Fr.alloc) | (with_reducible apply Fr.drew) | (with_reducible apply Fr.drewN) | (with_reducible refine Fr.setCell ?_ (by first | (left; simp; done) | (right; simp; done) | (right; simp; omega)) _))) hF5
        refine bodyPost_ret (v := fieldV ⟨0, (rVal bs s).1, (rByte bs (rVal bs s).2).1 == 1⟩) (by simp [results, Tryd.results140, go_sem, bit_eq, *]) rfl ⟨rfl, ?_, ?_⟩
        · refine Rd.un1 (lb := w.heap.size) (Rd.un1 (lb := w.heap.size + 1) ?_ (by simp; exact .inr h.mem)) h.mem
          repeat (first | (with_reducible assumption) | (with_reducible refine Rd.setLoc ?_ (by simp) (by omega) _ _) | (with_reducible apply Rd.alloc) | (with_reducible apply Rd.drewN))
        · repeat (first | (with_reducible exact Fr.refl _ _) | (with_reducible assumption) | (with_reducible apply Fr.alloc) | (with_reducible apply Fr.drew) | (with_reducible apply Fr.drewN) | (with_reducible refine Fr.setCell ?_ (by first | (left; simp; done) | (right; simp; done) | (right; simp; omega)) _))


theorem info_field : (Tryd.prog.info? 155).map (fun i => (i.zero, i.size, i.bytes)) = some (some (.agg #[.int .i64 0, .int .i64 0, .bool false, .int .i64 0, .int .i64 0, .bool false]), 6, 48) := by kernel_rfl
theorem und_fields : Tryd.prog.underlying 56 = some (.slice 155) := by kernel_rfl
/-- append on such a slice of the call's own. -/
theorem app_field {w : World} {ops : Array Oper} {rest : List Oper} {o : Oper} {a : Act} {Q : Exit → Act → World → Prop} (hgd : o.guard = none) (s x : Operand) (tx : TypeId)
    (ho : o.op = .call { callee := .builtin .append, args := #[s, x], argTypes := #[56, tx] })
    (v : Value) (n : Nat) (xs : List Value) (hs : a.eval s = v) (hown : Own [] w 155 6 v n xs) (xv : Value) (m : Nat) (news : List Value) (hx : a.eval x = xv) (hsrc : Src Tryd.prog 6 tx xv m news w)
    (hb : n + m ≤ 1099511627776)
    (h : ∀ v' w', Own [] w' 155 6 v' (n + m) (xs ++ news) → Fr (Value.blk v) w w' → (Value.blk v' = Value.blk v ∨ Value.blk v' = [w.heap.size]) → wpList Tryd.prog ops Q rest (a.put o.dst v') w') :
    wpList Tryd.prog ops Q (o :: rest) a w := by
  obtain ⟨i0, hi, hz0, hz1, hz2⟩ := info_parts info_field
  exact wpList_app hgd s x _ tx ho _ i0 _ 6 48 und_fields hi hz0 hz1 hz2 rfl (by decide) [] (by simp) v n xs hs hown xv m news hx hsrc (by omega) (by unfold maxLen; omega) h

set_option maxRecDepth 100000 in
set_option maxHeartbeats 400000 in
theorem told_fields {S : List Nat} {w : World} {rb : Nat} {bv : Value} {bs : List UInt8} {s : RdS} (h : Rd S w rb bv bs s) (v : Value) :
    Calls Tryd.prog 147 #[.pointer (some ⟨rb, 0, none⟩), v] w fun e w' => e = .returned (if s.err = 0 then v else .slice none 0 0) ∧ w = w' := by
  by_cases he : s.err = 0
  · have g1 : (s.err == 0) = true := by simp [he]
    rw [if_pos he]
    clear he
    go_enter Tryd.func147, Tryd.ntmps147
    go_wp2_with (go_at_call 45; refine (rd_reads h).mono ?_; rintro e w' ⟨rfl, rfl⟩)
    go_ret
    exact ⟨rfl, rfl⟩
  · have g1 : (s.err == 0) = false := by simp [he]
    rw [if_neg he]
    clear he
    go_enter Tryd.func147, Tryd.ntmps147
    go_wp2_with (go_at_call 45; refine (rd_reads h).mono ?_; rintro e w' ⟨rfl, rfl⟩)
    go_ret
    exact ⟨rfl, rfl⟩

set_option maxRecDepth 100000 in
set_option maxHeartbeats 1600000 in
theorem list_field {S : List Nat} {w : World} {rb : Nat} {bv : Value} {bs : List UInt8} {s : RdS} (h : Rd S w rb bv bs s) :
    Calls Tryd.prog 139 #[.pointer (some ⟨rb, 0, none⟩), .func (.func 140) #[.pointer (some ⟨rb, 0, none⟩)] #[]] w fun e w' =>
      ∃ v, e = .returned v ∧ Sl S w' 6 v (rList bs (rField bs) s).1.length ((rList bs (rField bs) s).1.flatMap fieldC) ∧ Rd S w' rb bv bs (rList bs (rField bs) s).2 ∧ Fr [rb] w w' := by
  have hrb := h.loc.lt
  have hsm := h.small
  have hN := rCount_le bs s
  have hl : rList bs (rField bs) s = ((rMany (rField bs) (rCount bs s).1 (rCount bs s).2).2.told [] (rMany (rField bs) (rCount bs s).1 (rCount bs s).2).1, (rMany (rField bs) (rCount bs s).1 (rCount bs s).2).2) := rfl
  rw [hl]
  clear hl
  go_enter Tryd.func139, Tryd.ntmps139
  go_wp2_with (go_at_call 16; refine (rd_count h).mono ?_; rintro e w1 ⟨rfl, hR1, hF1⟩)
  go_loopw [5, 6] (fun v n wr => ∃ (k : Nat) (xs : List FieldT) (t : RdS), n = .int .i64 k ∧ Own [] wr 155 6 v xs.length (xs.flatMap fieldC) ∧ New w v ∧ Rd S wr rb bv bs t ∧ Fr [rb] w wr ∧ k + xs.length = (rCount bs s).1 ∧ Hid (rMany (rField bs) (rCount bs s).1 (rCount bs s).2 = (xs ++ (rMany (rField bs) k t).1, (rMany (rField bs) k t).2))) (fun _ n _ => (intOf n).toNat)
  case atStart => exact ⟨(rCount bs s).1, [], _, rfl, Own.nil _ _ _ _, New.nil _, hR1, hF1, by simp, Lib.hid rfl⟩
  case round =>
    obtain ⟨k, xs, t, rfl, hown, hnew, hR, hF, hks, hg⟩ := hrel
    have Hks := Lib.hid hks
    have hbnd : xs.length + 1 ≤ 1099511627776 ∨ k = 0 := by omega
    clear hks
    have hexit : (k = 0 ∨ t.err ≠ 0) → rMany (rField bs) (rCount bs s).1 (rCount bs s).2 = (xs, t) := by
      intro hh
      rw [hg.out]
      cases k with
      | zero => simp [rMany]
      | succ k => simp [rMany, hh.resolve_left (by omega)]
    by_cases hk : k = 0
    · have hE := Lib.hid (hexit (.inl hk))
      subst hk
      clear hexit hbnd
      by_cases he : t.err = 0
      · have g1 : (t.err == 0) = true := by simp [he]
        go_wp2_with first | (go_at_call 147; refine (told_fields hR _).mono ?_; rintro e w' ⟨rfl, rfl⟩) | (go_at_call 45; refine (rd_reads hR).mono ?_; rintro e w' ⟨rfl, rfl⟩)
        go_ret
        refine ⟨_, rfl, ?_, by rw [hE.out]; exact hR, hF⟩
        rw [hE.out]
        simp only [RdS.told, if_pos he]
        exact hown.slN hnew h.lt
      · have g1 : (t.err == 0) = false := by simp [he]
        go_wp2_with first | (go_at_call 147; refine (told_fields hR _).mono ?_; rintro e w' ⟨rfl, rfl⟩) | (go_at_call 45; refine (rd_reads hR).mono ?_; rintro e w' ⟨rfl, rfl⟩)
        go_ret
        refine ⟨_, rfl, ?_, by rw [hE.out]; exact hR, hF⟩
        rw [hE.out]
        simp only [RdS.told, if_neg he]
        exact Sl.nil _ _ _
    · by_cases he : t.err = 0
      · have g1 : (t.err == 0) = true := by simp [he]
        have hx : rMany (rField bs) k t = ((rField bs t).1 :: (rMany (rField bs) (k - 1) (rField bs t).2).1, (rMany (rField bs) (k - 1) (rField bs t).2).2) := by
          obtain ⟨j, rfl⟩ : ∃ j, k = j + 1 := ⟨k - 1, by omega⟩
          simp [rMany, he]
        have HX := Lib.hid hx
        have hkp : 0 < k := by omega
        have hb2 : xs.length + 1 ≤ 1099511627776 := by omega
        have hk40 : k ≤ 1099511627776 := by have := Hks.out; omega
        clear hx he hexit hbnd
        have hone : ∀ u ∈ fieldC (rField bs t).1, u.oneCell' = true := (by intro u hu; simp [fieldC] at hu; rcases hu with rfl | rfl | rfl | rfl | rfl | rfl <;> rfl)
        have hrv := hnew.not hrb
        go_wp2_with first | (go_at_call 45; refine (rd_reads hR).mono ?_; rintro e w' ⟨rfl, rfl⟩) | ((go_at_call 140; refine (rd_field hR).mono ?_; rintro e w2 ⟨rfl, hR2, hF2⟩); have hown2 := hown.fr hF2 (by intro b hb; simp at hb; subst hb; exact hrv)) | (at_builtin; refine app_field rfl (.tmp 17) (.tmp 20) _ rfl _ _ _ rfl (hown2.alloc _) _ _ _ rfl (src_alloc und_fields _ (fieldC (rField bs t).1) _ _ _ rfl hone) hb2 ?_; intro v' w3 hown3 hf3 hb3)
        have hF3 : Fr [rb] w w3 := ((hF.trans hF2).alloc _).app hf3 hnew
        go_roundw
        case rel =>
          refine ⟨k - 1, xs ++ [(rField bs t).1], _, by go_num, ?_, hnew.app hb3 (by have := hF.size; have := hF2.size; first | omega | (simp only [World.size_alloc]; omega)), h.step hF3 ((hR2.loc.alloc _).fr hf3 hrv) hR2.le, hF3, by have := Hks.out; simp; omega, Lib.hid ?_⟩
          · simpa using hown3
          · rw [hg.out, HX.out]; simp
        case measure => simp [intOf]; omega
      · have g1 : (t.err == 0) = false := by simp [he]
        have hE := Lib.hid (hexit (.inr he))
        have hkp : 0 < k := by omega
        clear hexit hbnd
        go_wp2_with first | (go_at_call 147; refine (told_fields hR _).mono ?_; rintro e w' ⟨rfl, rfl⟩) | (go_at_call 45; refine (rd_reads hR).mono ?_; rintro e w' ⟨rfl, rfl⟩)
        go_ret
        refine ⟨_, rfl, ?_, by rw [hE.out]; exact hR, hF⟩
        rw [hE.out]
        simp only [RdS.told, if_neg he]
        exact Sl.nil _ _ _

end Go.Proofs.YtokneepfknepaaaDoor

set_option linter.unusedSimpArgs false
set_option linter.unusedVariables false
namespace Go.Proofs.YtokneepfknepaaaDoor
open Go.RowKit

theorem Sl.shape {S : List Nat} {w : World} {k n : Nat} {v : Value} {cs : List Value} (h : Sl S w k v n cs) : ∃ a cap, v = .slice a n cap := by
  obtain ⟨_, _, a, cap, rfl, _⟩ := h
  exact ⟨a, cap, rfl⟩
theorem Sl.out1 {S : List Nat} {w w' : World} {lb k n : Nat} {v : Value} {cs : List Value} (h : Sl (lb :: S) w k v n cs) (hf : Fr [lb] w w') : Sl S w' k v n cs :=
  (h.fr hf (by intro b _ hb; simp at hb; simp [hb])).sub fun b _ hb => List.mem_cons_of_mem _ hb
theorem Sl.rd {S : List Nat} {w w' : World} {rb k n : Nat} {v : Value} {cs : List Value} (h : Sl S w k v n cs) (hf : Fr [rb] w w') (hm : rb ∈ S) : Sl S w' k v n cs :=
  h.fr hf (by intro b _ hb; simp at hb; subst hb; exact hm)
theorem Sl.one {S : List Nat} {w : World} {k n : Nat} {v : Value} {cs : List Value} (h : Sl S w k v n cs) : v.oneCell' = true := by
  obtain ⟨_, _, a, cap, rfl, _⟩ := h
  rfl

theorem sl_made {S : List Nat} {w : World} {e : TypeId} {k : Nat} {cs : List Value} (g : Nat) (hg : w.heap.size = g) (hl : cs.length = k) (h2 : ∀ u ∈ cs, u.oneCell' = true) (hS : ∀ b, b ∈ S → b < w.heap.size) :
    Sl S (w.alloc (.cells cs.toArray e)) k (.slice (some ⟨g, 0, none⟩) 1 1) 1 cs := by
  subst hg
  refine (Own.made e k 1 cs hS (by omega) h2 (by decide)).sl (S' := S) ?_
  intro b hb hm
  simp [Value.blk] at hb
  have := hS b hm
  omega

/-- The three lists of a composite type, and the supers of a sub type. -/
def CompR (S : List Nat) (w : World) (c : CompT) (pv rv fv : Value) : Prop :=
  Sl S w 4 pv c.params.length (c.params.flatMap valC) ∧ Sl S w 4 rv c.results.length (c.results.flatMap valC) ∧ Sl S w 6 fv c.fields.length (c.fields.flatMap fieldC)
def SubR (S : List Nat) (w : World) (t : SubT) (hv pv rv fv : Value) : Prop :=
  Sl S w 2 hv t.supers.length (t.supers.flatMap heapC) ∧ CompR S w t.comp pv rv fv
def SubsR (S : List Nat) (w : World) : List SubT → List Value → Prop
  | [], cs => cs = []
  | t :: ts, cs => ∃ hv pv rv fv rest, cs = .bool t.final_ :: hv :: .int .i64 t.comp.kind :: pv :: rv :: fv :: rest ∧ SubR S w t hv pv rv fv ∧ SubsR S w ts rest
theorem CompR.fr {S S' : List Nat} {w w' : World} {c : CompT} {pv rv fv : Value} (h : CompR S w c pv rv fv) (hf : Fr S' w w') (hs : ∀ b, b < w.heap.size → b ∈ S' → b ∈ S) : CompR S w' c pv rv fv :=
  ⟨h.1.fr hf hs, h.2.1.fr hf hs, h.2.2.fr hf hs⟩
theorem CompR.sub {S S' : List Nat} {w : World} {c : CompT} {pv rv fv : Value} (h : CompR S w c pv rv fv) (hs : ∀ b, b < w.heap.size → b ∈ S' → b ∈ S) : CompR S' w c pv rv fv :=
  ⟨h.1.sub hs, h.2.1.sub hs, h.2.2.sub hs⟩
theorem SubR.fr {S S' : List Nat} {w w' : World} {t : SubT} {hv pv rv fv : Value} (h : SubR S w t hv pv rv fv) (hf : Fr S' w w') (hs : ∀ b, b < w.heap.size → b ∈ S' → b ∈ S) : SubR S w' t hv pv rv fv :=
  ⟨h.1.fr hf hs, h.2.fr hf hs⟩
theorem SubR.sub {S S' : List Nat} {w : World} {t : SubT} {hv pv rv fv : Value} (h : SubR S w t hv pv rv fv) (hs : ∀ b, b < w.heap.size → b ∈ S' → b ∈ S) : SubR S' w t hv pv rv fv :=
  ⟨h.1.sub hs, h.2.sub hs⟩
theorem SubsR.fr {S S' : List Nat} {w w' : World} (hf : Fr S' w w') (hs : ∀ b, b < w.heap.size → b ∈ S' → b ∈ S) : ∀ {ts : List SubT} {cs : List Value}, SubsR S w ts cs → SubsR S w' ts cs
  | [], _, h => h
  | _ :: _, _, ⟨hv, pv, rv, fv, rest, e, h1, h2⟩ => ⟨hv, pv, rv, fv, rest, e, h1.fr hf hs, SubsR.fr hf hs h2⟩
theorem SubsR.sub {S S' : List Nat} {w : World} (hs : ∀ b, b < w.heap.size → b ∈ S' → b ∈ S) : ∀ {ts : List SubT} {cs : List Value}, SubsR S w ts cs → SubsR S' w ts cs
  | [], _, h => h
  | _ :: _, _, ⟨hv, pv, rv, fv, rest, e, h1, h2⟩ => ⟨hv, pv, rv, fv, rest, e, h1.sub hs, SubsR.sub hs h2⟩
theorem SubsR.snoc {S : List Nat} {w : World} {t : SubT} {hv pv rv fv : Value} (ht : SubR S w t hv pv rv fv) : ∀ {ts : List SubT} {cs : List Value}, SubsR S w ts cs →
    SubsR S w (ts ++ [t]) (cs ++ [.bool t.final_, hv, .int .i64 t.comp.kind, pv, rv, fv])
  | [], _, h => by
    have h : _ = [] := h
    subst h
    exact ⟨hv, pv, rv, fv, [], rfl, ht, rfl⟩
  | _ :: _, _, ⟨hv', pv', rv', fv', rest, e, h1, h2⟩ => by
    subst e
    exact ⟨hv', pv', rv', fv', rest ++ _, rfl, h1, SubsR.snoc ht h2⟩

set_option maxRecDepth 100000 in
set_option maxHeartbeats 400000 in
theorem rd_vals {S : List Nat} {w : World} {rb : Nat} {bv : Value} {bs : List UInt8} {s : RdS} (h : Rd S w rb bv bs s) :
    Calls Tryd.prog 20 #[.pointer (some ⟨rb, 0, none⟩)] w fun e w' => ∃ v, e = .returned v ∧ Sl S w' 4 v (rVals bs s).1.length ((rVals bs s).1.flatMap valC) ∧ Rd S w' rb bv bs (rVals bs s).2 ∧ Fr [rb] w w' := by
  have hmf : ∀ (fn : Fn) (first cap : Array Value) (w : World), (Instr.makeFunc fn first cap).run Tryd.prog w = .ok (.func fn first cap) w := fun _ _ _ _ => rfl
  go_enter Tryd.func20, Tryd.ntmps20
  go_wp2_with (go_at_call 61; refine (list_val h).mono ?_; rintro e w2 ⟨v2, rfl, hS2, hR2, hF2⟩)
  go_ret
  exact ⟨v2, rfl, hS2, hR2, hF2⟩

theorem und_comp : Tryd.prog.underlying 58 = some ((Tryd.prog.underlying 58).get (by kernel_rfl)) := by kernel_rfl
theorem size_comp : (Tryd.prog.info? 58).map (·.size) = some 4 := by kernel_rfl

set_option maxRecDepth 100000 in
set_option maxHeartbeats 1600000 in
theorem rd_comp {S : List Nat} {w : World} {rb : Nat} {bv : Value} {bs : List UInt8} {s : RdS} (h : Rd S w rb bv bs s) :
    Calls Tryd.prog 102 #[.pointer (some ⟨rb, 0, none⟩)] w fun e w' => ∃ pv rv fv, e = .returned (.agg #[.int .i64 (rComp bs s).1.kind, pv, rv, fv]) ∧ CompR S w' (rComp bs s).1 pv rv fv ∧ Rd S w' rb bv bs (rComp bs s).2 ∧ Fr [rb] w w' := by
  have hmf : ∀ (fn : Fn) (first cap : Array Value) (w : World), (Instr.makeFunc fn first cap).run Tryd.prog w = .ok (.func fn first cap) w := fun _ _ _ _ => rfl
  have hle := h.le
  have hrb := h.loc.lt
  have hR := h.loc1 (.cells #[.int .i64 0, .slice none 0 0, .slice none 0 0, .slice none 0 0] 58)
  have hL : Loc (w.alloc (.cells #[.int .i64 0, .slice none 0 0, .slice none 0 0, .slice none 0 0] 58)) w.heap.size [.int .i64 0, .slice none 0 0, .slice none 0 0, .slice none 0 0] 58 := Loc.new _ _ _
  have f0 : Fr [rb] w (w.alloc (.cells #[.int .i64 0, .slice none 0 0, .slice none 0 0, .slice none 0 0] 58)) := (Fr.refl _ _).alloc _
  have hm1 := hR.mem
  by_cases q96 : (rByte bs s).1 = 96
  · skip
    have g96 : ((((rByte bs s).1 : Nat) : Int) == 96) = true := by simp; omega
    have hp : rComp bs s = (⟨1, (rVals bs (rByte bs s).2).1, (rVals bs (rVals bs (rByte bs s).2).2).1, []⟩, (rVals bs (rVals bs (rByte bs s).2).2).2) := by unfold rComp; rw [if_pos q96]
    rw [hp]
    clear hp q96
    go_enter Tryd.func102, Tryd.ntmps102
    go_wp2_with first | (go_at_call 22; refine (rd_at hR).mono ?_; rintro e w' ⟨rfl, rfl⟩) | ((go_at_call 12; refine (rd_byte hR).mono ?_; rintro e w1 ⟨rfl, hR1, hF1⟩); have hL1 := hL.fr hF1 (by simp; omega); have f1 := f0.trans hF1; have hLC1 := hL1.cell; have hLF1 := hL1.frz; have hLT1 := hL1.lt) | ((go_at_call 20; refine (rd_vals hR1).mono ?_; rintro e w2 ⟨v2, rfl, hS2, hR2, hF2⟩; obtain ⟨a2, c2, rfl⟩ := hS2.shape); have hL2 := hL1.fr hF2 (by simp; omega); have f2 := f1.trans hF2; have hLC2 := hL2.cell; have hLF2 := hL2.frz; have hLT2 := hL2.lt) | ((go_at_call 20; refine (rd_vals hR2).mono ?_; rintro e w3 ⟨v3, rfl, hS3, hR3, hF3⟩; obtain ⟨a3, c3, rfl⟩ := hS3.shape); have hL3 := hL2.fr hF3 (by simp; omega); have f3 := f2.trans hF3; have hLC3 := hL3.cell; have hLF3 := hL3.frz; have hLT3 := hL3.lt)
    refine ret_cell rfl rfl ((((hL3.set 0 _).set 1 _).set 2 _).set 3 _) und_comp rfl size_comp rfl ⟨_, _, _, rfl, ⟨?_, ?_, ?_⟩, ?_, ?_⟩
    · exact (hS2.rd hF3 hm1).out1 (by repeat (first | (with_reducible exact Fr.refl _ _) | (with_reducible assumption) | (with_reducible apply Fr.alloc) | (with_reducible apply Fr.drew) | (with_reducible apply Fr.drewN) | (with_reducible refine Fr.setCell ?_ (by first | (left; simp; done) | (right; simp; done) | (right; simp; omega)) _)))
    · exact hS3.out1 (by repeat (first | (with_reducible exact Fr.refl _ _) | (with_reducible assumption) | (with_reducible apply Fr.alloc) | (with_reducible apply Fr.drew) | (with_reducible apply Fr.drewN) | (with_reducible refine Fr.setCell ?_ (by first | (left; simp; done) | (right; simp; done) | (right; simp; omega)) _)))
    · exact Sl.nil _ _ _
    · refine Rd.un1 (lb := w.heap.size) ?_ h.mem
      repeat (first | (with_reducible assumption) | (with_reducible refine Rd.setLoc ?_ (by simp) (by omega) _ _) | (with_reducible apply Rd.alloc) | (with_reducible apply Rd.drewN))
    · repeat (first | (with_reducible exact Fr.refl _ _) | (with_reducible assumption) | (with_reducible apply Fr.alloc) | (with_reducible apply Fr.drew) | (with_reducible apply Fr.drewN) | (with_reducible refine Fr.setCell ?_ (by first | (left; simp; done) | (right; simp; done) | (right; simp; omega)) _))
  · by_cases q95 : (rByte bs s).1 = 95
    · skip
      have g96 : ((((rByte bs s).1 : Nat) : Int) == 96) = false := by simp; omega
      have g95 : ((((rByte bs s).1 : Nat) : Int) == 95) = true := by simp; omega
      have hp : rComp bs s = (⟨2, [], [], (rList bs (rField bs) (rByte bs s).2).1⟩, (rList bs (rField bs) (rByte bs s).2).2) := by unfold rComp; rw [if_neg q96, if_pos q95]
      rw [hp]
      clear hp q96 q95
      go_enter Tryd.func102, Tryd.ntmps102
      go_wp2_with first | (go_at_call 22; refine (rd_at hR).mono ?_; rintro e w' ⟨rfl, rfl⟩) | ((go_at_call 12; refine (rd_byte hR).mono ?_; rintro e w1 ⟨rfl, hR1, hF1⟩); have hL1 := hL.fr hF1 (by simp; omega); have f1 := f0.trans hF1; have hLC1 := hL1.cell; have hLF1 := hL1.frz; have hLT1 := hL1.lt) | ((go_at_call 139; refine (list_field hR1).mono ?_; rintro e w2 ⟨v2, rfl, hS2, hR2, hF2⟩; obtain ⟨a2, c2, rfl⟩ := hS2.shape); have hL2 := hL1.fr hF2 (by simp; omega); have f2 := f1.trans hF2; have hLC2 := hL2.cell; have hLF2 := hL2.frz; have hLT2 := hL2.lt)
      refine ret_cell rfl rfl ((((hL2.set 0 _).set 1 _).set 2 _).set 3 _) und_comp rfl size_comp rfl ⟨_, _, _, rfl, ⟨?_, ?_, ?_⟩, ?_, ?_⟩
      · exact Sl.nil _ _ _
      · exact Sl.nil _ _ _
      · exact hS2.out1 (by repeat (first | (with_reducible exact Fr.refl _ _) | (with_reducible assumption) | (with_reducible apply Fr.alloc) | (with_reducible apply Fr.drew) | (with_reducible apply Fr.drewN) | (with_reducible refine Fr.setCell ?_ (by first | (left; simp; done) | (right; simp; done) | (right; simp; omega)) _)))
      · refine Rd.un1 (lb := w.heap.size) ?_ h.mem
        repeat (first | (with_reducible assumption) | (with_reducible refine Rd.setLoc ?_ (by simp) (by omega) _ _) | (with_reducible apply Rd.alloc) | (with_reducible apply Rd.drewN))
      · repeat (first | (with_reducible exact Fr.refl _ _) | (with_reducible assumption) | (with_reducible apply Fr.alloc) | (with_reducible apply Fr.drew) | (with_reducible apply Fr.drewN) | (with_reducible refine Fr.setCell ?_ (by first | (left; simp; done) | (right; simp; done) | (right; simp; omega)) _))
    · by_cases q94 : (rByte bs s).1 = 94
      · skip
        have g96 : ((((rByte bs s).1 : Nat) : Int) == 96) = false := by simp; omega
        have g95 : ((((rByte bs s).1 : Nat) : Int) == 95) = false := by simp; omega
        have g94 : ((((rByte bs s).1 : Nat) : Int) == 94) = true := by simp; omega
        have hp : rComp bs s = (⟨3, [], [], [(rField bs (rByte bs s).2).1]⟩, (rField bs (rByte bs s).2).2) := by unfold rComp; rw [if_neg q96, if_neg q95, if_pos q94]
        rw [hp]
        clear hp q96 q95 q94
        go_enter Tryd.func102, Tryd.ntmps102
        go_wp2_with first | (go_at_call 22; refine (rd_at hR).mono ?_; rintro e w' ⟨rfl, rfl⟩) | ((go_at_call 12; refine (rd_byte hR).mono ?_; rintro e w1 ⟨rfl, hR1, hF1⟩); have hL1 := hL.fr hF1 (by simp; omega); have f1 := f0.trans hF1; have hLC1 := hL1.cell; have hLF1 := hL1.frz; have hLT1 := hL1.lt) | ((go_at_call 140; refine (rd_field hR1).mono ?_; rintro e w2 ⟨rfl, hR2, hF2⟩); have hL2 := hL1.fr hF2 (by simp; omega); have f2 := f1.trans hF2; have hLC2 := hL2.cell; have hLF2 := hL2.frz; have hLT2 := hL2.lt)
        refine ret_cell rfl rfl (((((hL2.set 0 _).set 1 _).set 2 _).set 3 _).alloc _) und_comp rfl size_comp rfl ⟨_, _, _, rfl, ⟨?_, ?_, ?_⟩, ?_, ?_⟩
        · exact Sl.nil _ _ _
        · exact Sl.nil _ _ _
        · have hsz := f2.size
          refine sl_made (e := 155) (cs := fieldC (rField bs (rByte bs s).2).1) w2.heap.size (by simp) rfl ?_ ?_
          · intro u hu; simp [fieldC] at hu; rcases hu with rfl | rfl | rfl | rfl | rfl | rfl <;> rfl
          · intro b hb
            have h1 := h.lt b hb
            simp only [World.size_setCell]
            omega
        · refine Rd.un1 (lb := w.heap.size) ?_ h.mem
          repeat (first | (with_reducible assumption) | (with_reducible refine Rd.setLoc ?_ (by simp) (by omega) _ _) | (with_reducible apply Rd.alloc) | (with_reducible apply Rd.drewN))
        · repeat (first | (with_reducible exact Fr.refl _ _) | (with_reducible assumption) | (with_reducible apply Fr.alloc) | (with_reducible apply Fr.drew) | (with_reducible apply Fr.drewN) | (with_reducible refine Fr.setCell ?_ (by first | (left; simp; done) | (right; simp; done) | (right; simp; omega)) _))
      · skip
        have g96 : ((((rByte bs s).1 : Nat) : Int) == 96) = false := by simp; omega
        have g95 : ((((rByte bs s).1 : Nat) : Int) == 95) = false := by simp; omega
        have g94 : ((((rByte bs s).1 : Nat) : Int) == 94) = false := by simp; omega
        have hp : rComp bs s = (CompT.zero, (rByte bs s).2.form s.at_) := by unfold rComp; rw [if_neg q96, if_neg q95, if_neg q94]
        rw [hp]
        clear hp q96 q95 q94
        go_enter Tryd.func102, Tryd.ntmps102
        go_wp2_with first | (go_at_call 22; refine (rd_at hR).mono ?_; rintro e w' ⟨rfl, rfl⟩) | ((go_at_call 12; refine (rd_byte hR).mono ?_; rintro e w1 ⟨rfl, hR1, hF1⟩); have hL1 := hL.fr hF1 (by simp; omega); have f1 := f0.trans hF1; have hLC1 := hL1.cell; have hLF1 := hL1.frz; have hLT1 := hL1.lt) | ((go_at_call 60; refine (rd_form hR1 _ hle).mono ?_; rintro e w2 ⟨rfl, hR2, hF2⟩); have hL2 := hL1.fr hF2 (by simp; omega); have f2 := f1.trans hF2; have hLC2 := hL2.cell; have hLF2 := hL2.frz; have hLT2 := hL2.lt)
        refine ret_cell rfl rfl ((((hL2.set 0 _).set 1 _).set 2 _).set 3 _) und_comp rfl size_comp rfl ⟨_, _, _, rfl, ⟨?_, ?_, ?_⟩, ?_, ?_⟩
        · exact Sl.nil _ _ _
        · exact Sl.nil _ _ _
        · exact Sl.nil _ _ _
        · refine Rd.un1 (lb := w.heap.size) ?_ h.mem
          repeat (first | (with_reducible assumption) | (with_reducible refine Rd.setLoc ?_ (by simp) (by omega) _ _) | (with_reducible apply Rd.alloc) | (with_reducible apply Rd.drewN))
        · repeat (first | (with_reducible exact Fr.refl _ _) | (with_reducible assumption) | (with_reducible apply Fr.alloc) | (with_reducible apply Fr.drew) | (with_reducible apply Fr.drewN) | (with_reducible refine Fr.setCell ?_ (by first | (left; simp; done) | (right; simp; done) | (right; simp; omega)) _))

end Go.Proofs.YtokneepfknepaaaDoor

set_option linter.unusedSimpArgs false
set_option linter.unusedVariables false
namespace Go.Proofs.YtokneepfknepaaaDoor
open Go.RowKit

theorem info_byte_slice : Tryd.prog.underlying 26 = some (.slice 5) := und_bytes

set_option maxRecDepth 100000 in
set_option maxHeartbeats 800000 in
theorem clone_any {S : List Nat} {w : World} {bv : Value} {bs : List UInt8} (h : Sl S w 1 bv bs.length (bs.map B)) (hl : bs.length ≤ 1099511627776) :
    Calls Tryd.prog 56 #[bv] w fun e w' => ∃ v, e = .returned v ∧ Own [] w' 5 1 v bs.length (bs.map B) ∧ New w v ∧ Fr [] w w' := by
  have hs := h
  have hq := fun (w : World) (a : Option Addr) (n c : Nat) => Go.Lib.run_eql_slice_nil (P := Tryd.prog) w 26 5 a n c 0 0 und_bytes
  obtain ⟨_, _, a, cap, rfl, hcap, hmax, hN, hdat⟩ := h
  cases a with
  | none =>
    have hn : bs.length = 0 := by have := hN rfl; omega
    have hbs : bs = [] := List.length_eq_zero_iff.1 hn
    subst hbs
    go_enter Tryd.func56, Tryd.ntmps56
    go_wp2
    go_ret
    exact ⟨_, rfl, Own.nil _ _ _ _, New.nil _, Fr.refl _ _⟩
  | some a =>
    have hq1 := fun (w : World) (n c : Nat) => hq w (some a) n c
    simp only [Option.isNone_some] at hq1
    go_enter Tryd.func56, Tryd.ntmps56
    have hO : Own [] (w.alloc (.cells #[] 5)) 5 1 (.slice (some ⟨w.heap.size, 0, none⟩) 0 0) 0 [] := Own.made (S := []) 5 1 0 [] (by simp) rfl (by simp) (by decide)
    have hs2 := hs.fr ((Fr.refl [] w).alloc (.cells #[] 5)) (by simp)
    have hb : 0 + bs.length ≤ 140737488355328 := by omega
    go_wp2_with (at_builtin; refine app_u8 rfl (.tmp 5) (.tmp 6) _ rfl _ 0 [] rfl hO _ bs.length (bs.map B) rfl (hs2.src und_bytes) hb ?_; intro v' w3 hown hf hb3)
    go_ret
    have hnew : New w (.slice (some ⟨w.heap.size, 0, none⟩) 0 0) := by intro b hb; simp [Value.blk] at hb; omega
    refine ⟨v', rfl, by simpa using hown, hnew.app hb3 (by simp), (((Fr.refl [] w).alloc _).app hf hnew)⟩

set_option maxRecDepth 100000 in
set_option maxHeartbeats 800000 in
theorem open_any {S : List Nat} {w : World} {bv : Value} {bs : List UInt8} (h : Sl S w 1 bv bs.length (bs.map B)) (hg : Gl [] w) (hl : bs.length ≤ 1099511627776) :
    Calls Tryd.prog 27 #[bv] w fun e w' => ∃ rb v, e = .returned (.pointer (some ⟨rb, 0, none⟩)) ∧ Rd [rb] w' rb v bs rOpen ∧ w.heap.size ≤ rb ∧ Fr [] w w' := by
  go_enter Tryd.func27, Tryd.ntmps27
  go_wp2_with (go_at_call 56; refine (clone_any h hl).mono ?_; rintro e w2 ⟨v2, rfl, hO2, hN2, hF2⟩; obtain ⟨a2, c2, rfl, _⟩ := hO2.shape)
  go_ret
  have hsl : Sl [w2.heap.size] w2 1 (.slice a2 bs.length c2) bs.length (bs.map B) := hO2.sl (by
    intro b hb hm
    have := (hO2.blk_lt b hb).1
    simp at hm
    omega)
  refine ⟨w2.heap.size, _, rfl, ⟨by simp, by simp, Loc.new w2 (rdCells w2.heap.size (.slice a2 bs.length c2) rOpen) _, hsl.fr ((Fr.refl [] _).alloc _) (by simp), ?_, by simp [rOpen], hl⟩, hF2.size, hF2.alloc _⟩
  have hg2 := hg.fr hF2 (by simp)
  refine Gl.fr (S := [w2.heap.size]) (S' := []) ⟨hg2.lt, ?_, hg2.cell⟩ ((Fr.refl [] _).alloc _) (by simp)
  have := hg2.lt
  simp
  omega
theorem sl_lit (w : World) {g : Nat} (hg : w.heap.size = g) (bs : List UInt8) (S : List Nat) (hS : ∀ b, b ∈ S → b < w.heap.size) (hl : bs.length ≤ maxLen) :
    Sl S (w.alloc (.cells (bs.map B).toArray 5)) 1 (.slice (some ⟨g, 0, none⟩) bs.length bs.length) bs.length (bs.map B) := by
  subst hg
  refine (Own.made 5 1 bs.length (bs.map B) hS (by simp) ?_ hl).sl (S' := S) ?_
  · intro u hu
    obtain ⟨c, _, rfl⟩ := List.mem_map.1 hu
    rfl
  · intro b hb hm
    simp [Value.blk] at hb
    have := hS b hm
    omega
theorem Sl.drewN {S : List Nat} {w : World} {k n : Nat} {v : Value} {cs : List Value} (h : Sl S w k v n cs) (m : Nat) : Sl S (w.drewN m) k v n cs := h.fr ((Fr.refl [] w).drewN m) (by simp)
theorem Gl.drewN {S : List Nat} {w : World} (h : Gl S w) (m : Nat) : Gl S (w.drewN m) := h.fr ((Fr.refl [] w).drewN m) (by simp)
theorem Gl.alloc {S : List Nat} {w : World} (h : Gl S w) (o : Obj) : Gl S (w.alloc o) := h.fr ((Fr.refl [] w).alloc o) (by simp)
end Go.Proofs.YtokneepfknepaaaDoor

set_option linter.unusedSimpArgs false
set_option linter.unusedVariables false
namespace Go.Proofs.YtokneepfknepaaaDoor
open Go.ChangeShapes Go.WideShapes Go.ChangeAt Go.RowKit

theorem own : ownKnob Tryd.prog.godebug = none := by kernel_rfl
theorem laidOut : laidOutB Tryd.prog = true := by kernel_rfl
theorem gTab : Tryd.prog.globalNamed "geode/tbin.heaps" = some 0 := by kernel_rfl
theorem gTabType : (Tryd.prog.globals[0]?).map (·.type) = some 145 := by kernel_rfl
theorem undTab : Tryd.prog.underlying 145 = some (.array 12 38) := by kernel_rfl
theorem undKind : Tryd.prog.underlying 38 = some (.int .i64) := by kernel_rfl
theorem cellsKind : Tryd.prog.cellsOf 38 = 1 := by kernel_rfl
theorem cellsTab : Tryd.prog.cellsOf 145 = 12 := by kernel_rfl

theorem gl_of_laid {W : World} {rest : List (String × DataW Unit)} (h : laidMet Tryd.prog (("geode/tbin.heaps", Rows.laid_geode_tbin_heaps) :: rest) W) : Gl [] W := by
  have ht : Lib.TabIs Tryd.prog W "geode/tbin.heaps" .i64 heapsL := Lib.tabIs_of_head (rest := rest) gTab gTabType undTab undKind cellsKind cellsTab h
  have hc : ∀ i, i < 12 → W.cell? ⟨0, i, none⟩ = some (.int .i64 (heapsL.getD i 0)) := fun i hi => ht.cell gTab i hi
  refine ⟨?_, by simp, hc⟩
  have h0 := hc 0 (by decide)
  rcases Nat.lt_or_ge 0 W.heap.size with h | h
  · exact h
  · exfalso
    have : W.heap[0]? = none := Array.getElem?_eq_none h
    simp [World.cell?, this] at h0

theorem trodAll_below {H : Type} {enc : TypeId × Value → H} {P : Program} (hl : laidOutB P = true) {W W' : World} (hb : Below W.heap.size W W') : ∀ (ts : List TypeId) (vs : List Value) (ds : List (DataW H)) (ps : List MemPlace),
    (∀ t, t ∈ ts → P.readableRec t = true ∧ t < P.types.size) → (∀ x ∈ ps, x.block < W.heap.size) → DataW.TrodAll enc P W 0 (fun _ => true) true ts vs ds ps →
    DataW.TrodAll enc P W' 0 (fun b => decide (b < W.heap.size)) true ts vs ds ps
  | [], vs, ds, ps, _, _, h => by
    obtain ⟨rfl, rfl, rfl⟩ := trodAll_nil h
    exact trodAll_mk0
  | t :: ts, vs, ds, ps, ht, hlt, h => by
    obtain ⟨v, vs', d, ds', p, q, rfl, rfl, rfl, h1, h2⟩ := trodAll_cons h
    exact trodAll_cons_mk (Below.trod hl (ht t (by simp)).1 (ht t (by simp)).2 h1 hb (fun x hx => hlt x (List.mem_append_left _ hx)))
      (trodAll_below hl hb ts vs' ds' q (fun u hu => ht u (List.mem_cons_of_mem _ hu)) (fun x hx => hlt x (List.mem_append_right _ hx)) h2)

theorem underBool : Tryd.prog.underlying 4 = some .bool := by kernel_rfl

/-- What a law's statement asks of the world behind the call: it has grown, and the law has said yes. -/
theorem law_post {H : Type} {enc : TypeId × Value → H} {fn : Func} {s : ChangeSpec} {W W' : World} {args : Array Value} {ds gs : List (DataW H)} {before : List MemPlace}
    (hW : DataW.Whole enc Tryd.prog fn.params.toList s.vars false W args.toList ds gs before) (hv : s.vars = []) (hr : fn.resultTypes = #[4])
    (hp : ∀ t, t ∈ fn.params.toList → Tryd.prog.readableRec t = true ∧ t < Tryd.prog.types.size) (hs : s.fn H (ds ++ []) = { results := [.lit (.bool true)], args := ds }) (hb : Fr [] W W') :
    s.post enc Tryd.prog fn false true false false W args (.bool true) W' := by
  have hW' := hW
  obtain ⟨p, q, hA, hV, rfl, hfz, hnd⟩ := hW
  rw [hv] at hV
  obtain ⟨rfl, rfl⟩ := trodVars_none hV
  have hbl := hb.below
  refine ⟨ds, [], p ++ [], [], p, [], hW', ?_, ?_, ?_, hbl.frame _, fun h => by cases h⟩
  · rw [hs, hr]
    exact trodAll_mk1 (shut_bool underBool true)
  · rw [hs]
    exact trodAll_below laidOut hbl _ _ _ _ hp (fun x hx => by simpa using hW'.lt x (by simpa using hx)) hA
  · rw [hs, hv]
    rfl

/-- A world for a witness: the settled one, the table holding what its initialiser lays. -/
noncomputable def laidWorld6 (os : Os) : World :=
  { World.holding Tryd.prog os ⟨#[], #[], []⟩ with heap := (World.holding Tryd.prog os ⟨#[], #[], []⟩).heap.modify 0 fun
      | .cells _ t frozen => .cells #[.int .i64 11, .int .i64 5, .int .i64 4, .int .i64 3, .int .i64 2, .int .i64 1, .int .i64 9, .int .i64 7, .int .i64 6, .int .i64 10, .int .i64 8, .int .i64 12] t frozen
      | o => o }
end Go.Proofs.YtokneepfknepaaaDoor

set_option linter.unusedSimpArgs false
set_option linter.unusedVariables false
namespace Go.Proofs.YtokneepfknepaaaDoor
open Go.RowKit

/-- The bytes so far: a slice of the call's own. -/
def Out (w : World) (v : Value) (xs : List UInt8) : Prop := Own [] w 5 1 v xs.length (xs.map B)
/-- What a put does to a world: it writes the given slice's block, and blocks of its own. -/
def Ap (w : World) (v : Value) (w' : World) (v' : Value) : Prop := Fr (Value.blk v) w w' ∧ ∀ b, b ∈ Value.blk v' → b ∈ Value.blk v ∨ w.heap.size ≤ b
theorem Ap.refl (w : World) (v : Value) : Ap w v w v := ⟨Fr.refl _ _, fun _ h => .inl h⟩
theorem Ap.trans {w w1 w2 : World} {v v1 v2 : Value} (h : Ap w v w1 v1) (k : Ap w1 v1 w2 v2) : Ap w v w2 v2 :=
  ⟨h.1.then k.1 h.2, fun b hb => (k.2 b hb).elim (fun hb => h.2 b hb) (fun hs => .inr (Nat.le_trans h.1.size hs))⟩
theorem Ap.of {w w' : World} {v v' : Value} (hf : Fr (Value.blk v) w w') (hb : Value.blk v' = Value.blk v ∨ Value.blk v' = [w.heap.size]) : Ap w v w' v' :=
  ⟨hf, fun b hm => by
    rcases hb with hb | hb
    · rw [hb] at hm; exact .inl hm
    · rw [hb] at hm; simp at hm; exact .inr (by omega)⟩
theorem Ap.fr0 {w w1 : World} {v : Value} (hf : Fr [] w w1) : Ap w v w1 v := ⟨hf.mono (by simp), fun _ h => .inl h⟩
theorem Ap.alloc {w w1 : World} {v v1 : Value} (h : Ap w v w1 v1) (o : Obj) : Ap w v (w1.alloc o) v1 := ⟨h.1.alloc o, h.2⟩
theorem Gl.ap {w w' : World} {v v' : Value} (hg : Gl (Value.blk v) w) (h : Ap w v w' v') : Gl (Value.blk v') w' :=
  ⟨Nat.lt_of_lt_of_le hg.lt h.1.size, fun hm => (h.2 _ hm).elim hg.not (fun hs => by have := hg.lt; omega), fun o ho => by rw [h.1.cell hg.lt hg.not]; exact hg.cell o ho⟩
theorem Out.fr0 {w w' : World} {v : Value} {xs : List UInt8} (h : Out w v xs) (hf : Fr [] w w') : Out w' v xs := Own.fr h hf (by simp)
theorem Out.alloc {w : World} {v : Value} {xs : List UInt8} (h : Out w v xs) (o : Obj) : Out (w.alloc o) v xs := Own.alloc h o
theorem Out.nil (w : World) : Out w (.slice none 0 0) [] := Own.nil _ _ _ _
theorem Out.app {w : World} {v : Value} {xs ys : List UInt8} (h : Own [] w 5 1 v (xs.length + ys.length) (xs.map B ++ ys.map B)) : Out w v (xs ++ ys) := by
  unfold Out
  simpa using h
theorem Out.app1 {w : World} {v : Value} {xs : List UInt8} {c : UInt8} (h : Own [] w 5 1 v (xs.length + 1) (xs.map B ++ [B c])) : Out w v (xs ++ [c]) := by
  unfold Out
  simpa using h

def hb (k : Int) (n : Nat) : List UInt8 := ((List.range n).filter fun i => heapsL.getD i 0 == k).map fun i => UInt8.ofNat (105 + i)
theorem hb_succ (k : Int) (n : Nat) : hb k (n + 1) = hb k n ++ (if heapsL.getD n 0 == k then [UInt8.ofNat (105 + n)] else []) := by
  unfold hb
  rw [List.range_succ, List.filter_append, List.map_append]
  congr 1
  by_cases h : (heapsL.getD n 0 == k) = true
  · rw [List.filter_cons, if_pos h, if_pos h]; rfl
  · rw [List.filter_cons, if_neg h, if_neg h]; rfl
theorem hb_len (k : Int) (n : Nat) : (hb k n).length ≤ n := by
  unfold hb
  rw [List.length_map]
  exact Nat.le_trans (List.length_filter_le _ _) (by simp)


set_option maxRecDepth 100000 in
set_option maxHeartbeats 800000 in
theorem putHeap_any {w : World} (v : Value) (hg : Gl (Value.blk v) w) (xs : List UInt8) (h : HeapT) (ho : Out w v xs) (hn1 : -9223372036854775808 ≤ h.n) (hn2 : h.n < 9223372036854775808) (hx : xs.length ≤ 70368744177664) :
    Calls Tryd.prog 74 #[v, heapV h] w fun e w' => ∃ v', e = .returned v' ∧ Out w' v' (xs ++ pHeap h) ∧ Ap w v w' v' := by
  obtain ⟨va, vc, rfl, _⟩ := Own.shape ho
  unfold heapV
  by_cases h13 : h.kind = 13
  · have hp : pHeap h = putS h.n := by unfold pHeap; rw [if_pos h13]
    have g13 : (h.kind == 13) = true := by simp [h13]
    have hlen := putS_len h.n hn1 hn2
    have hb1 : xs.length + (putS h.n).length ≤ 140737488355328 := by omega
    rw [hp]
    clear hp h13 hlen
    go_enter Tryd.func74, Tryd.ntmps74
    go_wp2_with first | (go_at_call 115; refine (PutS_any h.n _ hn1 hn2).mono ?_; rintro e w2 ⟨v2, rfl, ho2, hN2, hF2⟩; have hoo := Own.fr (Out.alloc ho _) hF2 (by simp); have hs2 := ho2.sl (S' := []) (by simp)) | (at_builtin; refine app_u8 rfl (.tmp 10) (.tmp 13) _ rfl _ _ _ rfl hoo _ _ _ rfl (hs2.src und_bytes) hb1 ?_; intro v' w3 hown3 hf3 hb3)
    go_ret
    exact ⟨v', rfl, Out.app hown3, (Ap.fr0 (((Fr.refl [] _).alloc _).trans hF2)).trans (Ap.of hf3 hb3)⟩
  · have hp : pHeap h = hb h.kind 12 := by unfold pHeap; rw [if_neg h13]; rfl
    have g13 : (h.kind == 13) = false := by simp [h13]
    have hL : Loc (w.alloc (.cells #[.int .i64 h.kind, .int .i64 h.n] 40)) w.heap.size [.int .i64 h.kind, .int .i64 h.n] 40 := Loc.new _ _ _
    have hblk : w.heap.size ∉ Value.blk (.slice va xs.length vc) := fun hm => by have := (Own.blk_lt ho _ hm).1; omega
    rw [hp]
    clear hp h13
    have hc := hg.cell; have hgl := hg.lt; have c0 := hc 0 (by decide); have c1 := hc 1 (by decide); have c2 := hc 2 (by decide); have c3 := hc 3 (by decide); have c4 := hc 4 (by decide); have c5 := hc 5 (by decide); have c6 := hc 6 (by decide); have c7 := hc 7 (by decide); have c8 := hc 8 (by decide); have c9 := hc 9 (by decide); have c10 := hc 10 (by decide); have c11 := hc 11 (by decide); simp only [show heapsL.getD 0 0 = 11 from rfl, show heapsL.getD 1 0 = 5 from rfl, show heapsL.getD 2 0 = 4 from rfl, show heapsL.getD 3 0 = 3 from rfl, show heapsL.getD 4 0 = 2 from rfl, show heapsL.getD 5 0 = 1 from rfl, show heapsL.getD 6 0 = 9 from rfl, show heapsL.getD 7 0 = 7 from rfl, show heapsL.getD 8 0 = 6 from rfl, show heapsL.getD 9 0 = 10 from rfl, show heapsL.getD 10 0 = 8 from rfl, show heapsL.getD 11 0 = 12 from rfl] at c0 c1 c2 c3 c4 c5 c6 c7 c8 c9 c10 c11; clear hc
    have hidx : ∀ (w : World) (k : Nat), k < 12 → (Instr.index 145 (.agg #[.int .i64 11, .int .i64 5, .int .i64 4, .int .i64 3, .int .i64 2, .int .i64 1, .int .i64 9, .int .i64 7, .int .i64 6, .int .i64 10, .int .i64 8, .int .i64 12]) (.int .i64 k)).run Tryd.prog w = .ok (.int .i64 (heapsL.getD k 0)) w := by
      intro w k hk
      have : k = 0 ∨ k = 1 ∨ k = 2 ∨ k = 3 ∨ k = 4 ∨ k = 5 ∨ k = 6 ∨ k = 7 ∨ k = 8 ∨ k = 9 ∨ k = 10 ∨ k = 11 := by omega
      rcases this with rfl | rfl | rfl | rfl | rfl | rfl | rfl | rfl | rfl | rfl | rfl | rfl <;> first | rfl | kernel_rfl | simp [go_sem]
    go_enter Tryd.func74, Tryd.ntmps74
    go_wp2
    go_loopw [0, 16] (fun v n wr => ∃ (k : Nat), n = .int .i64 k ∧ k ≤ 12 ∧ Out wr v (xs ++ hb h.kind k) ∧ Ap (w.alloc (.cells #[.int .i64 h.kind, .int .i64 h.n] 40)) (.slice va xs.length vc) wr v) (fun _ n _ => (12 - intOf n).toNat)
    case atStart => exact ⟨0, rfl, by omega, by simpa [hb] using Out.alloc ho _, Ap.refl _ _⟩
    case round =>
      obtain ⟨k, rfl, hk12, ho1, ha1⟩ := hrel
      have hL1 := hL.fr ha1.1 hblk
      have hlen := hb_len h.kind k
      have hLC1 := hL1.cell; have hLF1 := hL1.frz; have hLT1 := hL1.lt
      have ho1l := ho1
      have hb1 : (xs ++ hb h.kind k).length + 1 ≤ 140737488355328 := by simp; omega
      by_cases hk : k < 12
      · have hs := hb_succ h.kind k
        have hi := hidx wr k hk
        have hkb : (k : Int) < 12 := by omega
        clear hidx
        generalize heapsL.getD k 0 = q at hs hi
        by_cases hq : q = h.kind
        · rw [if_pos (by simpa using hq)] at hs
          have hqb : (q == h.kind) = true := by simpa using hq
          clear hq
          go_wp2_with (at_builtin; refine app_u8 rfl (.tmp 24) (.tmp 28) _ rfl _ _ _ rfl (Out.alloc ho1 _) _ _ _ rfl (src_new und_bytes _ _ _ _ rfl) hb1 ?_; intro v' w3 hown3 hf3 hb3)
          have hB : Value.int .u8 (105 + (k : Int)) = B (UInt8.ofNat (105 + k)) := by rw [B_small _ (by omega)]; simp
          rw [hB] at hown3
          go_roundw
          case rel =>
            refine ⟨k + 1, by go_num, by omega, ?_, ?_⟩
            · rw [hs, ← List.append_assoc]; exact Out.app1 hown3
            · exact (ha1.alloc _).trans (Ap.of hf3 hb3)
          case measure => simp [intOf]; omega
        · rw [if_neg (by simpa using hq)] at hs
          have hqb : (q == h.kind) = false := by simpa using hq
          clear hq
          go_wp2
          go_roundw
          case rel => exact ⟨k + 1, by go_num, by omega, by rw [hs, List.append_nil]; exact ho1, ha1⟩
          case measure => simp [intOf]; omega
      · have hk2 : k = 12 := by omega
        subst hk2
        clear hidx
        go_wp2
        go_ret
        exact ⟨_, rfl, ho1, (Ap.fr0 ((Fr.refl [] _).alloc _)).trans ha1⟩
end Go.Proofs.YtokneepfknepaaaDoor

set_option linter.unusedSimpArgs false
set_option linter.unusedVariables false
namespace Go.Proofs.YtokneepfknepaaaDoor
open Go.RowKit

theorem src_at {P : Program} {tx e' : TypeId} {g : Nat} {w : World} (hk : P.underlying tx = some (.slice e')) (hg : w.heap.size = g) (u : Value) (e : TypeId) (c : Nat) (h1 : u.oneCell' = true) : Src P 1 tx (.slice (some ⟨g, 0, none⟩) 1 c) 1 [u] (w.alloc (.cells #[u] e)) := by
  subst hg
  exact src_new hk w u e c h1
theorem pHeap_len (h : HeapT) (h1 : -9223372036854775808 ≤ h.n) (h2 : h.n < 9223372036854775808) : (pHeap h).length ≤ 12 := by
  unfold pHeap
  split
  · have := putS_len h.n h1 h2; omega
  · exact hb_len h.kind 12

/-- The numbers that a heap type holds are numbers of 64 bits. -/
def HeapT.ok (h : HeapT) : Prop := (-9223372036854775808 ≤ h.kind ∧ h.kind < 9223372036854775808) ∧ (-9223372036854775808 ≤ h.n ∧ h.n < 9223372036854775808)

set_option maxRecDepth 100000 in
set_option maxHeartbeats 1600000 in
theorem putVal_any {w : World} (v : Value) (hg : Gl (Value.blk v) w) (xs : List UInt8) (t : ValT) (ho : Out w v xs) (hk : t.heap.ok) (hx : xs.length + 16 ≤ 70368744177664) :
    Calls Tryd.prog 76 #[v, valV t] w fun e w' => ∃ v', e = .returned v' ∧ Out w' v' (xs ++ pVal t) ∧ Ap w v w' v' := by
  have hsz := fun o => World.size_alloc w o
  have hhk := hk
  obtain ⟨_, hn1, hn2⟩ := hk
  obtain ⟨tk, tn, th⟩ := t
  unfold valV
  dsimp only at hn1 hn2 ⊢
  have hoo := fun o => (Out.alloc ho o)
  have hb1 : xs.length + 1 ≤ 140737488355328 := by omega
  by_cases q1 : tk = 1
  · skip
    have hp : pVal ⟨tk, tn, th⟩ = [127] := by unfold pVal; rw [if_pos q1]
    rw [hp]
    clear hp
    have g1 : (tk == 1) = true := by simp [q1]
    clear q1
    go_enter Tryd.func76, Tryd.ntmps76
    go_wp2_with (at_builtin; refine app_u8 rfl (.tmp 9) (.tmp 10) _ rfl _ _ _ rfl (Out.alloc (hoo _) _) _ _ _ rfl (src_at und_bytes (hsz _) _ _ _ rfl) hb1 ?_; intro v' w3 hown3 hf3 hb3)
    go_ret
    exact ⟨v', rfl, Out.app1 (c := 127) hown3, (Ap.fr0 (((Fr.refl [] _).alloc _).alloc _)).trans (Ap.of hf3 hb3)⟩
  · by_cases q2 : tk = 2
    · skip
      have hp : pVal ⟨tk, tn, th⟩ = [126] := by unfold pVal; rw [if_neg q1, if_pos q2]
      rw [hp]
      clear hp
      have g1 : (tk == 1) = false := by simp [q1]
      have g2 : (tk == 2) = true := by simp [q2]
      clear q1 q2
      go_enter Tryd.func76, Tryd.ntmps76
      go_wp2_with (at_builtin; refine app_u8 rfl (.tmp 16) (.tmp 17) _ rfl _ _ _ rfl (Out.alloc (hoo _) _) _ _ _ rfl (src_at und_bytes (hsz _) _ _ _ rfl) hb1 ?_; intro v' w3 hown3 hf3 hb3)
      go_ret
      exact ⟨v', rfl, Out.app1 (c := 126) hown3, (Ap.fr0 (((Fr.refl [] _).alloc _).alloc _)).trans (Ap.of hf3 hb3)⟩
    · skip
      have hL : Loc (w.alloc (.cells #[.int .i64 tk, .bool tn, .int .i64 th.kind, .int .i64 th.n] 44)) w.heap.size [.int .i64 tk, .bool tn, .int .i64 th.kind, .int .i64 th.n] 44 := Loc.new _ _ _
      have hblk : w.heap.size ∉ Value.blk v := fun hm => by have := (Own.blk_lt ho _ hm).1; omega
      cases tn
      · skip
        have hp : pVal ⟨tk, false, th⟩ = 100 :: pHeap th := by unfold pVal; rw [if_neg q1, if_neg q2, if_pos rfl]
        rw [hp]
        clear hp
        have g1 : (tk == 1) = false := by simp [q1]
        have g2 : (tk == 2) = false := by simp [q2]
        clear q1 q2
        go_enter Tryd.func76, Tryd.ntmps76
        go_wp2_with first | ((at_builtin; refine app_u8 rfl (.tmp 23) (.tmp 24) _ rfl _ _ _ rfl (Out.alloc (hoo _) _) _ _ _ rfl (src_at und_bytes (hsz _) _ _ _ rfl) hb1 ?_; intro v' w3 hown3 hf3 hb3); have ho3 := Out.app1 (c := 100) hown3; have hA3 := ((Ap.fr0 (v := v) (((Fr.refl [] w).alloc _).alloc _)).trans (Ap.of hf3 hb3)); have hg3 := hg.ap hA3; have hL3 := (hL.alloc _).fr hf3 hblk; have hLC3 := hL3.cell; have hLF3 := hL3.frz; have hLT3 := hL3.lt) | (go_at_call 74; refine (putHeap_any _ hg3 _ th ho3 hn1 hn2 (by simp; omega)).mono ?_; rintro e w4 ⟨v4, rfl, ho4, hA4⟩)
        go_ret
        exact ⟨v4, rfl, by simpa using ho4, hA3.trans hA4⟩
      · skip
        by_cases q4 : th.kind = 13
        · skip
          have hp : pVal ⟨tk, true, th⟩ = 99 :: pHeap th := by unfold pVal; rw [if_neg q1, if_neg q2, if_neg (by simp), if_pos q4]
          rw [hp]
          clear hp
          have g1 : (tk == 1) = false := by simp [q1]
          have g2 : (tk == 2) = false := by simp [q2]
          have g4 : (th.kind == 13) = true := by simp [q4]
          clear q1 q2 q4
          go_enter Tryd.func76, Tryd.ntmps76
          go_wp2_with first | ((at_builtin; refine app_u8 rfl (.tmp 31) (.tmp 32) _ rfl _ _ _ rfl (Out.alloc (hoo _) _) _ _ _ rfl (src_at und_bytes (hsz _) _ _ _ rfl) hb1 ?_; intro v' w3 hown3 hf3 hb3); have ho3 := Out.app1 (c := 99) hown3; have hA3 := ((Ap.fr0 (v := v) (((Fr.refl [] w).alloc _).alloc _)).trans (Ap.of hf3 hb3)); have hg3 := hg.ap hA3; have hL3 := (hL.alloc _).fr hf3 hblk; have hLC3 := hL3.cell; have hLF3 := hL3.frz; have hLT3 := hL3.lt) | (go_at_call 74; refine (putHeap_any _ hg3 _ th ho3 hn1 hn2 (by simp; omega)).mono ?_; rintro e w4 ⟨v4, rfl, ho4, hA4⟩)
          go_ret
          exact ⟨v4, rfl, by simpa using ho4, hA3.trans hA4⟩
        · skip
          have hp : pVal ⟨tk, true, th⟩ = pHeap th := by unfold pVal; rw [if_neg q1, if_neg q2, if_neg (by simp), if_neg q4]
          rw [hp]
          clear hp
          have g4 : (th.kind == 13) = false := by simp [q4]
          have g1 : (tk == 1) = false := by simp [q1]
          have g2 : (tk == 2) = false := by simp [q2]
          clear q1 q2 q4
          go_enter Tryd.func76, Tryd.ntmps76
          have hA3 := fun o => Ap.fr0 (v := v) ((Fr.refl [] w).alloc o)
          go_wp2_with (go_at_call 74; refine (putHeap_any _ (hg.ap (hA3 _)) _ th (hoo _) hn1 hn2 (by omega)).mono ?_; rintro e w4 ⟨v4, rfl, ho4, hA4⟩)
          go_ret
          exact ⟨v4, rfl, ho4, (hA3 _).trans hA4⟩

end Go.Proofs.YtokneepfknepaaaDoor
