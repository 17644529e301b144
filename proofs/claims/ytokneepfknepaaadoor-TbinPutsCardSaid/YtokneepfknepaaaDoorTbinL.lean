/- Laws of the plain functions of layer 6: what is put is read; what is read is plain, and put with no more bytes; bytes that are cut end too early. -/
import Derived.Test.YtokneepfknepaaaDoorLebL
import Derived.Test.YtokneepfknepaaaDoorTbinP
set_option linter.unusedSimpArgs false
set_option linter.unusedVariables false
namespace Go.Proofs.YtokneepfknepaaaDoor

abbrev Pars (α : Type) := List UInt8 → RdS → α × RdS
def RdS.adv (s : RdS) (k : Nat) : RdS := { s with at_ := s.at_ + k }
theorem adv_zero (s : RdS) : s.adv 0 = s := rfl
theorem adv_adv (s : RdS) (a b : Nat) : (s.adv a).adv b = s.adv (a + b) := by simp [RdS.adv, Nat.add_assoc]
theorem next_eq (s : RdS) : s.next = s.adv 1 := rfl
@[simp] theorem adv_err (s : RdS) (k : Nat) : (s.adv k).err = s.err := rfl
@[simp] theorem adv_errAt (s : RdS) (k : Nat) : (s.adv k).errAt = s.errAt := rfl
@[simp] theorem adv_at (s : RdS) (k : Nat) : (s.adv k).at_ = s.at_ + k := rfl

/-- Behind an error nothing turns. -/
def Stuck {α : Type} (F : Pars α) : Prop := ∀ bs s, s.err ≠ 0 → (F bs s).2 = s
def ErrZ {α : Type} (F : Pars α) (Z : α → Prop) : Prop := ∀ bs s, (F bs s).2.err ≠ 0 → Z (F bs s).1
/-- What was read without an error. -/
def Back {α : Type} (F : Pars α) (P : α → Nat → Prop) : Prop :=
  ∀ bs s, s.err = 0 → s.at_ ≤ bs.length → (F bs s).2.err = 0 → ∃ k, (F bs s).2 = s.adv k ∧ s.at_ + k ≤ bs.length ∧ P (F bs s).1 k
/-- There was an end too early. -/
def Early (s : RdS) (c : Nat) : Prop := s.err = 10 ∧ 0 ≤ s.errAt ∧ s.errAt ≤ c
def CutAt {α : Type} (F : Pars α) (bs : List UInt8) (s : RdS) (k c : Nat) : Prop :=
  (s.at_ + k ≤ c → F (bs.take c) s = F bs s) ∧ (c < s.at_ + k → Early (F (bs.take c) s).2 c)
def Cut1 {α : Type} (F : Pars α) : Prop :=
  ∀ bs s k, s.err = 0 → s.at_ ≤ bs.length → (F bs s).2 = s.adv k → ∀ c, s.at_ < c → c ≤ bs.length → CutAt F bs s k c
def Cut {α : Type} (F : Pars α) : Prop :=
  ∀ bs s k, s.err = 0 → s.at_ ≤ bs.length → (F bs s).2 = s.adv k → ∀ c, s.at_ ≤ c → c ≤ bs.length → CutAt F bs s k c

def pBind {α β : Type} (F : Pars α) (G : Nat → α → Pars β) : Pars β := fun bs s => G s.at_ (F bs s).1 bs (F bs s).2
def pMap {α β : Type} (F : Pars α) (m : α → β) : Pars β := fun bs s => (m (F bs s).1, (F bs s).2)

theorem Cut.cut1 {α : Type} {F : Pars α} (h : Cut F) : Cut1 F := fun bs s k he ha hk c hc hl => h bs s k he ha hk c (by omega) hl

theorem Back.mono {α : Type} {F : Pars α} {P Q : α → Nat → Prop} (h : Back F P) (hq : ∀ x k, P x k → Q x k) : Back F Q :=
  fun bs s he ha h0 => let ⟨k, h1, h2, h3⟩ := h bs s he ha h0; ⟨k, h1, h2, hq _ _ h3⟩

theorem adv_inj {s : RdS} {a b : Nat} (h : s.adv a = s.adv b) : a = b := by
  have := congrArg RdS.at_ h; simp at this; exact this

theorem Back.bind {α β : Type} {F : Pars α} {G : Nat → α → Pars β} {P : α → Nat → Prop} {Q : α → β → Nat → Prop} (hF : Back F P) (hFs : Stuck F) (hZ : ∀ (bs : List UInt8) (s : RdS), (F bs s).2.err ≠ 0 → Stuck (G s.at_ (F bs s).1))
    (hG : ∀ a x k, P x k → Back (G a x) (Q x)) : Back (pBind F G) (fun y k => ∃ x k1 k2, k = k1 + k2 ∧ P x k1 ∧ Q x y k2) := by
  intro bs s he ha h0
  have h1 : (F bs s).2.err = 0 := by
    by_cases hc : (F bs s).2.err = 0
    · exact hc
    · have := hZ bs s hc bs (F bs s).2 hc
      unfold pBind at h0
      rw [this] at h0
      exact absurd h0 hc
  obtain ⟨k1, e1, l1, p1⟩ := hF bs s he ha h1
  obtain ⟨k2, e2, l2, p2⟩ := hG s.at_ _ _ p1 bs (F bs s).2 h1 (by rw [e1]; exact l1) h0
  refine ⟨k1 + k2, ?_, ?_, _, k1, k2, rfl, p1, p2⟩
  · unfold pBind; rw [e2, e1, adv_adv]
  · rw [e1] at l2; simp at l2; omega

theorem bind_mid {α β : Type} {F : Pars α} {G : Nat → α → Pars β} {P : α → Nat → Prop} {Q : α → β → Nat → Prop} (hF : Back F P) (hZ : ∀ (bs : List UInt8) (s : RdS), (F bs s).2.err ≠ 0 → Stuck (G s.at_ (F bs s).1))
    (hG : ∀ a x k, P x k → Back (G a x) (Q x)) {bs : List UInt8} {s : RdS} {k : Nat} (he : s.err = 0) (ha : s.at_ ≤ bs.length) (hk : (pBind F G bs s).2 = s.adv k) :
    ∃ k1 k2, k = k1 + k2 ∧ (F bs s).2 = s.adv k1 ∧ s.at_ + k1 ≤ bs.length ∧ P (F bs s).1 k1 ∧ (G s.at_ (F bs s).1 bs (s.adv k1)).2 = (s.adv k1).adv k2 := by
  have h1 : (F bs s).2.err = 0 := by
    by_cases hc : (F bs s).2.err = 0
    · exact hc
    · have := hZ bs s hc bs (F bs s).2 hc
      unfold pBind at hk
      rw [this] at hk
      rw [hk] at hc
      exact absurd he hc
  obtain ⟨k1, e1, l1, p1⟩ := hF bs s he ha h1
  unfold pBind at hk
  rw [e1] at hk
  obtain ⟨k2, e2, l2, p2⟩ := hG s.at_ _ _ p1 bs (s.adv k1) he l1 (by rw [hk]; exact he)
  refine ⟨k1, k2, ?_, e1, l1, p1, e2⟩
  rw [hk, adv_adv] at e2
  exact adv_inj e2

theorem cut_bind_at {α β : Type} {F : Pars α} {G : Nat → α → Pars β} {P : α → Nat → Prop} {Q : α → β → Nat → Prop} (hF : Back F P)
    (hZ : ∀ (bs : List UInt8) (s : RdS), (F bs s).2.err ≠ 0 → Stuck (G s.at_ (F bs s).1)) (hG : ∀ a x k, P x k → Back (G a x) (Q x)) (hGc : ∀ a x k, P x k → Cut (G a x))
    {bs : List UInt8} {s : RdS} {k c : Nat} (he : s.err = 0) (ha : s.at_ ≤ bs.length) (hk : (pBind F G bs s).2 = s.adv k) (hc : c ≤ bs.length)
    (hFc : ∀ k1, (F bs s).2 = s.adv k1 → CutAt F bs s k1 c) : CutAt (pBind F G) bs s k c := by
  obtain ⟨k1, k2, rfl, e1, l1, p1, e2⟩ := bind_mid hF hZ hG he ha hk
  obtain ⟨f1, f2⟩ := hFc k1 e1
  rcases Nat.lt_or_ge c (s.at_ + k1) with h | h
  · refine ⟨by omega, fun _ => ?_⟩
    have hE := f2 h
    unfold pBind
    rw [hZ _ _ (by rw [hE.1]; decide) (bs.take c) _ (by rw [hE.1]; decide)]
    exact hE
  · have hFe := f1 h
    have := hGc s.at_ _ _ p1 bs (s.adv k1) k2 he l1 e2 c (by simpa using h) hc
    unfold CutAt at this
    simp only [adv_at, Nat.add_assoc] at this
    unfold CutAt pBind
    rw [hFe, e1]
    simpa only [Nat.add_assoc] using this

theorem Cut.bind {α β : Type} {F : Pars α} {G : Nat → α → Pars β} {P : α → Nat → Prop} {Q : α → β → Nat → Prop} (hF : Back F P) (hFc : Cut F)
    (hZ : ∀ (bs : List UInt8) (s : RdS), (F bs s).2.err ≠ 0 → Stuck (G s.at_ (F bs s).1)) (hG : ∀ a x k, P x k → Back (G a x) (Q x)) (hGc : ∀ a x k, P x k → Cut (G a x)) : Cut (pBind F G) :=
  fun bs s _ he ha hk c hac hc => cut_bind_at hF hZ hG hGc he ha hk hc fun k1 h1 => hFc bs s k1 he ha h1 c hac hc
theorem Cut1.bind {α β : Type} {F : Pars α} {G : Nat → α → Pars β} {P : α → Nat → Prop} {Q : α → β → Nat → Prop} (hF : Back F P) (hFc : Cut1 F)
    (hZ : ∀ (bs : List UInt8) (s : RdS), (F bs s).2.err ≠ 0 → Stuck (G s.at_ (F bs s).1)) (hG : ∀ a x k, P x k → Back (G a x) (Q x)) (hGc : ∀ a x k, P x k → Cut (G a x)) : Cut1 (pBind F G) :=
  fun bs s _ he ha hk c hac hc => cut_bind_at hF hZ hG hGc he ha hk hc fun k1 h1 => hFc bs s k1 he ha h1 c hac hc

/-- The same parser, but for its value behind an error. -/
def Alike {α : Type} (F G : Pars α) : Prop := ∀ bs s, (F bs s).2 = (G bs s).2 ∧ ((G bs s).2.err = 0 → (F bs s).1 = (G bs s).1)
theorem Alike.stuck {α : Type} {F G : Pars α} (h : Alike F G) (hG : Stuck G) : Stuck F := fun bs s he => (h bs s).1.trans (hG bs s he)
theorem Alike.back {α : Type} {F G : Pars α} {P : α → Nat → Prop} (h : Alike F G) (hG : Back G P) : Back F P := fun bs s he ha h0 => by
  have h1 := h bs s
  rw [h1.1] at h0
  obtain ⟨k, a, b, c⟩ := hG bs s he ha h0
  exact ⟨k, h1.1.trans a, b, by rw [h1.2 h0]; exact c⟩
theorem Alike.cut {α : Type} {F G : Pars α} (h : Alike F G) (hG : Cut G) : Cut F := fun bs s k he ha hk c hac hc => by
  have h1 := h bs s
  rw [h1.1] at hk
  obtain ⟨a, b⟩ := hG bs s k he ha hk c hac hc
  have h2 := h (bs.take c) s
  refine ⟨fun hh => ?_, fun hh => by rw [h2.1]; exact b hh⟩
  have e := a hh
  have h0 : (G bs s).2.err = 0 := by rw [hk]; exact he
  refine Prod.ext ?_ ?_
  · rw [h2.2 (by rw [e]; exact h0), h1.2 h0, e]
  · rw [h2.1, h1.1, e]

theorem pMap_back {α β : Type} {F : Pars α} {P : α → Nat → Prop} {Q : β → Nat → Prop} (h : Back F P) (m : α → β) (hq : ∀ x k, P x k → Q (m x) k) : Back (pMap F m) Q :=
  fun bs s he ha h0 => let ⟨k, h1, h2, h3⟩ := h bs s he ha h0; ⟨k, h1, h2, hq _ _ h3⟩
theorem pMap_cut {α β : Type} {F : Pars α} (h : Cut F) (m : α → β) : Cut (pMap F m) := fun bs s k he ha hk c hac hc => by
  obtain ⟨a, b⟩ := h bs s k he ha hk c hac hc
  exact ⟨fun hh => by unfold pMap; rw [a hh], b⟩

def pRet {α : Type} (x : α) : Pars α := fun _ s => (x, s)
theorem pRet_stuck {α : Type} (x : α) : Stuck (pRet x) := fun _ _ _ => rfl
theorem pRet_back {α : Type} {x : α} {Q : α → Nat → Prop} (h : Q x 0) : Back (pRet x) Q := fun _ s _ ha _ => ⟨0, (adv_zero s).symm, by omega, h⟩
theorem pRet_cut {α : Type} (x : α) : Cut (pRet x) := fun bs s k he ha hk c hac hc => by
  have : k = 0 := by have := congrArg RdS.at_ hk; simp [pRet] at this; exact this
  subst this
  exact ⟨fun _ => rfl, fun h => by omega⟩

/-- A parser that ends in an error. -/
def Fails {α : Type} (F : Pars α) : Prop := ∀ bs s, s.err = 0 → (F bs s).2.err ≠ 0
theorem Fails.back {α : Type} {F : Pars α} (h : Fails F) (Q : α → Nat → Prop) : Back F Q := fun bs s he _ h0 => absurd h0 (h bs s he)
theorem Fails.cut {α : Type} {F : Pars α} (h : Fails F) : Cut F := fun bs s k he _ hk => absurd (by rw [hk]; exact he) (h bs s he)

/- The single readers. -/
theorem fail_stuck {s : RdS} (h : s.err ≠ 0) (e a : Int) : s.fail e a = s := by simp [RdS.fail, h]
theorem fail_ok {s : RdS} (h : s.err = 0) {e : Int} (he : e ≠ 0) (a : Int) : s.fail e a = { s with err := e, errAt := a } := by simp [RdS.fail, h, he]
theorem form_stuck {s : RdS} (h : s.err ≠ 0) (a : Nat) : s.form a = s := by simp [RdS.form, h]
theorem form_err {s : RdS} (h : s.err = 0) (a : Nat) : (s.form a).err = 60 := by simp [RdS.form, RdS.refuse, RdS.fail, h]
theorem refuse_err {s : RdS} (h : s.err = 0) {e : Int} (he : e ≠ 0) (a : Nat) : (s.refuse e a).err = e := by simp [RdS.refuse, RdS.fail, h, he]

theorem rByte_stuck : Stuck rByte := fun bs s h => by simp [rByte, h, fail_stuck h]
theorem rByte_errz (bs : List UInt8) (s : RdS) (h : (rByte bs s).2.err ≠ 0) : (rByte bs s).1 = 0 := by
  unfold rByte at h ⊢
  split at h
  · rename_i hc; exact absurd hc.1 h
  · rename_i hc; rw [if_neg hc]
theorem rByte_back : Back rByte fun x k => k = 1 ∧ x < 256 := fun bs s he ha h0 => by
  unfold rByte at h0 ⊢
  split at h0
  · rename_i hc
    rw [if_pos hc]
    exact ⟨1, rfl, by omega, rfl, by have := (bs.getD s.at_ 0).toNat_lt; omega⟩
  · rw [fail_ok he (by decide)] at h0
    simp at h0
theorem take_getD (bs : List UInt8) (i c : Nat) (h : i < c) : (bs.take c).getD i 0 = bs.getD i 0 := by
  simp [List.getD, List.getElem?_take, h]
theorem rByte_cut : Cut rByte := fun bs s k he ha hk c hac hc => by
  have hk1 : k = 1 ∧ s.at_ < bs.length := by
    unfold rByte at hk
    split at hk
    · rename_i h; exact ⟨(adv_inj (a := 1) hk).symm, h.2⟩
    · rw [fail_ok he (by decide)] at hk
      have := congrArg RdS.err hk; simp [he] at this
  obtain ⟨rfl, hl⟩ := hk1
  refine ⟨fun h => ?_, fun h => ?_⟩
  · have h1 : s.at_ < (bs.take c).length := by simp; omega
    unfold rByte
    rw [if_pos ⟨he, h1⟩, if_pos ⟨he, hl⟩, take_getD _ _ _ (by omega)]
  · have h1 : ¬ s.at_ < (bs.take c).length := by simp; omega
    unfold rByte
    rw [if_neg (fun hh => h1 hh.2), fail_ok he (by decide)]
    exact ⟨rfl, by simp, by simp; omega⟩

theorem rU_stuck (bits : Nat) : Stuck (fun bs => rU bs bits) := fun bs s h => by simp [rU, h]
theorem rS_stuck (bits : Nat) : Stuck (fun bs => rS bs bits) := fun bs s h => by simp [rS, h]
theorem rU_errz (bs : List UInt8) (bits : Nat) (s : RdS) (h : (rU bs bits s).2.err ≠ 0) : (rU bs bits s).1 = 0 := by
  unfold rU at h ⊢
  split at h
  · rename_i h0
    split at h
    · exact absurd h0 h
    · rename_i h1; rw [if_pos h0, if_neg h1]
  · rename_i h0; rw [if_neg h0]
theorem rS_errz (bs : List UInt8) (bits : Nat) (s : RdS) (h : (rS bs bits s).2.err ≠ 0) : (rS bs bits s).1 = 0 := by
  unfold rS at h ⊢
  split at h
  · rename_i h0
    split at h
    · exact absurd h0 h
    · rename_i h1; rw [if_pos h0, if_neg h1]
  · rename_i h0; rw [if_neg h0]

theorem lebRead_eq {bs : List UInt8} {at_ bits : Nat} {sg : Bool} (h : at_ ≤ bs.length) : lebRead bs at_ bits sg = lebGo sg bits (bs.drop at_) at_ 0 0 := by simp [lebRead, h]
theorem lebRead_cut {bs : List UInt8} {at_ bits : Nat} {sg : Bool} {v nx c : Nat} (h : lebRead bs at_ bits sg = (v, nx, 0)) (ha : at_ ≤ bs.length) (hac : at_ ≤ c) (hc : c ≤ bs.length) :
    lebRead (bs.take c) at_ bits sg = if c < nx then (0, 0, 10) else (v, nx, 0) := by
  rw [lebRead_eq ha] at h
  rw [lebRead_eq (by simp; omega), List.drop_take, lebGo_cut _ _ _ _ _ _ _ _ _ h]
  simp only [show at_ + (c - at_) = c by omega]

theorem rU_inv {bs : List UInt8} {bits : Nat} {s : RdS} (he : s.err = 0) (h0 : (rU bs bits s).2.err = 0) :
    ∃ v nx, lebRead bs s.at_ bits false = (v, nx, 0) ∧ rU bs bits s = (v, { s with at_ := nx }) := by
  unfold rU at h0 ⊢
  rw [if_pos he] at h0 ⊢
  split at h0
  · rename_i h1
    rw [if_pos h1]
    exact ⟨_, _, Prod.ext rfl (Prod.ext rfl h1), rfl⟩
  · rename_i h1
    rw [fail_ok he (by exact_mod_cast h1)] at h0
    exact absurd h0 (by simpa using h1)
theorem rS_inv {bs : List UInt8} {bits : Nat} {s : RdS} (he : s.err = 0) (h0 : (rS bs bits s).2.err = 0) :
    ∃ v nx, lebRead bs s.at_ bits true = (v, nx, 0) ∧ rS bs bits s = (toI64 v, { s with at_ := nx }) := by
  unfold rS at h0 ⊢
  rw [if_pos he] at h0 ⊢
  split at h0
  · rename_i h1
    rw [if_pos h1]
    exact ⟨_, _, Prod.ext rfl (Prod.ext rfl h1), rfl⟩
  · rename_i h1
    rw [fail_ok he (by exact_mod_cast h1)] at h0
    exact absurd h0 (by simpa using h1)
theorem adv_to (s : RdS) {nx : Nat} (h : s.at_ ≤ nx) : ({ s with at_ := nx } : RdS) = s.adv (nx - s.at_) := by
  simp [RdS.adv]; omega

theorem rU_back (bits : Nat) (h1 : 1 ≤ bits) (hb : bits ≤ 64) : Back (fun bs => rU bs bits) fun x k => (putU x).length ≤ k ∧ x < 2 ^ bits := fun bs s he ha h0 => by
  obtain ⟨v, nx, hr, hu⟩ := rU_inv he h0
  rw [lebRead_eq ha] at hr
  have hok := lebGo_ok _ _ _ _ _ _ _ _ hr
  obtain ⟨n, e1, e2, e3⟩ := lebGo_back_u bits hb _ _ _ _ _ _ (by omega) (by simp) hr
  simp at e1 e2
  subst e1
  refine ⟨nx - s.at_, ?_, ?_, ?_⟩
  · simp only [hu]; exact adv_to s (by omega)
  · simp at hok; omega
  · simp only [hu]; exact ⟨by omega, e2⟩
theorem rS_back (bits : Nat) (h1 : 1 ≤ bits) (hb : bits ≤ 64) : Back (fun bs => rS bs bits) fun x k => (putS x).length ≤ k ∧ -(2 ^ (bits - 1)) ≤ x ∧ x < 2 ^ (bits - 1) := fun bs s he ha h0 => by
  obtain ⟨v, nx, hr, hu⟩ := rS_inv he h0
  rw [lebRead_eq ha] at hr
  have hok := lebGo_ok _ _ _ _ _ _ _ _ hr
  obtain ⟨n, e1, e2, e3, e4⟩ := lebGo_back_s bits hb _ _ _ _ _ _ (by omega) (by simp) (by simp) hr
  simp at e1 e2 e3
  refine ⟨nx - s.at_, ?_, ?_, ?_⟩
  · simp only [hu]; exact adv_to s (by omega)
  · simp at hok; omega
  · simp only [hu, e1]; exact ⟨by omega, e2, e3⟩

theorem rU_cut (bits : Nat) : Cut (fun bs => rU bs bits) := fun bs s k he ha hk c hac hc => by
  obtain ⟨v, nx, hr, hu⟩ := rU_inv (bs := bs) (bits := bits) he (by show (rU bs bits s).2.err = 0; rw [show (rU bs bits s).2 = s.adv k from hk]; exact he)
  have hl := lebRead_eq ha ▸ hr
  have hok := lebGo_ok _ _ _ _ _ _ _ _ hl
  have hk' : s.at_ + k = nx := by
    have : (rU bs bits s).2.at_ = s.at_ + k := by rw [show (rU bs bits s).2 = s.adv k from hk]; rfl
    rw [hu] at this; simp at this; omega
  have hcut := lebRead_cut hr ha hac hc
  unfold CutAt
  rw [hk']
  refine ⟨fun h => ?_, fun h => ?_⟩
  · rw [if_neg (by omega)] at hcut
    show rU (bs.take c) bits s = rU bs bits s
    rw [hu]; simp [rU, he, hcut]
  · rw [if_pos h] at hcut
    show Early (rU (bs.take c) bits s).2 c
    simp [rU, he, hcut, fail_ok he, Early]
    omega
theorem rS_cut (bits : Nat) : Cut (fun bs => rS bs bits) := fun bs s k he ha hk c hac hc => by
  obtain ⟨v, nx, hr, hu⟩ := rS_inv (bs := bs) (bits := bits) he (by show (rS bs bits s).2.err = 0; rw [show (rS bs bits s).2 = s.adv k from hk]; exact he)
  have hl := lebRead_eq ha ▸ hr
  have hok := lebGo_ok _ _ _ _ _ _ _ _ hl
  have hk' : s.at_ + k = nx := by
    have : (rS bs bits s).2.at_ = s.at_ + k := by rw [show (rS bs bits s).2 = s.adv k from hk]; rfl
    rw [hu] at this; simp at this; omega
  have hcut := lebRead_cut hr ha hac hc
  unfold CutAt
  rw [hk']
  refine ⟨fun h => ?_, fun h => ?_⟩
  · rw [if_neg (by omega)] at hcut
    show rS (bs.take c) bits s = rS bs bits s
    rw [hu]; simp [rS, he, hcut]
  · rw [if_pos h] at hcut
    show Early (rS (bs.take c) bits s).2 c
    simp [rS, he, hcut, fail_ok he, Early]
    omega

end Go.Proofs.YtokneepfknepaaaDoor
