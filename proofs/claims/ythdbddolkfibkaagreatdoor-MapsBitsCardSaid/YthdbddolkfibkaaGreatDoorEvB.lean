
/- A reckoner for whole calls on known inputs, part 11: whole calls. -/
import Derived.Test.YthdbddolkfibkaaGreatDoorEvR
set_option linter.unusedSimpArgs false
set_option linter.unusedVariables false
namespace Go.Proofs.YthdbddolkfibkaaGreatDoor
open Go.RowKit
section
variable {P : Program}
theorem VR.ptr_inv {E : Emb} {g o : Nat} {u : Value} (h : VR E (.ptr g o) u) : u = .pointer (some ⟨E.adr g, E.off g + o, none⟩) := by cases h; rfl
def cRes1 (T : Tab) (h : Tr (List CV)) (env : Tr CV) : ResultVar → Option CV
  | .tmp t => match env.get t with
    | some (.dfr _) => none
    | r => r
  | .cell t ty => match env.get t with
    | some (.ptr g o) => cLoad T h ty (.ptr g o)
    | _ => none
def cRess (T : Tab) (h : Tr (List CV)) (env : Tr CV) : List ResultVar → Option (List CV)
  | [] => some []
  | r :: rs => match cRes1 T h env r, cRess T h env rs with
    | some c, some cs => some (c :: cs)
    | _, _ => none
def cResult (T : Tab) (h : Tr (List CV)) (env : Tr CV) (rs : Array ResultVar) : Option CV :=
  match rs with
  | ⟨l⟩ => match cRess T h env l with
    | some [c] => some c
    | some cs => some (.tup cs)
    | none => none
def resG (tmps : Array Value) : ResultVar → Sem Value
  | .tmp t => pure (tmps.getD t undef)
  | .cell a t => do loadVar t (← asAddr (tmps.getD a undef))
theorem cRes1_ok {T : Tab} (hT : TabOk P T) {E : Emb} {N : Nat} {hp : Tr (List CV)} {nx : Nat} {env : Tr CV} {a : Act} {w : World} (A : AR E N env a) (W : WR E hp nx w) {r : ResultVar} {c : CV} (h : cRes1 T hp env r = some c) :
    ∃ u, (resG a.tmps r).run P w = .ok u w ∧ VR E c u := by
  cases r with
  | tmp t =>
    simp only [cRes1] at h
    split at h
    · cases h
    · rename_i hne
      refine ⟨_, rfl, A.get t c h ?_⟩
      cases c <;> first | rfl | exact absurd h (hne _)
  | cell t ty =>
    simp only [cRes1] at h
    split at h
    · rename_i g o ht
      have hv := A.get t _ ht rfl
      obtain ⟨v, v1, v2⟩ := cLoad_ok hT W h hv
      refine ⟨v, ?_, v2⟩
      have hp := VR.ptr_inv hv
      rw [hp] at v1
      simp only [Instr.loadAt, Instr.sureAddr, Sem.run_bind, Sem.run_pure, Result.andThen_ok] at v1
      show Sem.run P (do loadVar ty (← asAddr (a.tmps.getD t undef))) w = _
      rw [hp]
      simp only [asAddr, Sem.run_bind, Sem.run_pure, Result.andThen_ok]
      exact v1
    · cases h
theorem cRess_ok {T : Tab} (hT : TabOk P T) {E : Emb} {N : Nat} {hp : Tr (List CV)} {nx : Nat} {env : Tr CV} {a : Act} {w : World} (A : AR E N env a) (W : WR E hp nx w) : ∀ {rs : List ResultVar} {cs : List CV}, cRess T hp env rs = some cs →
    ∃ us, (rs.mapM (resG a.tmps)).run P w = .ok us w ∧ VRs E cs us
  | [], cs, h => by
    injection h with h
    subst h
    exact ⟨[], by simp, .nil⟩
  | r :: rs, cs, h => by
    unfold cRess at h
    split at h
    · rename_i c cs' h1 h2
      injection h with h
      subst h
      obtain ⟨u, u1, u2⟩ := cRes1_ok hT A W h1
      obtain ⟨us, v1, v2⟩ := cRess_ok hT A W h2
      exact ⟨u :: us, by simp [List.mapM_cons, Sem.run_bind, u1, v1], .cons u2 v2⟩
    · cases h
theorem cResult_ok {T : Tab} (hT : TabOk P T) {E : Emb} {N : Nat} {hp : Tr (List CV)} {nx : Nat} {env : Tr CV} {a : Act} {w : World} (A : AR E N env a) (W : WR E hp nx w) {fn : Func} {c : CV} (h : cResult T hp env fn.results = some c) :
    ∃ u, (results fn a.tmps).run P w = .ok u w ∧ VR E c u := by
  have key : ∀ us : List Value, (fn.results.toList.mapM (resG a.tmps)).run P w = .ok us w → (results fn a.tmps).run P w = .ok (if h : us.length = 1 then us[0] else .tuple us.toArray) w := fun us hu => by
    show Sem.run P (do let vs ← fn.results.mapM (resG a.tmps); pure (if h : vs.size = 1 then vs[0] else .tuple vs)) w = _
    rw [Sem.run_bind, Array.mapM_eq_mapM_toList, map_eq_pure_bind, Sem.run_bind, hu]
    simp only [Result.andThen_ok, Sem.run_pure, List.size_toArray, List.getElem_toArray]
  unfold cResult at h
  split at h
  rename_i l hl
  have hl' : fn.results.toList = l := by rw [hl]
  split at h
  · rename_i c' hc
    injection h with h
    subst h
    obtain ⟨us, u1, u2⟩ := cRess_ok hT A W hc
    cases u2 with
    | cons u2 hr =>
    cases hr
    rw [← hl'] at u1
    exact ⟨_, key _ u1, u2⟩
  · rename_i cs hne hc
    injection h with h
    subst h
    obtain ⟨us, u1, u2⟩ := cRess_ok hT A W hc
    have hlen := u2.len
    rw [← hl'] at u1
    refine ⟨_, key _ u1, ?_⟩
    rw [dif_neg]
    · exact .tup _ _ u2
    · intro h1
      match cs, hne, hlen with
      | [], _, hlen => simp at hlen; omega
      | [c], hne, _ => exact hne c rfl
      | _ :: _ :: _, _, hlen => simp at hlen; omega
  · cases h
def envOf : Nat → List CV → Tr CV → Tr CV
  | _, [], e => e
  | i, c :: cs, e => envOf (i + 1) cs (eput e i c)
theorem envOf_get : ∀ (cs : List CV) (i : Nat) (e : Tr CV) (t : Nat), i + cs.length < keyMax → (envOf i cs e).get t = if i ≤ t ∧ t < i + cs.length then cs[t - i]? else e.get t
  | [], i, e, t, _ => by
    unfold envOf
    rw [if_neg (by simp only [List.length_nil]; omega)]
  | c :: cs, i, e, t, h => by
    simp only [List.length_cons] at h ⊢
    rw [envOf, envOf_get cs (i + 1) _ t (by omega)]
    by_cases h1 : i + 1 ≤ t ∧ t < i + 1 + cs.length
    · rw [if_pos h1, if_pos (by omega), show t - i = (t - (i + 1)) + 1 by omega, List.getElem?_cons_succ]
    · rw [if_neg h1]
      unfold eput
      rw [Tr.get_put _ TD e i t (by show i < 2 ^ 40 - 1; unfold keyMax at h; omega)]
      by_cases h2 : t = i
      · subst h2
        rw [if_pos rfl, if_pos (by omega)]
        simp
      · rw [if_neg h2, if_neg (by omega)]
theorem run_enter {f : FuncId} {fn : Func} {c : Code} (hf : P.funcs[f]? = some fn) (hname : (fn.name == "runtime.NumGoroutine") = false) (hb : fn.body = some c) (args : Array Value) (w : World) :
    (callFunc f args).run P w = .ok (.enter f args) w := by
  have h1 : fn.name ≠ "runtime.NumGoroutine" := by simpa using hname
  simp [callFunc, hf, h1, hb]
/-- Calls whose answer is told, and which leave the world as it is. -/
abbrev Told := Nat → List CV → Option CV
def ToldOk (P : Program) (X : Told) : Prop :=
  ∀ f args c, X f args = some c → ∀ (E : Emb) (us : List Value) (w : World), VRs E args us → Lands P f us w fun e w' => w' = w ∧ ∃ u, e = .returned u ∧ VR E c u
/-- Calls that were put off, one after the other. -/
def evDfr (P : Program) (T : Tab) (n0 : Nat) (F : CallF) (D : Nat → DrawF) : List CV → HS → Option HS
  | [], s => some s
  | .clo f fs cs :: l, s => match T.fn.get f with
    | some fn => match fn.body, Nat.ble (fs ++ cs).length fn.ntmps, Nat.ble ((fs ++ cs).length + 1) keyMax with
      | some c, true, true => match evS P T n0 F fn.ntmps (D fn.ntmps) c (envOf 0 (fs ++ cs) .nil) s with
        | some (.normal, env, s') => match dfOf env fn.ntmps, cResult T s'.h env fn.results with
          | [], some _ => evDfr P T n0 F D l s'
          | _, _ => none
        | some (.ret, env, s') => match dfOf env fn.ntmps, cResult T s'.h env fn.results with
          | [], some _ => evDfr P T n0 F D l s'
          | _, _ => none
        | _ => none
      | _, _, _ => none
    | none => none
  | _, _ => none
theorem enter_AR {E : Emb} {args : List CV} {us : List Value} {n : Nat} (hus : VRs E args us) (h1 : args.length ≤ n) (h2 : args.length + 1 ≤ keyMax) : AR E n (envOf 0 args .nil) { tmps := us.toArray ++ Array.replicate (n - us.toArray.size) undef, defers := [] } ∧ EnvIn n (envOf 0 args .nil) := by
  have hl := hus.len
  have hN : dfOf (envOf 0 args .nil) n = [] := by
    unfold dfOf
    rw [envOf_get args 0 .nil n (by omega), if_neg (by omega), Tr.get_nil]
  refine ⟨⟨by simp; omega, by rw [hN]; exact .nil, fun t x hx _ => ?_⟩, fun t x hx => ?_⟩
  · rw [envOf_get args 0 .nil t (by omega)] at hx
    split at hx
    · rename_i ht
      rw [Nat.sub_zero] at hx
      obtain ⟨u, u1, u2⟩ := hus.get hx
      have ht2 : t < us.length := by omega
      have : (us.toArray ++ Array.replicate (n - us.toArray.size) undef).getD t undef = u := by
        rw [Array.getD_eq_getD_getElem?, Array.getElem?_append_left (by simpa using ht2), List.getElem?_toArray, u1]
        rfl
      rw [this]
      exact u2
    · rw [Tr.get_nil] at hx; cases hx
  · rw [envOf_get args 0 .nil t (by omega)] at hx
    split at hx
    · left; omega
    · rw [Tr.get_nil] at hx; cases hx
theorem evDfr_ok {T : Tab} (hT : TabOk P T) {n0 : Nat} {F : CallF} (hF : CallOk P T n0 F) {D : Nat → DrawF} (hD : ∀ N, DrawOk P T n0 N (D N)) {fn : Func} {tmps : Array Value} {R : Ending → World → Prop} : ∀ {l : List CV} {ds : List Deferred} {s s' : HS} {E : Emb} {w : World}, evDfr P T n0 F D l s = some s' → DfR E l ds → GlE T E → E.n0 = n0 → WR E s.h s.nx w →
    (∀ E' w', EStep E s.h s.nx w E' s'.h s'.nx w' → ∃ v, (results fn tmps).run P w' = .ok v w' ∧ R (.returned v) w') → Leaves P fn tmps R ds .returning w
  | [], ds, s, s', E, w, h, hd, G, hn, W, k => by
    cases hd
    simp only [evDfr, Option.some.injEq] at h
    subst h
    exact k E w (EStep.refl W)
  | c0 :: l, ds, s, s', E, w, h, hd, G, hn, W, k => by
    cases hd with
    | cons hu hv hr =>
    rename_i f fs cs us vs ds
    unfold evDfr at h
    split at h
    rotate_left
    · cases h
    rename_i gn hgn
    obtain ⟨hP, hname⟩ := hT.fn _ _ hgn
    split at h
    · rename_i c hb h1 h2
      have h1 := Nat.le_of_ble_eq_true h1
      have h2 := Nat.le_of_ble_eq_true h2
      obtain ⟨A0, I0⟩ := enter_AR (hu.app hv) h1 h2
      have hinv : (invoke (.fn (.func f) vs.toArray) us.toArray).run P w = .ok (.enter f (us ++ vs).toArray) w := by
        show (callFunc f (us.toArray ++ vs.toArray)).run P w = _
        rw [show us.toArray ++ vs.toArray = (us ++ vs).toArray by simp]
        exact run_enter hP hname hb _ w
      refine leaves_cons (by simp) hinv (callsD_of_wpS hP hb fun c₀ cs0 hm => ?_)
      have hrec : recoverD (c₀ :: cs0) = none := by simp only [recoverD, hm]
      have fin : ∀ {env : Tr CV} {s1 : HS} {r : CV} {E1 : Emb} {w1 : World} {a1 : Act}, dfOf env gn.ntmps = [] → cResult T s1.h env gn.results = some r → evDfr P T n0 F D l s1 = some s' → EStep E s.h s.nx w E1 s1.h s1.nx w1 → AR E1 gn.ntmps env a1 →
          a1.defers = [] ∧ ∃ u', c₀ :: cs0 = { c₀ with mode := u' } :: cs0 ∧ ∃ v, (results gn a1.tmps).run P w1 = .ok v w1 ∧ Leaves P fn tmps R ds (settle u') w1 := by
        intro env s1 r E1 w1 a1 hdf hres hrest S1 A1
        have hd := A1.df
        rw [hdf] at hd
        refine ⟨by generalize a1.defers = dd at hd; cases hd; rfl, .returning, by rw [← hm], ?_⟩
        obtain ⟨v, v1, v2⟩ := cResult_ok hT A1 S1.wr hres
        exact ⟨v, v1, evDfr_ok hT hF hD hrest (hr.le S1.le) (G.le S1.le) (S1.le.n0.trans hn) S1.wr fun E' w' S' => k E' w' (S1.trans S')⟩
      split at h
      · rename_i env s1 he
        split at h
        · rename_i r hdf hres
          exact evS_ok hT hF (hD _) hrec c he G hn A0 I0 W fun E1 w1 a1 S1 A1 I1 => fin hdf hres h S1 A1
        · cases h
      · rename_i env s1 he
        split at h
        · rename_i r hdf hres
          exact evS_ok hT hF (hD _) hrec c he G hn A0 I0 W fun E1 w1 a1 S1 A1 I1 => fin hdf hres h S1 A1
        · cases h
      · cases h
    · cases h
/-- Calls to a depth. -/
def cCallF (P : Program) (T : Tab) (n0 : Nat) (X : Told) (D : CallF → Nat → DrawF) : Nat → CallF
  | 0, _, _, _ => none
  | m + 1, f, args, s => match X f args with
   | some c => some (c, s)
   | none => match T.fn.get f with
    | some fn => match fn.body, Nat.ble args.length fn.ntmps, Nat.ble (args.length + 1) keyMax with
      | some c, true, true => match evC P T n0 (cCallF P T n0 X D m) fn.ntmps (D (cCallF P T n0 X D m) fn.ntmps) c (envOf 0 args .nil) s with
        | some (.normal, env, s') => match evDfr P T n0 (cCallF P T n0 X D m) (D (cCallF P T n0 X D m)) (dfOf env fn.ntmps) s' with
          | some s' => match cResult T s'.h env fn.results with
            | some r => some (r, s')
            | none => none
          | none => none
        | some (.ret, env, s') => match evDfr P T n0 (cCallF P T n0 X D m) (D (cCallF P T n0 X D m)) (dfOf env fn.ntmps) s' with
          | some s' => match cResult T s'.h env fn.results with
            | some r => some (r, s')
            | none => none
          | none => none
        | _ => none
      | _, _, _ => none
    | none => none
theorem cCallF_ok {T : Tab} (hT : TabOk P T) {n0 : Nat} {X : Told} (hX : ToldOk P X) {D : CallF → Nat → DrawF} (hD : ∀ F N, CallOk P T n0 F → DrawOk P T n0 N (D F N)) : ∀ m, CallOk P T n0 (cCallF P T n0 X D m)
  | 0 => fun f args s r s' h => by simp [cCallF] at h
  | m + 1 => fun f args s r s' h E w us G hn hus W R hR => by
    have ih := cCallF_ok hT hX hD m
    unfold cCallF at h
    split at h
    · rename_i c hc
      simp only [Option.some.injEq, Prod.mk.injEq] at h
      obtain ⟨rfl, rfl⟩ := h
      rcases hX f args c hc E us w hus with ⟨e1, e2⟩ | ⟨v, w', e1, e2⟩
      · refine .inl ⟨e1, e2.mono fun e w' he => ?_⟩
        obtain ⟨rfl, u, rfl, hu⟩ := he
        exact hR E w' u (EStep.refl W) hu
      · obtain ⟨rfl, u, hu, hv⟩ := e2
        injection hu with hu
        subst hu
        exact .inr ⟨v, w', e1, hR E w' v (EStep.refl W) hv⟩
    · split at h
      rotate_left
      · cases h
      rename_i fn hfn
      obtain ⟨hP, hname⟩ := hT.fn _ _ hfn
      split at h
      · rename_i c hb h1 h2
        have h1 := Nat.le_of_ble_eq_true h1
        have h2 := Nat.le_of_ble_eq_true h2
        obtain ⟨A0, I0⟩ := enter_AR hus h1 h2
        refine .inl ⟨run_enter hP hname hb _ w, ?_⟩
        refine calls_of_wp_defers hP hb ?_
        split at h
        · rename_i env s1 he
          split at h
          · rename_i s2 hdf
            split at h
            · rename_i r' hr
              simp only [Option.some.injEq, Prod.mk.injEq] at h
              obtain ⟨rfl, rfl⟩ := h
              refine evC_ok hT ih (hD _ _ ih) c he G hn A0 I0 W fun E1 w1 a1 S1 A1 I1 => ?_
              refine evDfr_ok hT ih (fun N => hD _ N ih) hdf A1.df (G.le S1.le) (S1.le.n0.trans hn) S1.wr fun E' w' S' => ?_
              obtain ⟨u, u1, u2⟩ := cResult_ok hT (A1.le S'.le) S'.wr hr
              exact ⟨u, u1, hR E' w' u (S1.trans S') u2⟩
            · cases h
          · cases h
        · rename_i env s1 he
          split at h
          · rename_i s2 hdf
            split at h
            · rename_i r' hr
              simp only [Option.some.injEq, Prod.mk.injEq] at h
              obtain ⟨rfl, rfl⟩ := h
              refine evC_ok hT ih (hD _ _ ih) c he G hn A0 I0 W fun E1 w1 a1 S1 A1 I1 => ?_
              refine evDfr_ok hT ih (fun N => hD _ N ih) hdf A1.df (G.le S1.le) (S1.le.n0.trans hn) S1.wr fun E' w' S' => ?_
              obtain ⟨u, u1, u2⟩ := cResult_ok hT (A1.le S'.le) S'.wr hr
              exact ⟨u, u1, hR E' w' u (S1.trans S') u2⟩
            · cases h
          · cases h
        · cases h
      · cases h
end
end Go.Proofs.YthdbddolkfibkaaGreatDoor
