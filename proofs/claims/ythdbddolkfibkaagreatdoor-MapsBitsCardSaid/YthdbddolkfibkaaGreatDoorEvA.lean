
/- A reckoner for whole calls on known inputs, part 10: rows of operations, statements, calls. -/
import Derived.Test.YthdbddolkfibkaaGreatDoorEv9
import Derived.LoopN
import Derived.Scope
set_option linter.unusedSimpArgs false
set_option linter.unusedVariables false
namespace Go.Proofs.YthdbddolkfibkaaGreatDoor
open Go.RowKit
section
variable {P : Program}
def cWanted (ops : List Oper) (env : Tr CV) (o : Oper) : Option Bool :=
  match o.guard with
  | none => some true
  | some (j, want) => match ops[j]? with
    | some x => match x.dst with
      | some d => match env.get d with
        | some (.bool b) => some (b == want)
        | some .undef => some false
        | _ => none
      | none => none
    | none => none
/-- All known temporaries are of the frame. -/
def EnvIn (N : Nat) (env : Tr CV) : Prop := ∀ t c, env.get t = some c → t < N ∨ (t = N ∧ isDfr c = true)
theorem EnvIn.lt {N : Nat} {env : Tr CV} (I : EnvIn N env) {t : Nat} {c : CV} (h : env.get t = some c) (hd : isDfr c = false) : t < N := by
  rcases I t c h with q | q
  · exact q
  · rw [hd] at q; cases q.2
theorem cWanted_ok {E : Emb} {N : Nat} {ops : List Oper} {env : Tr CV} {o : Oper} {b : Bool} (h : cWanted ops env o = some b) {a : Act} (A : AR E N env a) (hd : EnvIn N env) : Region.wanted o (yielded ops.toArray a.tmps) = b := by
  unfold cWanted at h
  unfold Region.wanted
  split at h
  · rename_i hg
    injection h with h
    simp only [hg]
    exact h
  · rename_i j want hg
    split at h
    · rename_i x hx
      split at h
      · rename_i d hdst
        simp only [hg]
        unfold yielded
        have e1 : ((ops.toArray[j]?).bind (·.dst)) = some d := by simp [hx, hdst]
        rw [e1]
        have e2 : ∀ c, env.get d = some c → isDfr c = false → a.tmps[d]? = some (a.tmps.getD d undef) := fun c hc hf => by
          have hlt : d < a.tmps.size := by rw [A.size]; exact hd.lt hc hf
          rw [Array.getElem?_eq_getElem hlt, Array.getD_eq_getD_getElem?, Array.getElem?_eq_getElem hlt]
          rfl
        split at h
        · rename_i b' hb
          injection h with h
          have hv := A.get d _ hb rfl
          have := e2 _ hb rfl
          generalize a.tmps.getD d undef = v at hv this
          cases hv
          simp only [Option.bind_some, this]
          rw [← h]
          cases b' <;> cases want <;> rfl
        · rename_i hb
          injection h with h
          have hv := A.get d _ hb rfl
          have := e2 _ hb rfl
          generalize a.tmps.getD d undef = v at hv this
          cases hv
          simp only [Option.bind_some, this]
          rw [← h]
          rfl
        · cases h
      · cases h
    · cases h
def dput (N : Nat) (env : Tr CV) (d : Option Nat) (c : CV) : Option (Tr CV) :=
  match d with
  | none => some env
  | some t => match Nat.ble (t + 1) N, Nat.ble (t + 1) keyMax with
    | true, true => some (eput env t c)
    | _, _ => none
theorem dput_ok {E : Emb} {N : Nat} {env env' : Tr CV} {d : Option Nat} {c : CV} (h : dput N env d c = some env') {a : Act} (A : AR E N env a) (I : EnvIn N env) {u : Value} (hu : VR E c u) : AR E N env' (a.put d u) ∧ EnvIn N env' := by
  unfold dput at h
  split at h
  · injection h with h
    subst h
    exact ⟨A, I⟩
  · rename_i t
    split at h
    · rename_i h1 h2
      injection h with h
      subst h
      have h1 := Nat.le_of_ble_eq_true h1
      have h2 := Nat.le_of_ble_eq_true h2
      refine ⟨A.put h1 (Nat.lt_of_succ_le h2) hu, fun x y hxy => ?_⟩
      unfold eput at hxy
      rw [Tr.get_put _ TD env t x (by show t < 2 ^ 40 - 1; unfold keyMax at h2; omega)] at hxy
      split at hxy
      · rename_i e
        rw [e]; exact .inl h1
      · exact I x y hxy
    · cases h
/-- A call put off. -/
def cDefer (T : Tab) (env : Tr CV) : Op → Option CV
  | .defer { callee := .value f, args := ⟨xs⟩, .. } => match ev T env f, evs T env xs with
    | some (.clo k fs cs), some ys => some (.clo k (fs ++ ys) cs)
    | _, _ => none
  | _ => none
def dfput (N : Nat) (env : Tr CV) (d : CV) : Tr CV := env.put (some (.dfr (d :: dfOf env N))) TD N
theorem cDefer_ok {T : Tab} {E : Emb} {N : Nat} {env env' : Tr CV} {a : Act} {o : Oper} (G : GlE T E) (A : AR E N env a) (I : EnvIn N env) {d : CV} (h : cDefer T env o.op = some d) (hk : N < keyMax) (hd : dput N (dfput N env d) o.dst .undef = some env') {w : World} {K : Act → World → Prop} {Q : Exit → Act → World → Prop}
    (k : ∀ a', AR E N env' a' → EnvIn N env' → K a' w) : o.wp P a w K Q := by
  unfold cDefer at h
  split at h
  · rename_i f xs ts ho
    split at h
    · rename_i kf fs cs ys h1 h2
      injection h with h
      subst h
      have hf := ev_ok G A h1
      have hx := evs_ok G A h2
      generalize hv : a.eval f = v at hf
      cases hf with
      | clo _ _ _ us vs hu1 hu2 =>
      have e : (⟨xs⟩ : Array Operand).map a.eval = (xs.map a.eval).toArray := List.map_toArray
      have hrun : (execOp a.eval o).run P w = .ok (.defer { target := .fn (.func kf) vs.toArray, args := (us ++ xs.map a.eval).toArray }) w := by
        simp only [execOp, ho, resolve, hv, Deferred.ofValue, e, Sem.run_bind, Sem.run_pure, Result.andThen_ok]
        simp
      unfold Oper.wp
      rw [hrun, Oper.upon_defer]
      have hg : ∀ t, (dfput N env (.clo kf (fs ++ ys) cs)).get t = if t = N then some (.dfr (.clo kf (fs ++ ys) cs :: dfOf env N)) else env.get t := fun t => Tr.get_put _ TD env N t (by show N < 2 ^ 40 - 1; unfold keyMax at hk; omega)
      have A1 : AR E N (dfput N env (.clo kf (fs ++ ys) cs)) { a with defers := { target := .fn (.func kf) vs.toArray, args := (us ++ xs.map a.eval).toArray } :: a.defers } := by
        refine ⟨A.size, ?_, fun t c ht hf => ?_⟩
        · have : dfOf (dfput N env (.clo kf (fs ++ ys) cs)) N = .clo kf (fs ++ ys) cs :: dfOf env N := by
            unfold dfOf
            rw [hg, if_pos rfl]
            rfl
          rw [this]
          exact .cons (hu1.app hx) hu2 A.df
        · rw [hg] at ht
          split at ht
          · injection ht with ht
            subst ht
            cases hf
          · exact A.get t c ht hf
      have I1 : EnvIn N (dfput N env (.clo kf (fs ++ ys) cs)) := fun t c ht => by
        rw [hg] at ht
        split at ht
        · rename_i e
          injection ht with ht
          subst ht
          exact .inr ⟨e, rfl⟩
        · exact I t c ht
      obtain ⟨A2, I2⟩ := dput_ok hd A1 I1 (VR.undef (E := E))
      exact k _ A2 I2
    · cases h
  · cases h
section
variable (P : Program) (T : Tab) (n0 : Nat) (F : CallF) (N : Nat)
def evOps (ops : List Oper) : List Oper → Tr CV → HS → Option (Tr CV × HS)
  | [], env, s => some (env, s)
  | o :: rest, env, s => match cWanted ops env o with
    | some true => match cOp P T n0 F env s o.op with
      | some (c, s') => match dput N env o.dst c with
        | some env' => evOps ops rest env' s'
        | none => none
      | none => match cDefer T env o.op, Nat.ble (N + 1) keyMax with
        | some d, true => match dput N (dfput N env d) o.dst .undef with
          | some env' => evOps ops rest env' s
          | none => none
        | _, _ => none
    | some false => match dput N env o.dst .undef with
      | some env' => evOps ops rest env' s
      | none => none
    | none => none
inductive CEx where
  | normal
  | exit (id : Nat)
  | ret
def CEx.ex : CEx → Exit
  | .normal => .normal
  | .exit id => .exit id
  | .ret => .ret
abbrev DrawF := List Oper → Tr CV → HS → Option (Tr CV × HS)
def loopN (f : Tr CV → HS → Option (CEx × Tr CV × HS)) : Nat → Tr CV → HS → Option (CEx × Tr CV × HS)
  | 0, _, _ => none
  | n + 1, env, s => match f env s with
    | some (.normal, env', s') => loopN f n env' s'
    | r => r
variable (D : DrawF)
def evC : Code → Tr CV → HS → Option (CEx × Tr CV × HS)
  | .skip, env, s => some (.normal, env, s)
  | .label _, env, s => some (.normal, env, s)
  | .region _ ⟨ops⟩ draw, env, s => match draw with
    | false => match evOps P T n0 F N ops ops env s with
      | some (env', s') => some (.normal, env', s')
      | none => none
    | true => match D ops env s with
      | some (env', s') => some (.normal, env', s')
      | none => none
  | .seq x y, env, s => match evC x env s with
    | some (.normal, env', s') => evC y env' s'
    | r => r
  | .cond c x y, env, s => match ev T env c with
    | some (.bool true) => evC x env s
    | some (.bool false) => evC y env s
    | _ => none
  | .block id b, env, s => match evC b env s with
    | some (.exit id', env', s') => match Nat.beq id' id with
      | true => some (.normal, env', s')
      | false => some (.exit id', env', s')
    | r => r
  | .loop b, env, s => loopN (fun env s => evC b env s) 100000 env s
  | .exit id, env, s => some (.exit id, env, s)
  | .ret, env, s => some (.ret, env, s)
  | .scope b, env, s => evC b env s
  | _, _, _ => none
end
theorem GlE.le {T : Tab} {E E' : Emb} (h : E.le E') (G : GlE T E) : GlE T E' := ⟨fun g hg => by
  obtain ⟨a, b, c⟩ := G.1 g hg
  exact ⟨h.on g a, (h.adr g a).trans b, (h.off g a).trans c⟩, h.tag.trans G.2.1, h.sy.trans G.2.2⟩
section
variable {T : Tab} {n0 : Nat} {F : CallF} {N : Nat}
theorem evOps_ok (hT : TabOk P T) (hF : CallOk P T n0 F) {ops : List Oper} {Q : Exit → Act → World → Prop} : ∀ (l : List Oper) {env env' : Tr CV} {s s' : HS} {E : Emb} {a : Act} {w : World}, evOps P T n0 F N ops l env s = some (env', s') → GlE T E → E.n0 = n0 → AR E N env a → EnvIn N env → WR E s.h s.nx w →
    (∀ E' w' a', EStep E s.h s.nx w E' s'.h s'.nx w' → AR E' N env' a' → EnvIn N env' → Q .normal a' w') → wpList P ops.toArray Q l a w
  | [], env, env', s, s', E, a, w, h, G, hn, A, I, W, k => by
    simp only [evOps, Option.some.injEq, Prod.mk.injEq] at h
    obtain ⟨rfl, rfl⟩ := h
    exact k E w a (EStep.refl W) A I
  | o :: rest, env, env', s, s', E, a, w, h, G, hn, A, I, W, k => by
    unfold evOps at h
    split at h
    · rename_i hw
      split at h
      · rename_i c s1 hc
        split at h
        · rename_i env1 hd
          refine wpList_step fun K hK => ?_
          rw [if_pos (cWanted_ok hw A I)]
          refine cOp_ok hT hF G hn A W hc fun E1 w1 u S1 hu => hK _ _ ?_
          obtain ⟨A1, I1⟩ := dput_ok hd (A.le S1.le) I hu
          exact evOps_ok hT hF rest h (G.le S1.le) (S1.le.n0.trans hn) A1 I1 S1.wr fun E' w' a' S' A' I' => k E' w' a' (S1.trans S') A' I'
        · cases h
      · split at h
        · rename_i d hc hN
          split at h
          · rename_i env1 hd
            refine wpList_step fun K hK => ?_
            rw [if_pos (cWanted_ok hw A I)]
            refine cDefer_ok G A I hc (Nat.lt_of_succ_le (Nat.le_of_ble_eq_true hN)) hd fun a1 A1 I1 => hK _ _ ?_
            exact evOps_ok hT hF rest h G hn A1 I1 W k
          · cases h
        · cases h
    · rename_i hw
      split at h
      · rename_i env1 hd
        refine wpList_step fun K hK => ?_
        rw [if_neg (by rw [cWanted_ok hw A I]; decide)]
        obtain ⟨A1, I1⟩ := dput_ok hd A I (VR.undef (E := E))
        exact hK _ _ (evOps_ok hT hF rest h G hn A1 I1 W k)
      · cases h
    · cases h
/-- What a drawn region's answer says. -/
def DrawOk (P : Program) (T : Tab) (n0 N : Nat) (D : DrawF) : Prop :=
  ∀ (id : Nat) (ops : List Oper) env s env' s', D ops env s = some (env', s') → ∀ (E : Emb) (a : Act) (w : World) (Q : Exit → Act → World → Prop), GlE T E → E.n0 = n0 → AR E N env a → EnvIn N env → WR E s.h s.nx w →
    (∀ E' w' a', EStep E s.h s.nx w E' s'.h s'.nx w' → AR E' N env' a' → EnvIn N env' → Q .normal a' w') → (Code.region id ops.toArray true).wp P Q a w
theorem evC_ok (hT : TabOk P T) (hF : CallOk P T n0 F) {D : DrawF} (hD : DrawOk P T n0 N D) : ∀ (c : Code) {env env' : Tr CV} {s s' : HS} {x : CEx} {E : Emb} {a : Act} {w : World} {Q : Exit → Act → World → Prop}, evC P T n0 F N D c env s = some (x, env', s') → GlE T E → E.n0 = n0 → AR E N env a → EnvIn N env → WR E s.h s.nx w →
    (∀ E' w' a', EStep E s.h s.nx w E' s'.h s'.nx w' → AR E' N env' a' → EnvIn N env' → Q x.ex a' w') → c.wp P Q a w
  | .skip, env, env', s, s', x, E, a, w, Q, h, G, hn, A, I, W, k => by
    simp only [evC, Option.some.injEq, Prod.mk.injEq] at h
    obtain ⟨rfl, rfl, rfl⟩ := h
    exact wp_skip (k E w a (EStep.refl W) A I)
  | .label _, env, env', s, s', x, E, a, w, Q, h, G, hn, A, I, W, k => by
    simp only [evC, Option.some.injEq, Prod.mk.injEq] at h
    obtain ⟨rfl, rfl, rfl⟩ := h
    exact wp_label (k E w a (EStep.refl W) A I)
  | .exit id, env, env', s, s', x, E, a, w, Q, h, G, hn, A, I, W, k => by
    simp only [evC, Option.some.injEq, Prod.mk.injEq] at h
    obtain ⟨rfl, rfl, rfl⟩ := h
    exact wp_exit (k E w a (EStep.refl W) A I)
  | .ret, env, env', s, s', x, E, a, w, Q, h, G, hn, A, I, W, k => by
    simp only [evC, Option.some.injEq, Prod.mk.injEq] at h
    obtain ⟨rfl, rfl, rfl⟩ := h
    exact wp_ret (k E w a (EStep.refl W) A I)
  | .region id ⟨ops⟩ draw, env, env', s, s', x, E, a, w, Q, h, G, hn, A, I, W, k => by
    cases draw with
    | false =>
      simp only [evC] at h
      split at h
      · rename_i env1 s1 h1
        simp only [Option.some.injEq, Prod.mk.injEq] at h
        obtain ⟨rfl, rfl, rfl⟩ := h
        exact wp_region_list (evOps_ok hT hF ops h1 G hn A I W k)
      · cases h
    | true =>
      simp only [evC] at h
      split at h
      · rename_i env1 s1 h1
        simp only [Option.some.injEq, Prod.mk.injEq] at h
        obtain ⟨rfl, rfl, rfl⟩ := h
        exact hD id ops env s _ _ h1 E a w Q G hn A I W k
      · cases h
  | .seq y z, env, env', s, s', x, E, a, w, Q, h, G, hn, A, I, W, k => by
    simp only [evC] at h
    split at h
    · rename_i env1 s1 h1
      exact wp_seq (evC_ok hT hF hD y h1 G hn A I W fun E1 w1 a1 S1 A1 I1 => evC_ok hT hF hD z h (G.le S1.le) (S1.le.n0.trans hn) A1 I1 S1.wr fun E' w' a' S' A' I' => k E' w' a' (S1.trans S') A' I')
    · rename_i hne
      refine wp_seq (evC_ok hT hF hD y h G hn A I W fun E1 w1 a1 S1 A1 I1 => ?_)
      cases x with
      | normal => exact absurd h (hne _ _)
      | exit id => exact k E1 w1 a1 S1 A1 I1
      | ret => exact k E1 w1 a1 S1 A1 I1
  | .cond c y z, env, env', s, s', x, E, a, w, Q, h, G, hn, A, I, W, k => by
    simp only [evC] at h
    split at h
    · rename_i hc
      have hv := ev_ok G A hc
      generalize hx : a.eval c = v at hv
      cases hv
      exact wp_cond_true hx (evC_ok hT hF hD y h G hn A I W k)
    · rename_i hc
      have hv := ev_ok G A hc
      generalize hx : a.eval c = v at hv
      cases hv
      exact wp_cond_false hx (evC_ok hT hF hD z h G hn A I W k)
    · cases h
  | .block id b, env, env', s, s', x, E, a, w, Q, h, G, hn, A, I, W, k => by
    simp only [evC] at h
    split at h
    · rename_i id' env1 s1 h1
      split at h
      · rename_i hid
        have hid := Nat.eq_of_beq_eq_true hid
        simp only [Option.some.injEq, Prod.mk.injEq] at h
        obtain ⟨rfl, rfl, rfl⟩ := h
        refine wp_block (evC_ok hT hF hD b h1 G hn A I W fun E1 w1 a1 S1 A1 I1 => ?_)
        show (if id' = id then _ else _)
        rw [if_pos hid]
        exact k E1 w1 a1 S1 A1 I1
      · rename_i hid
        simp only [Option.some.injEq, Prod.mk.injEq] at h
        obtain ⟨rfl, rfl, rfl⟩ := h
        refine wp_block (evC_ok hT hF hD b h1 G hn A I W fun E1 w1 a1 S1 A1 I1 => ?_)
        show (if id' = id then _ else _)
        rw [if_neg (fun e => by rw [e] at hid; simp at hid)]
        exact k E1 w1 a1 S1 A1 I1
    · rename_i hne
      refine wp_block (evC_ok hT hF hD b h G hn A I W fun E1 w1 a1 S1 A1 I1 => ?_)
      cases x with
      | normal => exact k E1 w1 a1 S1 A1 I1
      | exit id' => exact absurd h (hne _ _ _)
      | ret => exact k E1 w1 a1 S1 A1 I1
  | .loop b, env, env', s, s', x, E, a, w, Q, h, G, hn, A, I, W, k => by
    simp only [evC] at h
    refine wp_loop_rounds 100000 ?_
    have key : ∀ n {env : Tr CV} {s : HS} {E : Emb} {a : Act} {w : World}, loopN (fun env s => evC P T n0 F N D b env s) n env s = some (x, env', s') → GlE T E → E.n0 = n0 → AR E N env a → EnvIn N env → WR E s.h s.nx w →
        (∀ E' w' a', EStep E s.h s.nx w E' s'.h s'.nx w' → AR E' N env' a' → EnvIn N env' → Q x.ex a' w') → Code.rounds P b Q n a w := by
      intro n
      induction n with
      | zero =>
        intro env s E a w h
        simp [loopN] at h
      | succ n ih =>
        intro env s E a w h G hn A I W k
        unfold loopN at h
        split at h
        · rename_i env1 s1 h1
          exact evC_ok hT hF hD b h1 G hn A I W fun E1 w1 a1 S1 A1 I1 => ih h (G.le S1.le) (S1.le.n0.trans hn) A1 I1 S1.wr fun E' w' a' S' A' I' => k E' w' a' (S1.trans S') A' I'
        · rename_i hne
          refine evC_ok hT hF hD b h G hn A I W fun E1 w1 a1 S1 A1 I1 => ?_
          cases x with
          | normal => exact absurd h (hne _ _)
          | exit id => exact k E1 w1 a1 S1 A1 I1
          | ret => exact k E1 w1 a1 S1 A1 I1
    exact key 100000 h G hn A I W k
  | .scope b, env, env', s, s', x, E, a, w, Q, h, G, hn, A, I, W, k => by
    simp only [evC] at h
    refine wp_scope_straight (evC_ok hT hF hD b h G hn A I W fun E1 w1 a1 S1 A1 I1 => ?_)
    cases x with
    | normal => exact k E1 w1 a1 S1 A1 I1
    | exit id' => exact k E1 w1 a1 S1 A1 I1
    | ret => exact k E1 w1 a1 S1 A1 I1
  | .goto _, env, env', s, s', x, E, a, w, Q, h, _, _, _, _, _, _ => by simp [evC] at h
  | .refuse _, env, env', s, s', x, E, a, w, Q, h, _, _, _, _, _, _ => by simp [evC] at h
  | .rangeFunc .., env, env', s, s', x, E, a, w, Q, h, _, _, _, _, _, _ => by simp [evC] at h
end
end
end Go.Proofs.YthdbddolkfibkaaGreatDoor
