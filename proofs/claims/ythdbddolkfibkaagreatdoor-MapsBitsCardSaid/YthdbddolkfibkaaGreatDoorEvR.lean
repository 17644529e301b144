
/- A reckoner for whole calls on known inputs, part 10b: the body of a call that was put off, run where nothing panics: recover yields nil. -/
import Derived.Test.YthdbddolkfibkaaGreatDoorEvA
import Derived.Recover
set_option linter.unusedSimpArgs false
set_option linter.unusedVariables false
namespace Go.Proofs.YthdbddolkfibkaaGreatDoor
open Go.RowKit
section
variable (P : Program) (T : Tab) (n0 : Nat) (F : CallF) (N : Nat)
def isRecover : Op → Bool
  | .call { callee := .builtin .recover, .. } => true
  | _ => false
def evOpsS (ops : List Oper) : List Oper → Tr CV → HS → Option (Tr CV × HS)
  | [], env, s => some (env, s)
  | o :: rest, env, s => match cWanted ops env o with
    | some true => match isRecover o.op with
      | true => match dput N env o.dst .nili with
        | some env' => evOpsS ops rest env' s
        | none => none
      | false => match cOp P T n0 F env s o.op with
        | some (c, s') => match dput N env o.dst c with
          | some env' => evOpsS ops rest env' s'
          | none => none
        | none => none
    | some false => match dput N env o.dst .undef with
      | some env' => evOpsS ops rest env' s
      | none => none
    | none => none
variable (D : DrawF)
def evS : Code → Tr CV → HS → Option (CEx × Tr CV × HS)
  | .seq x y, env, s => match evS x env s with
    | some (.normal, env', s') => evS y env' s'
    | r => r
  | .cond c x y, env, s => match ev T env c with
    | some (.bool true) => evS x env s
    | some (.bool false) => evS y env s
    | _ => none
  | .region id ⟨ops⟩ draw, env, s => match draw with
    | false => match evOpsS P T n0 F N ops ops env s with
      | some (env', s') => some (.normal, env', s')
      | none => none
    | true => evC P T n0 F N D (.region id ⟨ops⟩ true) env s
  | c, env, s => evC P T n0 F N D c env s
end
section
variable {P : Program} {T : Tab} {n0 : Nat} {F : CallF} {N : Nat}
theorem upon_recover {o : Oper} {a : Act} {K : Act → World → Prop} {Q : Exit → Act → World → Prop} {w : World} : ¬ o.upon P a K Q (.ok .recover w) := fun h => h
theorem isRecover_ok {o : Oper} (h : isRecover o.op = true) (ρ : Operand → Value) (w : World) : (execOp ρ o).run P w = .ok .recover w := by
  unfold isRecover at h
  split at h
  · rename_i xs ts ho
    simp only [execOp, ho]
    rfl
  · cases h
theorem wpOpsS_plain {ops : Array Oper} {Q : Exit → Act → List Frame → World → Prop} {i : Nat} {rest : List Nat} {a : Act} {cs : List Frame} {w : World} {o : Oper} (ho : ops[i]? = some o) (hw : Region.wanted o (yielded ops a.tmps) = true)
    (h : o.wp P a w (fun a' w' => wpOpsS P ops Q rest a' cs w') (fun e a' w' => Q e a' cs w')) : wpOpsS P ops Q (i :: rest) a cs w := by
  unfold Oper.wp at h
  simp only [wpOpsS, ho, hw, if_true]
  split
  · rename_i w' hr
    rw [hr] at h
    exact (upon_recover h).elim
  · exact h
theorem wpOpsS_recover {ops : Array Oper} {Q : Exit → Act → List Frame → World → Prop} {i : Nat} {rest : List Nat} {a : Act} {cs : List Frame} {w : World} {o : Oper} (ho : ops[i]? = some o) (hw : Region.wanted o (yielded ops a.tmps) = true) (hrec : recoverD cs = none) (hr : isRecover o.op = true)
    (h : wpOpsS P ops Q rest (a.put o.dst .nilIface) cs w) : wpOpsS P ops Q (i :: rest) a cs w := by
  simp only [wpOpsS, ho, hw, if_true, isRecover_ok hr, hrec]
  exact h
theorem wpOpsS_skip {ops : Array Oper} {Q : Exit → Act → List Frame → World → Prop} {i : Nat} {rest : List Nat} {a : Act} {cs : List Frame} {w : World} {o : Oper} (ho : ops[i]? = some o) (hw : Region.wanted o (yielded ops a.tmps) = false)
    (h : wpOpsS P ops Q rest (a.put o.dst undef) cs w) : wpOpsS P ops Q (i :: rest) a cs w := by
  simp only [wpOpsS, ho, hw, Bool.false_eq_true, if_false]
  exact h
theorem evOpsS_ok (hT : TabOk P T) (hF : CallOk P T n0 F) {ops : List Oper} {Q : Exit → Act → List Frame → World → Prop} {cs : List Frame} (hrec : recoverD cs = none) : ∀ (l : List Oper) (i : Nat) {env env' : Tr CV} {s s' : HS} {E : Emb} {a : Act} {w : World}, l = ops.drop i → evOpsS P T n0 F N ops l env s = some (env', s') → GlE T E → E.n0 = n0 → AR E N env a → EnvIn N env → WR E s.h s.nx w →
    (∀ E' w' a', EStep E s.h s.nx w E' s'.h s'.nx w' → AR E' N env' a' → EnvIn N env' → Q .normal a' cs w') → wpOpsS P ops.toArray Q (List.range' i l.length) a cs w
  | [], i, env, env', s, s', E, a, w, hl, h, G, hn, A, I, W, k => by
    simp only [evOpsS, Option.some.injEq, Prod.mk.injEq] at h
    obtain ⟨rfl, rfl⟩ := h
    exact k E w a (EStep.refl W) A I
  | o :: rest, i, env, env', s, s', E, a, w, hl, h, G, hn, A, I, W, k => by
    have ho : ops.toArray[i]? = some o := by
      have : (ops.drop i)[0]? = some o := by rw [← hl]; rfl
      rw [List.getElem?_drop] at this
      simpa using this
    have hl' : rest = ops.drop (i + 1) := by
      have : (ops.drop i).drop 1 = rest := by rw [← hl]; rfl
      rw [List.drop_drop] at this
      exact this.symm
    show wpOpsS P ops.toArray Q (i :: List.range' (i + 1) rest.length) a cs w
    unfold evOpsS at h
    split at h
    · rename_i hw
      have hw' := cWanted_ok hw A I
      split at h
      · rename_i hr
        split at h
        · rename_i env1 hd
          obtain ⟨A1, I1⟩ := dput_ok hd A I (VR.nili (E := E))
          exact wpOpsS_recover ho hw' hrec hr (evOpsS_ok hT hF hrec rest (i + 1) hl' h G hn A1 I1 W k)
        · cases h
      · split at h
        · rename_i c s1 hc
          split at h
          · rename_i env1 hd
            refine wpOpsS_plain ho hw' (cOp_ok hT hF G hn A W hc fun E1 w1 u S1 hu => ?_)
            obtain ⟨A1, I1⟩ := dput_ok hd (A.le S1.le) I hu
            exact evOpsS_ok hT hF hrec rest (i + 1) hl' h (G.le S1.le) (S1.le.n0.trans hn) A1 I1 S1.wr fun E' w' a' S' A' I' => k E' w' a' (S1.trans S') A' I'
          · cases h
        · cases h
    · rename_i hw
      have hw' := cWanted_ok hw A I
      split at h
      · rename_i env1 hd
        obtain ⟨A1, I1⟩ := dput_ok hd A I (VR.undef (E := E))
        exact wpOpsS_skip ho hw' (evOpsS_ok hT hF hrec rest (i + 1) hl' h G hn A1 I1 W k)
      · cases h
    · cases h
theorem evS_ok (hT : TabOk P T) (hF : CallOk P T n0 F) {D : DrawF} (hD : DrawOk P T n0 N D) {cs : List Frame} (hrec : recoverD cs = none) : ∀ (c : Code) {env env' : Tr CV} {s s' : HS} {x : CEx} {E : Emb} {a : Act} {w : World} {Q : Exit → Act → List Frame → World → Prop}, evS P T n0 F N D c env s = some (x, env', s') → GlE T E → E.n0 = n0 → AR E N env a → EnvIn N env → WR E s.h s.nx w →
    (∀ E' w' a', EStep E s.h s.nx w E' s'.h s'.nx w' → AR E' N env' a' → EnvIn N env' → Q x.ex a' cs w') → c.wpS P Q a cs w := by
  intro c
  have fall : ∀ (c : Code) {env env' : Tr CV} {s s' : HS} {x : CEx} {E : Emb} {a : Act} {w : World} {Q : Exit → Act → List Frame → World → Prop}, evC P T n0 F N D c env s = some (x, env', s') → GlE T E → E.n0 = n0 → AR E N env a → EnvIn N env → WR E s.h s.nx w →
      (∀ E' w' a', EStep E s.h s.nx w E' s'.h s'.nx w' → AR E' N env' a' → EnvIn N env' → Q x.ex a' cs w') → c.wpS P Q a cs w := fun c _ _ _ _ _ _ _ _ _ h G hn A I W k => wpS_of_wp (evC_ok hT hF hD c h G hn A I W k)
  induction c with
  | seq y z ihy ihz =>
    intro env env' s s' x E a w Q h G hn A I W k
    simp only [evS] at h
    split at h
    · rename_i env1 s1 h1
      exact wpS_seq (ihy h1 G hn A I W fun E1 w1 a1 S1 A1 I1 => ihz h (G.le S1.le) (S1.le.n0.trans hn) A1 I1 S1.wr fun E' w' a' S' A' I' => k E' w' a' (S1.trans S') A' I')
    · rename_i hne
      refine wpS_seq (ihy h G hn A I W fun E1 w1 a1 S1 A1 I1 => ?_)
      cases x with
      | normal => exact absurd h (hne _ _)
      | exit id => exact k E1 w1 a1 S1 A1 I1
      | ret => exact k E1 w1 a1 S1 A1 I1
  | cond c y z ihy ihz =>
    intro env env' s s' x E a w Q h G hn A I W k
    simp only [evS] at h
    split at h
    · rename_i hc
      have hv := ev_ok G A hc
      generalize hx : a.eval c = v at hv
      cases hv
      exact wpS_cond hx (ihy h G hn A I W k)
    · rename_i hc
      have hv := ev_ok G A hc
      generalize hx : a.eval c = v at hv
      cases hv
      exact wpS_cond hx (ihz h G hn A I W k)
    · cases h
  | region id ops draw =>
    intro env env' s s' x E a w Q h G hn A I W k
    obtain ⟨ops⟩ := ops
    cases draw with
    | true => exact fall _ h G hn A I W k
    | false =>
      simp only [evS] at h
      split at h
      · rename_i env1 s1 h1
        simp only [Option.some.injEq, Prod.mk.injEq] at h
        obtain ⟨rfl, rfl, rfl⟩ := h
        refine wpS_region ?_
        rw [List.range_eq_range']
        exact evOpsS_ok hT hF hrec ops 0 rfl h1 G hn A I W k
      · cases h
  | _ => exact fun h => fall _ h
end
end Go.Proofs.YthdbddolkfibkaaGreatDoor
