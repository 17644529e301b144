
/- A reckoner for whole calls on known inputs, part 9: one operation, of whatever kind. -/
import Derived.Test.YthdbddolkfibkaaGreatDoorEvU
set_option linter.unusedSimpArgs false
set_option linter.unusedVariables false
namespace Go.Proofs.YthdbddolkfibkaaGreatDoor
open Go.RowKit
section
variable {P : Program}
def evp (T : Tab) (env : Tr CV) : List (Nat × Operand) → Option (List (Nat × CV))
  | [] => some []
  | (i, x) :: xs => match ev T env x, evp T env xs with
    | some c, some cs => some ((i, c) :: cs)
    | _, _ => none
theorem evp_ok {T : Tab} {E : Emb} {N : Nat} {env : Tr CV} {a : Act} (G : GlE T E) (A : AR E N env a) : ∀ {xs : List (Nat × Operand)} {cs : List (Nat × CV)}, evp T env xs = some cs → PRs E cs (xs.map fun p => (p.1, a.eval p.2))
  | [], _, h => by injection h with h; subst h; exact .nil
  | (i, x) :: xs, cs, h => by
    unfold evp at h
    split at h
    · rename_i c cs' h1 h2
      injection h with h
      subst h
      exact .cons (ev_ok G A h1) (evp_ok G A h2)
    · cases h
def evo (T : Tab) (env : Tr CV) : Option Operand → Option (Option CV)
  | none => some none
  | some x => match ev T env x with
    | some c => some (some c)
    | none => none
theorem evo_ok {T : Tab} {E : Emb} {N : Nat} {env : Tr CV} {a : Act} (G : GlE T E) (A : AR E N env a) {x : Option Operand} {c : Option CV} (h : evo T env x = some c) : OR E c (x.map a.eval) := by
  unfold evo at h
  split at h
  · injection h with h; subst h; exact .none
  · rename_i y
    split at h
    · rename_i c' hc
      injection h with h
      subst h
      exact .some (ev_ok G A hc)
    · cases h
/-- The heap and the next number. -/
structure HS where
  h : Tr (List CV)
  nx : Nat
abbrev CallF := Nat → List CV → HS → Option (CV × HS)
/-- A call: of a function that has a body, or of one that the model answers itself. -/
def Lands (P : Program) (f : FuncId) (us : List Value) (w : World) (R : Ending → World → Prop) : Prop :=
  ((callFunc f us.toArray).run P w = .ok (.enter f us.toArray) w ∧ Calls P f us.toArray w R) ∨ ∃ v w', (callFunc f us.toArray).run P w = .ok (.value v) w' ∧ R (.returned v) w'
/-- What a call's answer says. -/
def CallOk (P : Program) (T : Tab) (n0 : Nat) (F : CallF) : Prop :=
  ∀ f args s r s', F f args s = some (r, s') → ∀ (E : Emb) (w : World) (us : List Value), GlE T E → E.n0 = n0 → VRs E args us → WR E s.h s.nx w → ∀ R : Ending → World → Prop,
    (∀ E' w' v, EStep E s.h s.nx w E' s'.h s'.nx w' → VR E' r v → R (.returned v) w') → Lands P f us w R
def pureR (r : Option CV) (s : HS) : Option (CV × HS) :=
  match r with
  | some c => force c fun c => some (c, s)
  | none => none
theorem pureR_eq {r : Option CV} {s s' : HS} {c : CV} (h : pureR r s = some (c, s')) : r = some c ∧ s' = s := by
  unfold pureR at h
  split at h
  · rw [force_eq] at h
    simp only [Option.some.injEq, Prod.mk.injEq] at h
    exact ⟨by rw [h.1], h.2.symm⟩
  · cases h
def freshR (T : Tab) (ty : Nat) (r : Option (List CV × Fresh)) (s : HS) : Option (CV × HS) :=
  match r, Nat.ble (s.nx + 4) keyMax with
  | some (cs, f), true => forceNat (noOf s.nx (tagOf T ty)) fun g => some (f.cv g, ⟨hput s.h g cs, g + 1⟩)
  | _, _ => none
/-- The callee of a call, as a function's number. -/
def fnOf : CV → Option Nat
  | .fn f => some f
  | _ => none
def cNil : CV → Option CV
  | .ptr g o => some (.ptr g o)
  | .fn f => some (.fn f)
  | .clo f fs cs => some (.clo f fs cs)
  | .sl g o n k => some (.sl g o n k)
  | _ => none
def cCall (P : Program) (T : Tab) (n0 : Nat) (F : CallF) (env : Tr CV) (s : HS) (c : Call) : Option (CV × HS) :=
  match c with
  | { callee := .builtin b, args := ⟨xs⟩, argTypes := ⟨ts⟩ } => match b, evs T env xs, ts with
    | .len, some [x], [t] => pureR (cLenM T s.h t x) s
    | .append, some [d, x], [t, tx] => match cAppend T n0 s.h s.nx t tx d x with
      | some (r, h, nx) => some (r, ⟨h, nx⟩)
      | none => none
    | .min, some [.int k x, .int _ y], _ => pureR (some (.int k (if y < x then y else x))) s
    | .max, some [.int k x, .int _ y], _ => pureR (some (.int k (if y > x then y else x))) s
    | .max, some l, ts => pureR (T.sl .max ts l) s
    | .unsafeSliceData, some [.sl g o _ k], _ => match hget s.h g with
      | some cs => match Nat.ble (o + k) cs.length, Nat.ble 1 k with
        | true, true => pureR (some (.ptr g o)) s
        | _, _ => none
      | none => none
    | .unsafeString, some [.ptr g o, .int .i64 (.ofNat n)], [pt, _] => match cStr T n0 s.h pt g o n with
      | some (r, h) => some (r, ⟨h, s.nx⟩)
      | none => none
    | .delete, some [m, k], [t, _] => match cDelete T n0 s.h t m k with
      | some h => some (.tup [], ⟨h, s.nx⟩)
      | none => none
    | _, _, _ => none
  | { callee := .value f, args := ⟨xs⟩, .. } => match ev T env f, evs T env xs with
    | some (.fn k), some cs => F k cs s
    | some (.clo k fs ds), some cs => F k (fs ++ cs ++ ds) s
    | _, _ => none
  | _ => none
def cOp (P : Program) (T : Tab) (n0 : Nat) (F : CallF) (env : Tr CV) (s : HS) (op : Op) : Option (CV × HS) :=
  match op with
  | .move x => pureR (ev T env x) s
  | .assign x => pureR (ev T env x) s
  | .pick c x y => match ev T env c with
    | some (.bool true) => pureR (ev T env x) s
    | some (.bool false) => pureR (ev T env y) s
    | _ => none
  | .alloc e => freshR T e (cAlloc T e) s
  | .box e x => match ev T env x with
    | some c => freshR T e (cBox c) s
    | none => none
  | .build t ⟨ps⟩ => match evp T env ps with
    | some cs => pureR (cBuild T t cs) s
    | none => none
  | .buildSlice t n ⟨ps⟩ => match evp T env ps with
    | some cs => freshR T (elemTy T t) (cBuildSlice T t n cs) s
    | none => none
  | .makeSlice t l c => match ev T env l, ev T env c with
    | some a, some b => freshR T (elemTy T t) (cMakeSlice T t a b) s
    | _, _ => none
  | .load t x => match ev T env x with
    | some c => pureR (cLoad T s.h t c) s
    | none => none
  | .store t p x => match ev T env p, ev T env x with
    | some a, some b => match cStore T n0 s.h t a b with
      | some h => some (.undef, ⟨h, s.nx⟩)
      | none => none
    | _, _ => none
  | .nilCheck x => match ev T env x with
    | some c => pureR (cNil c) s
    | none => none
  | .binOp op t x y _ => match ev T env x, ev T env y with
    | some a, some b => pureR (cBin P T op t x y a b) s
    | _, _ => none
  | .unOp op _ x => match ev T env x with
    | some a => pureR (cUn P op a) s
    | none => none
  | .convert a b x => match ev T env x with
    | some c => match Nat.beq a b with
      | true => match cSelf T n0 s.h a c with
        | some r => some (r, s)
        | none => pureR (cConv P T s.h a b c) s
      | false => match cConvP T n0 s.h a b c with
        | some r => pureR (some r) s
        | none => pureR (cConv P T s.h a b c) s
    | none => none
  | .slice t x lo hi none => match ev T env x, evo T env lo, evo T env hi with
    | some c, some l, some h => pureR (cSlice T s.h t c l h) s
    | _, _, _ => none
  | .fieldAddr t x f => match ev T env x with
    | some c => pureR (cFieldAddr T t c f) s
    | none => none
  | .field t x f => match ev T env x with
    | some c => pureR (cField T t c f) s
    | none => none
  | .indexAddr t x i => match ev T env x, ev T env i with
    | some c, some j => pureR (cIndexAddr T t c j) s
    | _, _ => none
  | .index t x i => match ev T env x, ev T env i with
    | some c, some j => pureR (cIndex T t c j) s
    | _, _ => none
  | .extract x i => match ev T env x with
    | some c => pureR (cExtract c i) s
    | none => none
  | .makeFunc (.func f) ⟨fs⟩ ⟨cs⟩ => match evs T env fs, evs T env cs with
    | some us, some vs => pureR (some (.clo f us vs)) s
    | _, _ => none
  | .lookup t x i b => match ev T env x, ev T env i with
    | some c, some j => pureR (cLookup T s.h t c j b) s
    | _, _ => none
  | .makeMap _ none => match Nat.ble (s.nx + 1) keyMax with
    | true => some (.map s.nx, ⟨hput s.h s.nx [.mobj 0], s.nx + 1⟩)
    | false => none
  | .mapUpdate t m k x => match ev T env m, ev T env k, ev T env x with
    | some a, some b, some c => match cUpdate T n0 s.h t a b c with
      | some h => some (.undef, ⟨h, s.nx⟩)
      | none => none
    | _, _, _ => none
  | .insert t m k x => match ev T env m, ev T env k, ev T env x with
    | some a, some b, some c => match cUpdate T n0 s.h t a b c with
      | some h => some (.undef, ⟨h, s.nx⟩)
      | none => none
    | _, _, _ => none
  | .call c => cCall P T n0 F env s c
  | _ => none
theorem exec_builtin {o : Oper} {b : Builtin} {xs : List Operand} {ts : List TypeId} (ho : o.op = .call { callee := .builtin b, args := ⟨xs⟩, argTypes := ⟨ts⟩ }) (ρ : Operand → Value) : ∃ cs, execOp ρ o = builtin b ⟨ts⟩ o.type cs (xs.map ρ).toArray := by
  refine ⟨(⟨xs⟩ : Array Operand).map (fun | .const _ => true | _ => false), ?_⟩
  have e : (⟨xs⟩ : Array Operand).map ρ = (xs.map ρ).toArray := List.map_toArray
  rw [← e]
  simp only [execOp, ho]
  rfl
theorem exec_clo {o : Oper} {f : Operand} {k : Nat} {xs : List Operand} {ats : Array TypeId} {us vs : List Value} (ho : o.op = .call { callee := .value f, args := ⟨xs⟩, argTypes := ats }) (ρ : Operand → Value) (hv : ρ f = .func (.func k) us.toArray vs.toArray) : execOp ρ o = callFunc k (us ++ xs.map ρ ++ vs).toArray := by
  have e : (⟨xs⟩ : Array Operand).map ρ = (xs.map ρ).toArray := List.map_toArray
  have e2 : execOp ρ o = callFunc k ((us.toArray ++ (⟨xs⟩ : Array Operand).map ρ) ++ vs.toArray) := by
    simp only [execOp, ho, resolve, hv]
    rfl
  rw [e2, e]
  simp
theorem exec_func {o : Oper} {f : Operand} {k : Nat} {xs : List Operand} {ats : Array TypeId} (ho : o.op = .call { callee := .value f, args := ⟨xs⟩, argTypes := ats }) (ρ : Operand → Value) (hv : ρ f = .func (.func k) #[] #[]) : execOp ρ o = callFunc k (xs.map ρ).toArray := by
  have e : (⟨xs⟩ : Array Operand).map ρ = (xs.map ρ).toArray := List.map_toArray
  have e2 : execOp ρ o = callFunc k ((#[] ++ (⟨xs⟩ : Array Operand).map ρ) ++ #[]) := by
    simp only [execOp, ho, resolve, hv]
    rfl
  rw [e2, e]
  simp
section
variable {T : Tab} {E : Emb} {N : Nat} {env : Tr CV} {a : Act} {s s' : HS} {w : World} {o : Oper} {K : Act → World → Prop} {Q : Exit → Act → World → Prop} {c : CV}
theorem upon_pure {r : Option CV} (h : pureR r s = some (c, s')) (W : WR E s.h s.nx w) {S : Sem Value} (hS : ∀ c, r = some c → ∃ v, S.run P w = .ok v w ∧ VR E c v) (he : execOp a.eval o = do pure (.value (← S)))
    (k : ∀ E' w' u, EStep E s.h s.nx w E' s'.h s'.nx w' → VR E' c u → K (a.put o.dst u) w') : o.wp P a w K Q := by
  obtain ⟨h1, h2⟩ := pureR_eq h
  subst h2
  obtain ⟨v, v1, v2⟩ := hS c h1
  unfold Oper.wp
  rw [he, Sem.run_bind, v1]
  exact k E w v (EStep.refl W) v2
theorem upon_fresh {r : Option (List CV × Fresh)} {ty : Nat} (h : freshR T ty r s = some (c, s')) (G : GlE T E) (W : WR E s.h s.nx w) {S : Sem Value} (hS : ∀ cs f, r = some (cs, f) → FreshOk P E w S ty cs f) (he : execOp a.eval o = do pure (.value (← S)))
    (k : ∀ E' w' u, EStep E s.h s.nx w E' s'.h s'.nx w' → VR E' c u → K (a.put o.dst u) w') : o.wp P a w K Q := by
  unfold freshR at h
  split at h
  · rename_i cs f hb
    rw [forceNat_eq] at h
    simp only [Option.some.injEq, Prod.mk.injEq] at h
    obtain ⟨rfl, rfl⟩ := h
    have hb := Nat.le_of_ble_eq_true hb
    have hge := noOf_ge s.nx (tagOf T ty)
    have hlt := noOf_lt s.nx (tagOf T ty)
    obtain ⟨v, w', E', v1, v2, v3, _⟩ := (hS cs f rfl).step W (g := noOf s.nx (tagOf T ty)) (nx' := noOf s.nx (tagOf T ty) + 1) (fun a => by have := (W.lt _ a).1; omega) hge (Nat.lt_succ_self _) (by omega) (fun h => by rw [noOf_mod _ _ tagOf_ok.1] at h ⊢; rw [G.2.1]; exact tagOf_ok.2 h)
    unfold Oper.wp
    rw [he, Sem.run_bind, v1]
    exact k E' w' v v2 v3
  · cases h
theorem cOp_ok (hT : TabOk P T) {n0 : Nat} {F : CallF} (hF : CallOk P T n0 F) (G : GlE T E) (hn : E.n0 = n0) (A : AR E N env a) (W : WR E s.h s.nx w) (h : cOp P T n0 F env s o.op = some (c, s'))
    (k : ∀ E' w' u, EStep E s.h s.nx w E' s'.h s'.nx w' → VR E' c u → K (a.put o.dst u) w') : o.wp P a w K Q := by
  subst hn
  unfold cOp at h
  split at h
  · rename_i x ho
    exact upon_pure h W (S := pure (a.eval x)) (fun c hc => ⟨_, rfl, ev_ok G A hc⟩) (by simp [execOp, ho]) k
  · rename_i x ho
    exact upon_pure h W (S := pure (a.eval x)) (fun c hc => ⟨_, rfl, ev_ok G A hc⟩) (by simp [execOp, ho]) k
  · rename_i b x y ho
    split at h
    · rename_i hb
      have hb := ev_ok G A hb
      generalize hv : a.eval b = v at hb
      cases hb
      exact upon_pure h W (S := pure (a.eval x)) (fun c hc => ⟨_, rfl, ev_ok G A hc⟩) (by simp [execOp, ho, hv, asBool]) k
    · rename_i hb
      have hb := ev_ok G A hb
      generalize hv : a.eval b = v at hb
      cases hb
      exact upon_pure h W (S := pure (a.eval y)) (fun c hc => ⟨_, rfl, ev_ok G A hc⟩) (by simp [execOp, ho, hv, asBool]) k
    · cases h
  · rename_i e ho
    exact upon_fresh h G W (fun cs f hc => cAlloc_ok hT hc w) (by simp only [execOp, ho]) k
  · rename_i e x ho
    split at h
    · rename_i c' hx
      exact upon_fresh h G W (fun cs f hc => cBox_ok (e := e) hc (ev_ok G A hx) w) (by simp only [execOp, ho]) k
    · cases h
  · rename_i t ps ho
    split at h
    · rename_i cs hx
      refine upon_pure h W (S := Instr.build t ((⟨ps⟩ : Array (Nat × Operand)).map fun (i, x) => (i, a.eval x))) (fun c hc => cBuild_ok hT hc ?_ w) (by simp only [execOp, ho]) k
      have := evp_ok G A hx
      simpa using this
    · cases h
  · rename_i t n ps ho
    split at h
    · rename_i cs hx
      refine upon_fresh h G W (S := Instr.buildSlice t n ((⟨ps⟩ : Array (Nat × Operand)).map fun (i, x) => (i, a.eval x))) (fun cs' f hc => cBuildSlice_ok hT hc ?_ w) (by simp only [execOp, ho]) k
      have := evp_ok G A hx
      simpa using this
    · cases h
  · rename_i t l b ho
    split at h
    · rename_i c1 c2 h1 h2
      exact upon_fresh h G W (fun cs f hc => cMakeSlice_ok hT hc (ev_ok G A h1) (ev_ok G A h2) w) (by simp only [execOp, ho]) k
    · cases h
  · rename_i t x ho
    split at h
    · rename_i c1 h1
      exact upon_pure h W (fun c hc => cLoad_ok hT W hc (ev_ok G A h1)) (by simp only [execOp, ho]) k
    · cases h
  · rename_i t p x ho
    split at h
    · rename_i c1 c2 h1 h2
      split at h
      · rename_i h' hst
        simp only [Option.some.injEq, Prod.mk.injEq] at h
        obtain ⟨rfl, rfl⟩ := h
        obtain ⟨w', e1, e2⟩ := cStore_ok hT W hst (ev_ok G A h1) (ev_ok G A h2)
        unfold Oper.wp
        simp only [execOp, ho, Sem.run_bind, e1, Result.andThen_ok, Sem.run_pure]
        exact k E w' undef e2 .undef
      · cases h
    · cases h
  · rename_i x ho
    split at h
    · rename_i c1 h1
      have hx := ev_ok G A h1
      refine upon_pure h W (S := pure (a.eval x)) (fun c hc => ⟨_, rfl, ?_⟩) ?_ k
      · cases c1 <;> simp only [cNil, Option.some.injEq, reduceCtorEq] at hc <;> subst hc <;> exact hx
      · obtain ⟨hc, _⟩ := pureR_eq h
        simp only [execOp, ho]
        generalize a.eval x = u at hx
        cases hx <;> simp only [cNil, Option.some.injEq, reduceCtorEq] at hc <;> rfl
    · cases h
  · rename_i op t x y t2 ho
    split at h
    · rename_i c1 c2 h1 h2
      exact upon_pure h W (S := do eqGuard op t x y (a.eval x) (a.eval y); binOp op t (a.eval x) (a.eval y)) (fun c hc => cBin_ok hT G.2.2 hc (ev_ok G A h1) (ev_ok G A h2) w) (by simp only [execOp, ho]) k
    · cases h
  · rename_i op t x ho
    split at h
    · rename_i c1 h1
      exact upon_pure h W (fun c hc => cUn_ok hc (ev_ok G A h1) w) (by simp only [execOp, ho]) k
    · cases h
  · rename_i t1 t2 x ho
    split at h
    · rename_i c1 h1
      split at h
      · rename_i hab
        have hab := Nat.eq_of_beq_eq_true hab
        subst hab
        split at h
        · rename_i r hs
          simp only [Option.some.injEq, Prod.mk.injEq] at h
          obtain ⟨rfl, rfl⟩ := h
          obtain ⟨w', e1, e2, e3⟩ := cSelf_ok hT W hs (ev_ok G A h1)
          unfold Oper.wp
          simp only [execOp, ho, Sem.run_bind, e1, Result.andThen_ok, Sem.run_pure]
          exact k E w' _ e2 e3
        · exact upon_pure h W (fun c hc => cConv_ok hT W hc (ev_ok G A h1)) (by simp only [execOp, ho]) k
      · split at h
        · rename_i r hs
          exact upon_pure h W (S := convert t1 t2 (a.eval x)) (fun c hc => by
            injection hc with hc
            subst hc
            exact cConvP_ok hT G W hs (ev_ok G A h1)) (by simp only [execOp, ho]) k
        · exact upon_pure h W (fun c hc => cConv_ok hT W hc (ev_ok G A h1)) (by simp only [execOp, ho]) k
    · cases h
  · rename_i t x lo hi ho
    split at h
    · rename_i c1 l m h1 h2 h3
      exact upon_pure h W (S := Instr.sliceAt t (a.eval x) (lo.map a.eval) (hi.map a.eval) none) (fun c hc => cSlice_ok hT W hc (ev_ok G A h1) (evo_ok G A h2) (evo_ok G A h3)) (by simp only [execOp, ho, Option.map_none]) k
    · cases h
  · rename_i t x f ho
    split at h
    · rename_i c1 h1
      exact upon_pure h W (fun c hc => cFieldAddr_ok hT hc (ev_ok G A h1) w) (by simp only [execOp, ho]) k
    · cases h
  · rename_i t x f ho
    split at h
    · rename_i c1 h1
      exact upon_pure h W (fun c hc => cField_ok hT hc (ev_ok G A h1) w) (by simp only [execOp, ho]) k
    · cases h
  · rename_i t x i ho
    split at h
    · rename_i c1 c2 h1 h2
      exact upon_pure h W (fun c hc => cIndexAddr_ok hT hc (ev_ok G A h1) (ev_ok G A h2) w) (by simp only [execOp, ho]) k
    · cases h
  · rename_i t x i ho
    split at h
    · rename_i c1 c2 h1 h2
      exact upon_pure h W (fun c hc => cIndex_ok hT hc (ev_ok G A h1) (ev_ok G A h2) w) (by simp only [execOp, ho]) k
    · cases h
  · rename_i x i ho
    split at h
    · rename_i c1 h1
      exact upon_pure h W (fun c hc => cExtract_ok hc (ev_ok G A h1) w) (by simp only [execOp, ho]) k
    · cases h
  · rename_i f fs cs ho
    split at h
    · rename_i us vs h1 h2
      refine upon_pure h W (S := Instr.makeFunc (.func f) ((⟨fs⟩ : Array Operand).map a.eval) ((⟨cs⟩ : Array Operand).map a.eval)) (fun c hc => ?_) (by simp only [execOp, ho]) k
      injection hc with hc
      subst hc
      have e1 : (⟨fs⟩ : Array Operand).map a.eval = (fs.map a.eval).toArray := List.map_toArray
      have e2 : (⟨cs⟩ : Array Operand).map a.eval = (cs.map a.eval).toArray := List.map_toArray
      rw [e1, e2]
      exact ⟨_, rfl, .clo f us vs _ _ (evs_ok G A h1) (evs_ok G A h2)⟩
    · cases h
  · rename_i t x i b ho
    split at h
    · rename_i c1 c2 h1 h2
      exact upon_pure h W (fun c hc => cLookup_ok hT G.2.2 W hc (ev_ok G A h1) (ev_ok G A h2)) (by simp only [execOp, ho]) k
    · cases h
  · rename_i t ho
    split at h
    · rename_i hb
      simp only [Option.some.injEq, Prod.mk.injEq] at h
      obtain ⟨rfl, rfl⟩ := h
      have hb := Nat.lt_of_succ_le (Nat.le_of_ble_eq_true hb)
      have hon : ¬ E.on s.nx := fun a => Nat.lt_irrefl _ (W.lt _ a).1
      have hst := EStep.newMap W hon (Nat.le_refl _) (Nat.lt_succ_self _) hb
      have hrun : (Instr.makeMap t none).run P w = .ok (.map (some w.heap.size)) (w.alloc (.map #[] 0)) := rfl
      unfold Oper.wp
      simp only [execOp, ho, Option.map_none, Sem.run_bind, hrun, Result.andThen_ok, Sem.run_pure]
      refine k _ _ _ hst ?_
      have := VR.map (E := E.ext s.nx w.heap.size 0 0) s.nx (.inl rfl)
      simpa [Emb.ext] using this
    · cases h
  · rename_i t m kk x ho
    split at h
    · rename_i c1 c2 c3 h1 h2 h3
      split at h
      · rename_i h' hst
        simp only [Option.some.injEq, Prod.mk.injEq] at h
        obtain ⟨rfl, rfl⟩ := h
        obtain ⟨w', e1, e2⟩ := cUpdate_ok hT W hst (ev_ok G A h1) (ev_ok G A h2) (ev_ok G A h3)
        unfold Oper.wp
        simp only [execOp, ho, Sem.run_bind, e1, Result.andThen_ok, Sem.run_pure]
        exact k E w' undef e2 .undef
      · cases h
    · cases h
  · rename_i t m kk x ho
    split at h
    · rename_i c1 c2 c3 h1 h2 h3
      split at h
      · rename_i h' hst
        simp only [Option.some.injEq, Prod.mk.injEq] at h
        obtain ⟨rfl, rfl⟩ := h
        obtain ⟨w', e1, e2⟩ := cUpdate_ok hT W hst (ev_ok G A h1) (ev_ok G A h2) (ev_ok G A h3)
        unfold Oper.wp
        simp only [execOp, ho, Sem.run_bind, e1, Result.andThen_ok, Sem.run_pure]
        exact k E w' undef e2 .undef
      · cases h
    · cases h
  · rename_i cc ho
    unfold cCall at h
    split at h
    · rename_i b xs ts
      split at h
      · rename_i x t hx
        obtain ⟨cs, hb⟩ := exec_builtin ho a.eval
        obtain ⟨h1, h2⟩ := pureR_eq h
        subst h2
        have hx := evs_ok G A hx
        generalize hxs : xs.map a.eval = us at hx hb
        cases hx with
        | cons hx hr =>
        cases hr
        obtain ⟨z, z1, z2⟩ := cLenM_ok hT G.2.2 W h1 hx o.type cs
        unfold Oper.wp
        rw [hb, z1]
        exact k E w z (EStep.refl W) z2
      · rename_i d x t tx hx
        obtain ⟨cs, hb⟩ := exec_builtin ho a.eval
        split at h
        · rename_i r h' nx' hap
          simp only [Option.some.injEq, Prod.mk.injEq] at h
          obtain ⟨rfl, rfl⟩ := h
          have hx := evs_ok G A hx
          generalize hxs : xs.map a.eval = us at hx hb
          cases hx with
          | cons hd hr =>
          cases hr with
          | cons hx hr =>
          cases hr
          obtain ⟨q, w', E', q1, q2, q3⟩ := cAppend_ok hT G W hap hd hx o.type
          unfold Oper.wp
          rw [hb]
          have e : ∀ u v, (builtin .append #[t, tx] o.type cs #[u, v]) = (do pure (.value (← Builtin.append_ #[t, tx] o.type #[u, v]))) := fun _ _ => rfl
          show Oper.upon P o a K Q ((builtin .append #[t, tx] o.type cs #[_, _]).run P w)
          rw [e, Sem.run_bind, q1]
          exact k E' w' q q2 q3
        · cases h
      · rename_i kk x kk' y hx
        obtain ⟨cs, hb⟩ := exec_builtin ho a.eval
        obtain ⟨h1, h2⟩ := pureR_eq h
        subst h2
        injection h1 with h1
        subst h1
        have hx := evs_ok G A hx
        generalize hxs : xs.map a.eval = us at hx hb
        cases hx with
        | cons hd hr =>
        cases hr with
        | cons hx hr =>
        cases hr
        cases hd
        cases hx
        unfold Oper.wp
        rw [hb]
        exact k E w _ (EStep.refl W) (.int _ _)
      · rename_i kk x kk' y hx
        obtain ⟨cs, hb⟩ := exec_builtin ho a.eval
        obtain ⟨h1, h2⟩ := pureR_eq h
        subst h2
        injection h1 with h1
        subst h1
        have hx := evs_ok G A hx
        generalize hxs : xs.map a.eval = us at hx hb
        cases hx with
        | cons hd hr =>
        cases hr with
        | cons hx hr =>
        cases hr
        cases hd
        cases hx
        unfold Oper.wp
        rw [hb]
        exact k E w _ (EStep.refl W) (.int _ _)
      · rename_i l _ hx
        obtain ⟨cs, hb⟩ := exec_builtin ho a.eval
        obtain ⟨h1, h2⟩ := pureR_eq h
        subst h2
        have hx := evs_ok G A hx
        obtain ⟨us, z, a1, a2, a3⟩ := hT.sym.sl _ _ _ _ h1
        rw [← G.2.2] at a1 a2
        rw [svs_eq hx a1] at hb
        unfold Oper.wp
        rw [hb, a3]
        exact k E w z (EStep.refl W) (sv_vr a2)
      · rename_i g off nn kk hx
        obtain ⟨cs, hb⟩ := exec_builtin ho a.eval
        split at h
        · rename_i ds hg
          split at h
          · rename_i q1 q2
            obtain ⟨h1, h2⟩ := pureR_eq h
            subst h2
            injection h1 with h1
            subst h1
            have q1 := Nat.le_of_ble_eq_true q1
            have q2 := Nat.le_of_ble_eq_true q2
            have hx := evs_ok G A hx
            generalize hxs : xs.map a.eval = us at hx hb
            cases hx with
            | cons hx hr =>
            cases hr
            cases hx with
            | sl _ _ _ _ hon =>
            obtain ⟨c, T0, fz, m1, m2, m3, m4, m5⟩ := W.bk g ds hon hg
            have hc : (E.cap g - off) / kk ≠ 0 := by
              have : 1 ≤ (E.cap g - off) / kk := (Nat.le_div_iff_mul_le (by omega)).2 (by omega)
              omega
            unfold Oper.wp
            rw [hb]
            have e : ∀ u ts ty cs, (builtin .unsafeSliceData ts ty cs #[u]) = (do pure (.value (← Builtin.unsafeSliceData_ ts ty #[u]))) := fun _ _ _ _ => rfl
            show Oper.upon P o a K Q ((builtin .unsafeSliceData _ o.type cs #[_]).run P w)
            rw [e, Sem.run_bind, Go.Lib.run_unsafeSliceData_row w _ _ _ _ _ hc]
            exact k E w _ (EStep.refl W) (.ptr g off hon)
          · cases h
        · cases h
      · rename_i g off nn pt it hx
        obtain ⟨cs, hb⟩ := exec_builtin ho a.eval
        split at h
        · rename_i r h' hst
          simp only [Option.some.injEq, Prod.mk.injEq] at h
          obtain ⟨rfl, rfl⟩ := h
          have hx := evs_ok G A hx
          generalize hxs : xs.map a.eval = us at hx hb
          cases hx with
          | cons hd hr =>
          cases hr with
          | cons hx hr =>
          cases hr
          cases hx
          obtain ⟨z, w', q1, q2, q3⟩ := cStr_ok (it := it) hT G W hst hd o.type
          unfold Oper.wp
          rw [hb]
          have e : ∀ u v, (builtin .unsafeString #[pt, it] o.type cs #[u, v]) = (do pure (.value (← Builtin.unsafeString_ #[pt, it] o.type #[u, v]))) := fun _ _ => rfl
          show Oper.upon P o a K Q ((builtin .unsafeString #[pt, it] o.type cs #[_, _]).run P w)
          rw [e, Sem.run_bind, show (Int.ofNat nn) = (nn : Int) from rfl, q1]
          exact k E w' z q2 q3
        · cases h
      · rename_i m kk t tk hx
        obtain ⟨cs, hb⟩ := exec_builtin ho a.eval
        split at h
        · rename_i h' hst
          simp only [Option.some.injEq, Prod.mk.injEq] at h
          obtain ⟨rfl, rfl⟩ := h
          have hx := evs_ok G A hx
          generalize hxs : xs.map a.eval = us at hx hb
          cases hx with
          | cons hd hr =>
          cases hr with
          | cons hx hr =>
          cases hr
          obtain ⟨w', q1, q2⟩ := cDelete_ok hT W hst hd hx o.type tk
          unfold Oper.wp
          rw [hb]
          have e : ∀ u v, (builtin .delete #[t, tk] o.type cs #[u, v]) = (do pure (.value (← Builtin.delete_ #[t, tk] o.type #[u, v]))) := fun _ _ => rfl
          show Oper.upon P o a K Q ((builtin .delete #[t, tk] o.type cs #[_, _]).run P w)
          rw [e, Sem.run_bind, q1]
          exact k E w' _ q2 (.tup [] [] .nil)
        · cases h
      · cases h
    · rename_i f xs ats
      split at h
      · rename_i kf cs h1 h2
        have hf := ev_ok G A h1
        have hx := evs_ok G A h2
        generalize hv : a.eval f = v at hf
        cases hf
        have e3 := exec_func ho a.eval hv
        unfold Oper.wp
        rcases hF kf cs s c s' h E w _ G rfl hx W (fun e w'' => match e with
          | .returned v => K (a.put o.dst v) w''
          | .panicked chain => Q (.panic chain) a w''
          | .outgrown => LetsOut Q) (fun E' w' v st hr => k E' w' v st hr) with ⟨e1, e2⟩ | ⟨v', w', e1, e2⟩
        · rw [e3, e1, Oper.upon_enter]
          exact e2.mono (fun e w'' he => by cases e <;> exact he)
        · rw [e3, e1]
          exact e2
      · rename_i kf fs ds cs h1 h2
        have hf := ev_ok G A h1
        have hx := evs_ok G A h2
        generalize hv : a.eval f = v at hf
        cases hf with
        | clo _ _ _ us vs hu1 hu2 =>
        have e3 := exec_clo ho a.eval hv
        unfold Oper.wp
        rcases hF kf (fs ++ cs ++ ds) s c s' h E w _ G rfl ((hu1.app hx).app hu2) W (fun e w'' => match e with
          | .returned v => K (a.put o.dst v) w''
          | .panicked chain => Q (.panic chain) a w''
          | .outgrown => LetsOut Q) (fun E' w' v st hr => k E' w' v st hr) with ⟨e1, e2⟩ | ⟨v', w', e1, e2⟩
        · rw [e3, e1, Oper.upon_enter]
          exact e2.mono (fun e w'' he => by cases e <;> exact he)
        · rw [e3, e1]
          exact e2
      · cases h
    · cases h
  · cases h
end
end
end Go.Proofs.YthdbddolkfibkaaGreatDoor
