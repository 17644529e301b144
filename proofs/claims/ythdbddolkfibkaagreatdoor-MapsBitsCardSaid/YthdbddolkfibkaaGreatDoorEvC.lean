
/- A reckoner for whole calls on known inputs, part 12: regions whose order the tape draws. -/
import Derived.Test.YthdbddolkfibkaaGreatDoorEvB
import Derived.OrdersHeld
set_option linter.unusedSimpArgs false
set_option linter.unusedVariables false
namespace Go.Proofs.YthdbddolkfibkaaGreatDoor
open Go.RowKit
mutual
def CV.same : CV → CV → Bool
  | .int k n, .int k' n' => decide (k = k') && decide (n = n')
  | .bool b, .bool b' => b == b'
  | .str s, .str s' => decide (s = s')
  | .ptr g o, .ptr g' o' => Nat.beq g g' && Nat.beq o o'
  | .nilp, .nilp => true
  | .sl g o n k, .sl g' o' n' k' => Nat.beq g g' && Nat.beq o o' && Nat.beq n n' && Nat.beq k k'
  | .nils, .nils => true
  | .sle g o, .sle g' o' => Nat.beq g g' && Nat.beq o o'
  | .map g, .map g' => Nat.beq g g'
  | .mapnil, .mapnil => true
  | .nili, .nili => true
  | .agg cs, .agg cs' => CV.sames cs cs'
  | .tup cs, .tup cs' => CV.sames cs cs'
  | .fn f, .fn f' => Nat.beq f f'
  | .clo f fs cs, .clo f' fs' cs' => Nat.beq f f' && (CV.sames fs fs' && CV.sames cs cs')
  | .nilf, .nilf => true
  | .undef, .undef => true
  | .sym i, .sym i' => Nat.beq i i'
  | _, _ => false
def CV.sames : List CV → List CV → Bool
  | [], [] => true
  | c :: cs, d :: ds => CV.same c d && CV.sames cs ds
  | _, _ => false
end
mutual
theorem CV.same_eq : ∀ {c d : CV}, CV.same c d = true → c = d
  | .int .., d, h => by cases d <;> simp [CV.same] at h; obtain ⟨rfl, rfl⟩ := h; rfl
  | .bool _, d, h => by cases d <;> simp [CV.same] at h; subst h; rfl
  | .str _, d, h => by cases d <;> simp [CV.same] at h; subst h; rfl
  | .ptr .., d, h => by cases d <;> simp [CV.same, Nat.beq_eq] at h; obtain ⟨rfl, rfl⟩ := h; rfl
  | .nilp, d, h => by cases d <;> simp [CV.same] at h; rfl
  | .sl .., d, h => by cases d <;> simp [CV.same, Nat.beq_eq] at h; obtain ⟨⟨⟨rfl, rfl⟩, rfl⟩, rfl⟩ := h; rfl
  | .nils, d, h => by cases d <;> simp [CV.same] at h; rfl
  | .sle .., d, h => by cases d <;> simp [CV.same, Nat.beq_eq] at h; obtain ⟨rfl, rfl⟩ := h; rfl
  | .map _, d, h => by cases d <;> simp [CV.same, Nat.beq_eq] at h; subst h; rfl
  | .mapnil, d, h => by cases d <;> simp [CV.same] at h; rfl
  | .nili, d, h => by cases d <;> simp [CV.same] at h; rfl
  | .mobj _, d, h => by cases d <;> simp [CV.same] at h
  | .ment .., d, h => by cases d <;> simp [CV.same] at h
  | .dfr _, d, h => by cases d <;> simp [CV.same] at h
  | .agg cs, d, h => by
    cases d <;> simp only [CV.same, Bool.false_eq_true] at h
    rw [CV.sames_eq h]
  | .tup cs, d, h => by
    cases d <;> simp only [CV.same, Bool.false_eq_true] at h
    rw [CV.sames_eq h]
  | .fn _, d, h => by cases d <;> simp [CV.same, Nat.beq_eq] at h; subst h; rfl
  | .clo f fs cs, d, h => by
    cases d <;> simp only [CV.same, Bool.false_eq_true, Bool.and_eq_true, Nat.beq_eq] at h
    rw [h.1, CV.sames_eq h.2.1, CV.sames_eq h.2.2]
  | .nilf, d, h => by cases d <;> simp [CV.same] at h; rfl
  | .undef, d, h => by cases d <;> simp [CV.same] at h; rfl
  | .sym _, d, h => by cases d <;> simp [CV.same, Nat.beq_eq] at h; subst h; rfl
theorem CV.sames_eq : ∀ {cs ds : List CV}, CV.sames cs ds = true → cs = ds
  | [], ds, h => by cases ds <;> simp [CV.sames] at h; rfl
  | c :: cs, ds, h => by
    cases ds with
    | nil => simp [CV.sames] at h
    | cons d ds =>
      simp only [CV.sames, Bool.and_eq_true] at h
      rw [CV.same_eq h.1, CV.sames_eq h.2]
end
mutual
theorem VR.fun {E : Emb} : ∀ {c : CV} {u : Value}, VR E c u → ∀ {v : Value}, VR E c v → u = v
  | _, _, .int _ _, _, h => by cases h; rfl
  | _, _, .bool _, _, h => by cases h; rfl
  | _, _, .str _, _, h => by cases h; rfl
  | _, _, .ptr _ _ _, _, h => by cases h; rfl
  | _, _, .nilp, _, h => by cases h; rfl
  | _, _, .sl _ _ _ _ _, _, h => by cases h; rfl
  | _, _, .nils, _, h => by cases h; rfl
  | _, _, .sle _ _ _, _, h => by cases h; rfl
  | _, _, .map _ _, _, h => by cases h; rfl
  | _, _, .mapnil, _, h => by cases h; rfl
  | _, _, .nili, _, h => by cases h; rfl
  | _, _, .agg _ us hs, _, h => by
    cases h with
    | agg _ vs hv => rw [VRs.fun hs hv]
  | _, _, .tup _ us hs, _, h => by
    cases h with
    | tup _ vs hv => rw [VRs.fun hs hv]
  | _, _, .fn _, _, h => by cases h; rfl
  | _, _, .clo _ _ _ us vs h1 h2, _, h => by
    cases h with
    | clo _ _ _ us' vs' h3 h4 => rw [VRs.fun h1 h3, VRs.fun h2 h4]
  | _, _, .nilf, _, h => by cases h; rfl
  | _, _, .undef, _, h => by cases h; rfl
  | _, _, .sym _, _, h => by cases h; rfl
theorem VRs.fun {E : Emb} : ∀ {cs : List CV} {us : List Value}, VRs E cs us → ∀ {vs : List Value}, VRs E cs vs → us = vs
  | _, _, .nil, _, h => by cases h; rfl
  | _, _, .cons a b, _, h => by
    cases h with
    | cons a' b' => rw [VR.fun a a', VRs.fun b b']
end
/-- Operations that only read. -/
def pureOp : Op → Bool
  | .move _ => true
  | .assign _ => true
  | .pick .. => true
  | .build .. => true
  | .load .. => true
  | .nilCheck _ => true
  | .binOp .. => true
  | .unOp .. => true
  | .convert a b _ => !Nat.beq a b
  | .slice .. => true
  | .fieldAddr .. => true
  | .field .. => true
  | .indexAddr .. => true
  | .index .. => true
  | .extract .. => true
  | .makeFunc .. => true
  | .lookup .. => true
  | .call { callee := .builtin .len, .. } => true
  | _ => false
section
variable {P : Program} {T : Tab} {E : Emb} {N : Nat} {env : Tr CV} {a : Act} {s s' : HS} {w : World} {o : Oper} {c : CV}
/-- What a reading operation does. -/
def PureRun (P : Program) (E : Emb) (a : Act) (o : Oper) (s s' : HS) (c : CV) (w : World) : Prop := s' = s ∧ ∃ v, (execOp a.eval o).run P w = .ok (.value v) w ∧ VR E c v
theorem run_pureR {r : Option CV} (h : pureR r s = some (c, s')) {S : Sem Value} (hS : ∀ c, r = some c → ∃ v, S.run P w = .ok v w ∧ VR E c v) (he : execOp a.eval o = do pure (.value (← S))) : PureRun P E a o s s' c w := by
  obtain ⟨h1, h2⟩ := pureR_eq h
  obtain ⟨v, v1, v2⟩ := hS c h1
  exact ⟨h2, v, by rw [he, Sem.run_bind, v1]; rfl, v2⟩
theorem cOp_run (hT : TabOk P T) {n0 : Nat} {F : CallF} (G : GlE T E) (hn : E.n0 = n0) (A : AR E N env a) (W : WR E s.h s.nx w) (h : cOp P T n0 F env s o.op = some (c, s')) (hp : pureOp o.op = true) : PureRun P E a o s s' c w := by
  subst hn
  unfold cOp at h
  split at h
  · rename_i x ho
    exact run_pureR h (S := pure (a.eval x)) (fun c hc => ⟨_, rfl, ev_ok G A hc⟩) (by simp [execOp, ho])
  · rename_i x ho
    exact run_pureR h (S := pure (a.eval x)) (fun c hc => ⟨_, rfl, ev_ok G A hc⟩) (by simp [execOp, ho])
  · rename_i b x y ho
    split at h
    · rename_i hb
      have hb := ev_ok G A hb
      generalize hv : a.eval b = v at hb
      cases hb
      exact run_pureR h (S := pure (a.eval x)) (fun c hc => ⟨_, rfl, ev_ok G A hc⟩) (by simp [execOp, ho, hv, asBool])
    · rename_i hb
      have hb := ev_ok G A hb
      generalize hv : a.eval b = v at hb
      cases hb
      exact run_pureR h (S := pure (a.eval y)) (fun c hc => ⟨_, rfl, ev_ok G A hc⟩) (by simp [execOp, ho, hv, asBool])
    · cases h
  · rename_i e ho
    rw [ho] at hp
    cases hp
  · rename_i e x ho
    rw [ho] at hp
    cases hp
  · rename_i t ps ho
    split at h
    · rename_i cs hx
      refine run_pureR h (S := Instr.build t ((⟨ps⟩ : Array (Nat × Operand)).map fun (i, x) => (i, a.eval x))) (fun c hc => cBuild_ok hT hc ?_ w) (by simp only [execOp, ho])
      have := evp_ok G A hx
      simpa using this
    · cases h
  · rename_i t n ps ho
    rw [ho] at hp
    cases hp
  · rename_i t l b ho
    rw [ho] at hp
    cases hp
  · rename_i t x ho
    split at h
    · rename_i c1 h1
      exact run_pureR h (fun c hc => cLoad_ok hT W hc (ev_ok G A h1)) (by simp only [execOp, ho])
    · cases h
  · rename_i t p x ho
    rw [ho] at hp
    cases hp
  · rename_i x ho
    split at h
    · rename_i c1 h1
      have hx := ev_ok G A h1
      refine run_pureR h (S := pure (a.eval x)) (fun c hc => ⟨_, rfl, ?_⟩) ?_
      · cases c1 <;> simp only [cNil, Option.some.injEq, reduceCtorEq] at hc <;> subst hc <;> exact hx
      · obtain ⟨hc, _⟩ := pureR_eq h
        simp only [execOp, ho]
        generalize a.eval x = u at hx
        cases hx <;> simp only [cNil, Option.some.injEq, reduceCtorEq] at hc <;> rfl
    · cases h
  · rename_i op t x y t2 ho
    split at h
    · rename_i c1 c2 h1 h2
      exact run_pureR h (S := do eqGuard op t x y (a.eval x) (a.eval y); binOp op t (a.eval x) (a.eval y)) (fun c hc => cBin_ok hT G.2.2 hc (ev_ok G A h1) (ev_ok G A h2) w) (by simp only [execOp, ho])
    · cases h
  · rename_i op t x ho
    split at h
    · rename_i c1 h1
      exact run_pureR h (fun c hc => cUn_ok hc (ev_ok G A h1) w) (by simp only [execOp, ho])
    · cases h
  · rename_i t1 t2 x ho
    split at h
    · rename_i c1 h1
      split at h
      · rename_i hab
        rw [ho] at hp
        simp only [pureOp, hab] at hp
        cases hp
      · split at h
        · rename_i r hs
          exact run_pureR h (S := convert t1 t2 (a.eval x)) (fun c hc => by
            injection hc with hc
            subst hc
            exact cConvP_ok hT G W hs (ev_ok G A h1)) (by simp only [execOp, ho])
        · exact run_pureR h (fun c hc => cConv_ok hT W hc (ev_ok G A h1)) (by simp only [execOp, ho])
    · cases h
  · rename_i t x lo hi ho
    split at h
    · rename_i c1 l m h1 h2 h3
      exact run_pureR h (S := Instr.sliceAt t (a.eval x) (lo.map a.eval) (hi.map a.eval) none) (fun c hc => cSlice_ok hT W hc (ev_ok G A h1) (evo_ok G A h2) (evo_ok G A h3)) (by simp only [execOp, ho, Option.map_none])
    · cases h
  · rename_i t x f ho
    split at h
    · rename_i c1 h1
      exact run_pureR h (fun c hc => cFieldAddr_ok hT hc (ev_ok G A h1) w) (by simp only [execOp, ho])
    · cases h
  · rename_i t x f ho
    split at h
    · rename_i c1 h1
      exact run_pureR h (fun c hc => cField_ok hT hc (ev_ok G A h1) w) (by simp only [execOp, ho])
    · cases h
  · rename_i t x i ho
    split at h
    · rename_i c1 c2 h1 h2
      exact run_pureR h (fun c hc => cIndexAddr_ok hT hc (ev_ok G A h1) (ev_ok G A h2) w) (by simp only [execOp, ho])
    · cases h
  · rename_i t x i ho
    split at h
    · rename_i c1 c2 h1 h2
      exact run_pureR h (fun c hc => cIndex_ok hT hc (ev_ok G A h1) (ev_ok G A h2) w) (by simp only [execOp, ho])
    · cases h
  · rename_i x i ho
    split at h
    · rename_i c1 h1
      exact run_pureR h (fun c hc => cExtract_ok hc (ev_ok G A h1) w) (by simp only [execOp, ho])
    · cases h
  · rename_i f fs cs ho
    split at h
    · rename_i us vs h1 h2
      refine run_pureR h (S := Instr.makeFunc (.func f) ((⟨fs⟩ : Array Operand).map a.eval) ((⟨cs⟩ : Array Operand).map a.eval)) (fun c hc => ?_) (by simp only [execOp, ho])
      injection hc with hc
      subst hc
      have e1 : (⟨fs⟩ : Array Operand).map a.eval = (fs.map a.eval).toArray := List.map_toArray
      have e2 : (⟨cs⟩ : Array Operand).map a.eval = (cs.map a.eval).toArray := List.map_toArray
      rw [e1, e2]
      exact ⟨_, rfl, .clo f us vs _ _ (evs_ok G A h1) (evs_ok G A h2)⟩
    · cases h
  · rename_i t x i b ho
    split at h
    · rename_i c1 c2 h1 h2
      exact run_pureR h (fun c hc => cLookup_ok hT G.2.2 W hc (ev_ok G A h1) (ev_ok G A h2)) (by simp only [execOp, ho])
    · cases h
  · rename_i t ho
    rw [ho] at hp
    cases hp
  · rename_i t m kk x ho
    rw [ho] at hp
    cases hp
  · rename_i t m kk x ho
    rw [ho] at hp
    cases hp
  · rename_i cc ho
    unfold cCall at h
    split at h
    · rename_i b xs ts
      split at h
      · rename_i x t hx
        obtain ⟨cs, hb⟩ := exec_builtin ho a.eval
        obtain ⟨h1, h2⟩ := pureR_eq h
        subst h2
        have hx := evs_ok G A hx
        generalize hxs : xs.map a.eval = us at hx hb
        cases hx with
        | cons hx hr =>
        cases hr
        obtain ⟨z, z1, z2⟩ := cLenM_ok hT G.2.2 W h1 hx o.type cs
        exact ⟨rfl, z, by rw [hb, z1], z2⟩
      · rename_i d x t tx hx
        rw [ho] at hp
        cases hp
      · rename_i kk x kk' y hx
        rw [ho] at hp
        cases hp
      · rename_i kk x kk' y hx
        rw [ho] at hp
        cases hp
      · rw [ho] at hp
        cases hp
      · rw [ho] at hp
        cases hp
      · rw [ho] at hp
        cases hp
      · rw [ho] at hp
        cases hp
      · cases h
    · rename_i f xs ats
      rw [ho] at hp
      cases hp
    · cases h
  · cases h
end
end Go.Proofs.YthdbddolkfibkaaGreatDoor
