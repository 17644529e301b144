
/- A reckoner for whole calls on known inputs, part 13: regions whose order the tape draws, walked in an order of the reckoner's; new things may be made beside. -/
import Derived.Test.YthdbddolkfibkaaGreatDoorEvK
set_option linter.unusedSimpArgs false
set_option linter.unusedVariables false
namespace Go.Proofs.YthdbddolkfibkaaGreatDoor
open Go.RowKit
section
variable {P : Program}
/-- A new thing that is made beside others. -/
structure NewR where
  u : Nat
  dst : Option Nat
  cs : List CV
  k : NewK
  g : Nat
section
variable (P : Program) (T : Tab) (n0 : Nat) (F : CallF) (N : Nat)
def oneStep (ops : List Oper) (i : Nat) (env : Tr CV) (s : HS) (chk : Chk) : Option (Tr CV × HS × Chk) :=
  match ops[i]? with
  | some o => match cWanted ops env o with
    | some true => match cOp P T n0 F env s o.op with
      | some (c, s') => match dput N env o.dst c with
        | some env' => match pureOp o.op with
          | true => some (env', s', (i, o, env, c) :: chk)
          | false => match chkStep P T n0 F ops s' i chk with
            | some chk' => some (env', s', chk')
            | none => none
        | none => none
      | none => none
    | some false => match dput N env o.dst .undef with
      | some env' => some (env', s, chk)
      | none => none
    | none => none
  | none => none
def runMain (ops : List Oper) : List Nat → Tr CV → HS → Chk → Option (Tr CV × HS × Chk)
  | [], env, s, chk => some (env, s, chk)
  | i :: l, env, s, chk => match oneStep P T n0 F N ops i env s chk with
    | some (env', s', chk') => runMain ops l env' s' chk'
    | none => none
def delDsts (ops : List Oper) : List Nat → Tr CV → Option (Tr CV)
  | [], env => some env
  | u :: us, env => match delDsts ops us env, ops[u]? with
    | some env', some o => match o.dst with
      | some d => match Nat.ble (d + 1) keyMax, Nat.ble (d + 1) N with
        | true, true => some (env'.put none TD d)
        | _, _ => none
      | none => some env'
    | _, _ => none
def forkAll (ops : List Oper) (env : Tr CV) : List Nat → Nat → Option (List NewR)
  | [], _ => some []
  | u :: us, g => match ops[u]? with
    | some o => match cWanted ops env o, cNew T env o.op, forkAll ops env us (g + 4) with
      | some true, some (cs, k), some l => some (⟨u, o.dst, cs, k, g⟩ :: l)
      | _, _, _ => none
    | none => none
def relAll : List NewR → Tr CV → Tr (List CV) → Option (Tr CV × Tr (List CV))
  | [], env, h => some (env, h)
  | r :: rs, env, h => match dput N env r.dst (r.k.cv r.g), Nat.ble (r.g + 1) keyMax with
    | some env', true => relAll rs env' (hput h r.g r.cs)
    | _, _ => none
def segStep (ops : List Oper) (U lm : List Nat) (env : Tr CV) (s : HS) (chk : Chk) : Option (Tr CV × HS × Chk) :=
  match U with
  | [] => runMain P T n0 F N ops lm env s chk
  | _ => match delDsts N ops U env with
    | none => none
    | some envD => match forkAll T ops envD U (noOf s.nx 0) with
      | none => none
      | some news => match chkAll P T n0 F ⟨s.h, noOf s.nx 0 + 4 * news.length⟩ chk, runMain P T n0 F N ops lm envD ⟨s.h, noOf s.nx 0 + 4 * news.length⟩ chk with
        | false, _ => none
        | _, none => none
        | true, some (env1, s1, chk1) => match relAll N news env1 s1.h with
          | none => none
          | some (env2, h2) => match chkAll P T n0 F ⟨h2, s1.nx⟩ chk1 with
            | true => some (env2, ⟨h2, s1.nx⟩, chk1)
            | false => none
def drawGo (ops : List Oper) : List (List Nat × List Nat) → Tr CV → HS → Chk → Option (Tr CV × HS)
  | [], env, s, _ => some (env, s)
  | (U, lm) :: l, env, s, chk => match segStep P T n0 F N ops U lm env s chk with
    | some (env', s', chk') => drawGo ops l env' s' chk'
    | none => none
end
def apartB (ops : List Oper) (u r : Nat) : Bool :=
  match ops[u]?, ops[r]? with
  | some x, some y => x.apart ops.toArray y
  | _, _ => false
def apAll (ops : List Oper) (U : List Nat) (r : Nat) : Bool := U.all fun u => Nat.beq u r || apartB ops u r
def apMain (ops : List Oper) (U : List Nat) (i : Nat) : Bool := U.all fun u => apartB ops u i
def readyIs (ops : List Oper) (L : Array Bool) (rs : List Nat) : Bool :=
  !(Region.ready .any ops.toArray L).isEmpty && (Region.ready .any ops.toArray L).all fun j => rs.any fun r => Nat.beq r j
def dropU (u : Nat) (U : List Nat) : List Nat := U.filter fun x => !Nat.beq x u
/-- All the orders of a stretch, with what is made beside. -/
def segOk (ops : List Oper) (Ua : List Nat) (tgt : Array Bool) : Nat → Array Bool → List Nat → List Nat → Bool
  | 0, L, lm, U => lm.isEmpty && (U.isEmpty && decide (L = tgt))
  | n + 1, L, lm, U => match lm with
    | [] => readyIs ops L U && U.all fun u => apAll ops Ua u && segOk ops Ua tgt n (L.setIfInBounds u true) [] (dropU u U)
    | i :: lm' => match (ops[i]?).map fun o => pureOp o.op with
      | some true => Region.free .any ops.toArray L i && ((Region.ready .any ops.toArray L).contains i && (apMain ops Ua i && segOk ops Ua tgt n (L.setIfInBounds i true) lm' U))
      | some false => readyIs ops L (i :: U) && (apMain ops Ua i && (segOk ops Ua tgt n (L.setIfInBounds i true) lm' U && U.all fun u => apAll ops Ua u && segOk ops Ua tgt n (L.setIfInBounds u true) (i :: lm') (dropU u U)))
      | none => false
def setAll (L : Array Bool) : List Nat → Array Bool
  | [] => L
  | i :: l => setAll (L.setIfInBounds i true) l
def nodupB : List Nat → Bool
  | [] => true
  | u :: us => !(us.any fun x => Nat.beq x u) && nodupB us
def simOk (ops : List Oper) : Array Bool → List (List Nat × List Nat) → Bool
  | L, [] => (Region.ready .any ops.toArray L).isEmpty
  | L, (U, lm) :: l => nodupB U && (segOk ops U (setAll (setAll L lm) U) (lm.length + U.length) L lm U && simOk ops (setAll (setAll L lm) U) l)
/-- The order. -/
def pick1 (ops : List Oper) : List Nat → Option Nat
  | [] => none
  | i :: l => match (ops[i]?).map (fun o => pureOp o.op) with
    | some true => some i
    | _ => pick1 ops l
def newOp : Op → Bool
  | .alloc _ => true
  | .box .. => true
  | .buildSlice .. => true
  | .makeSlice .. => true
  | .makeMap _ none => true
  | _ => false
def pickM (ops : List Oper) : List Nat → Option Nat
  | [] => none
  | i :: l => match (ops[i]?).map (fun o => newOp o.op) with
    | some false => some i
    | _ => pickM ops l
/-- A stretch, while others are made beside. -/
def stretch (ops : List Oper) (U : List Nat) : Nat → Array Bool → List Nat
  | 0, _ => []
  | n + 1, L => match (Region.ready .any ops.toArray L).filter fun i => !(U.any fun u => Nat.beq u i) with
    | [] => []
    | i :: l => match pick1 ops (i :: l) with
      | some j => j :: stretch ops U n (L.setIfInBounds j true)
      | none => match l with
        | [] => i :: stretch ops U n (L.setIfInBounds i true)
        | _ => []
def schedule (ops : List Oper) : Nat → Array Bool → List (List Nat × List Nat)
  | 0, _ => []
  | n + 1, L => match Region.ready .any ops.toArray L with
    | [] => []
    | i :: l => match pick1 ops (i :: l) with
      | some j => ([], [j]) :: schedule ops n (L.setIfInBounds j true)
      | none => match l with
        | [] => ([], [i]) :: schedule ops n (L.setIfInBounds i true)
        | _ => match (pickM ops (i :: l)).getD i with
          | m => match dropU m (i :: l) with
            | U => match m :: stretch ops U ops.length (L.setIfInBounds m true) with
              | lm => (U, lm) :: schedule ops n (setAll (setAll L lm) U)
def segLen : List (List Nat × List Nat) → Nat
  | [] => 0
  | (U, lm) :: l => lm.length + U.length + segLen l
def schedOk (ops : List Oper) : Option (List (List Nat × List Nat)) :=
  match schedule ops ops.length (Array.replicate ops.length false) with
  | l => match Nat.beq (segLen l) ops.length && Region.noSelect ops.toArray && simOk ops (Array.replicate ops.length false) l with
    | true => some l
    | false => none
def drawD (P : Program) (T : Tab) (n0 : Nat) (F : CallF) (N : Nat) : DrawF := fun ops env s => match schedOk ops with
  | some l => drawGo P T n0 F N ops l env s []
  | none => none

/-- What is to come of a new thing. -/
def UF (P : Program) (ops : Array Oper) (r : NewR) (E : Emb) (a : Act) : Prop :=
  ∃ o, ops[r.u]? = some o ∧ o.dst = r.dst ∧ Region.wanted o (yielded ops a.tmps) = true ∧ NewOk P E (execOp a.eval o) r.cs r.k
/-- What has come of it. -/
def PD (sz : Nat) (r : NewR) (b : Nat) (E : Emb) (a : Act) (w : World) : Prop :=
  sz ≤ b ∧ b < w.heap.size ∧ (∃ obj, w.heap[b]? = some obj ∧ ObjR E r.cs r.k obj ∧ ∀ d, r.dst = some d → a.tmps.getD d undef = newVal r.k b obj) ∧ ∀ g, E.on g → E.adr g ≠ b
theorem UF.le {ops : Array Oper} {r : NewR} {E E' : Emb} {a : Act} (h : E.le E') (k : UF P ops r E a) : UF P ops r E' a := by
  obtain ⟨o, a1, a2, a3, a4⟩ := k
  exact ⟨o, a1, a2, a3, a4.le h⟩
theorem UF.put {ops : List Oper} (hsel : Region.noSelect ops.toArray = true) {r : NewR} {E : Emb} {a : Act} {i : Nat} {o : Oper} (ho : ops[i]? = some o) (hap : apartB ops r.u i = true) (v : Value) (k : UF P ops.toArray r E a) : UF P ops.toArray r E (a.put o.dst v) := by
  obtain ⟨x, a1, a2, a3, a4⟩ := k
  have a1' : ops[r.u]? = some x := by simpa using a1
  unfold apartB at hap
  rw [a1', ho] at hap
  obtain ⟨_, _, h3⟩ := Oper.apart_spec hap
  refine ⟨x, a1, a2, by rw [wanted_put x a o.dst v h3]; exact a3, ?_⟩
  rw [execOp_put x (fun cs b => Region.noSelect_spec hsel r.u x cs b a1) a o.dst v h3]
  exact a4
theorem tmps_put {a : Act} {dst : Option Nat} {d : Nat} (h : dst ≠ some d) (v : Value) : (a.put dst v).tmps.getD d undef = a.tmps.getD d undef := by
  cases dst with
  | none => rfl
  | some e =>
    have hne : e ≠ d := fun q => h (by rw [q])
    simp [Act.put, Array.getD_eq_getD_getElem?, Array.getElem?_setIfInBounds_ne hne]
theorem PD.put {sz : Nat} {r : NewR} {b : Nat} {E : Emb} {a : Act} {w : World} {dst : Option Nat} (h : ∀ d, r.dst = some d → dst ≠ some d) (v : Value) (k : PD sz r b E a w) : PD sz r b E (a.put dst v) w := by
  obtain ⟨k1, k2, ⟨obj, o1, o2, o3⟩, k4⟩ := k
  exact ⟨k1, k2, ⟨obj, o1, o2, fun d hd => by rw [tmps_put (h d hd)]; exact o3 d hd⟩, k4⟩
theorem PD.step {sz : Nat} {r : NewR} {b : Nat} {E E' : Emb} {a : Act} {w w' : World} {h h' : Tr (List CV)} {nx nx' : Nat} (S : EStep E h nx w E' h' nx' w') (k : PD sz r b E a w) : PD sz r b E' a w' := by
  obtain ⟨k1, k2, ⟨obj, o1, o2, o3⟩, k4⟩ := k
  refine ⟨k1, Nat.lt_of_lt_of_le k2 S.sz, ⟨obj, ?_, o2.le S.le, o3⟩, fun g hg e => ?_⟩
  · rw [S.fr b k2 fun g hg _ => k4 g hg]; exact o1
  · rcases S.own g hg with ⟨g0, p1, _, p3⟩ | p
    · exact k4 g0 p1 (by rw [← p3]; exact e)
    · omega
theorem AR.skip {E : Emb} {N : Nat} {env : Tr CV} {a : Act} (k : AR E N env a) {dst : Option Nat} (hd : ∀ d, dst = some d → env.get d = none) (v : Value) : AR E N env (a.put dst v) := by
  cases dst with
  | none => exact k
  | some d =>
    refine ⟨by simpa [Act.put] using k.size, k.df, fun t c hc hf => ?_⟩
    have hne : some d ≠ some t := fun e => by
      injection e with e
      rw [← e, hd d rfl] at hc
      cases hc
    rw [tmps_put hne]
    exact k.get t c hc hf
theorem AR.same {E : Emb} {N : Nat} {env : Tr CV} {a : Act} (k : AR E N env a) {d : Nat} (hN : d < N) (hk : d < keyMax) {c : CV} (h : VR E c (a.tmps.getD d undef)) : AR E N (eput env d c) a := by
  refine ⟨k.size, by unfold eput; rw [dfOf_put (Nat.ne_of_lt hN) hk]; exact k.df, fun t x hx hf => ?_⟩
  unfold eput at hx
  rw [Tr.get_put _ TD env d t (by unfold keyMax at hk; omega)] at hx
  by_cases q : t = d
  · rw [if_pos q] at hx
    injection hx with hx
    subst hx q
    exact h
  · rw [if_neg q] at hx
    exact k.get t x hx hf
theorem dput_get {N : Nat} {env env' : Tr CV} {dst : Option Nat} {c : CV} (h : dput N env dst c = some env') {d : Nat} (hne : dst ≠ some d) : env'.get d = env.get d := by
  unfold dput at h
  split at h
  · injection h with h
    rw [h]
  · rename_i t
    split at h
    · rename_i h1 h2
      injection h with h
      subst h
      have h2 := Nat.le_of_ble_eq_true h2
      unfold eput
      rw [Tr.get_put _ TD env t d (by show t < 2 ^ 40 - 1; unfold keyMax at h2; omega), if_neg (fun e => hne (by rw [e]))]
    · cases h
theorem apart_dst {ops : List Oper} {u i : Nat} {x o : Oper} (hx : ops[u]? = some x) (ho : ops[i]? = some o) (hap : apartB ops u i = true) : ∀ d, x.dst = some d → o.dst ≠ some d := by
  unfold apartB at hap
  rw [hx, ho] at hap
  exact (Oper.apart_spec hap).2.1
theorem apAll_ok {ops : List Oper} {U : List Nat} {i u : Nat} (h : apAll ops U i = true) (hu : u ∈ U) (hne : u ≠ i) : apartB ops u i = true := by
  unfold apAll at h
  have := List.all_eq_true.1 h u hu
  simp only [Bool.or_eq_true] at this
  rcases this with q | q
  · exact absurd (Nat.eq_of_beq_eq_true q) hne
  · exact q
theorem apMain_ok {ops : List Oper} {U : List Nat} {i u : Nat} (h : apMain ops U i = true) (hu : u ∈ U) : apartB ops u i = true := List.all_eq_true.1 h u hu
theorem readyIs_ok {ops : List Oper} {L : Array Bool} {rs : List Nat} (h : readyIs ops L rs = true) : Region.ready .any ops.toArray L ≠ [] ∧ ∀ j, j ∈ Region.ready .any ops.toArray L → j ∈ rs := by
  unfold readyIs at h
  simp only [Bool.and_eq_true, Bool.not_eq_true', List.isEmpty_eq_false_iff] at h
  refine ⟨h.1, fun j hj => ?_⟩
  have := List.all_eq_true.1 h.2 j hj
  obtain ⟨r, hr, e⟩ := List.any_eq_true.1 this
  rw [← Nat.eq_of_beq_eq_true e]
  exact hr
theorem mem_dropU {u x : Nat} {U : List Nat} : x ∈ dropU u U ↔ x ∈ U ∧ x ≠ u := by
  unfold dropU
  rw [List.mem_filter]
  refine and_congr_right fun _ => ?_
  rw [Bool.not_eq_true', ← Bool.not_eq_true, Nat.beq_eq]
theorem map_dropU (u : Nat) (Ur : List NewR) : dropU u (Ur.map (·.u)) = (Ur.filter fun r => !Nat.beq r.u u).map (·.u) := by
  unfold dropU
  rw [List.filter_map]
  rfl
theorem ready_set {ops : Array Oper} {L : Array Bool} {j : Nat} (h : j ∈ Region.ready .any ops L) : (L.setIfInBounds j true).getD j false = true := by
  have h0 := (mem_ready.1 h).1
  rcases Nat.lt_or_ge j L.size with h' | h'
  · simp [h']
  · simp [Array.getElem?_eq_none h'] at h0
end
end Go.Proofs.YthdbddolkfibkaaGreatDoor
