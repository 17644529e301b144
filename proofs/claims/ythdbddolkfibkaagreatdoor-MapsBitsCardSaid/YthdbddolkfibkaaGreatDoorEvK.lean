
/- A reckoner for whole calls on known inputs: new blocks that are made while others run; what has been read is read the same still. -/
import Derived.Test.YthdbddolkfibkaaGreatDoorEvJ
set_option linter.unusedSimpArgs false
set_option linter.unusedVariables false
namespace Go.Proofs.YthdbddolkfibkaaGreatDoor
open Go.RowKit
section
variable {P : Program}
/-- What has been read: by which operation, over which temporaries. -/
abbrev Chk := List (Nat × Oper × Tr CV × CV)
/-- The facts that stand for it. -/
inductive ChkR (P : Program) (E : Emb) (N : Nat) (ops : Array Oper) (L : Array Bool) : Chk → Facts → Prop
  | nil : ChkR P E N ops L [] []
  | cons {m : Nat} {o : Oper} {env : Tr CV} {c : CV} {chk : Chk} {fs : Facts} {a : Act} {v : Value} : AR E N env a → VR E c v → ChkR P E N ops L chk fs → ChkR P E N ops L ((m, o, env, c) :: chk) ((m, fun w => (execOp a.eval o).run P w = .ok (.value v) w) :: fs)
  | dead {m : Nat} {f : World → Prop} {chk : Chk} {fs : Facts} : Dead ops L m → ChkR P E N ops L chk fs → ChkR P E N ops L chk ((m, f) :: fs)
  | triv {m : Nat} {chk : Chk} {fs : Facts} : ChkR P E N ops L chk fs → ChkR P E N ops L chk ((m, fun _ => True) :: fs)
theorem ChkR.le {E E' : Emb} (h : E.le E') {N : Nat} {ops : Array Oper} {L : Array Bool} : ∀ {chk : Chk} {fs : Facts}, ChkR P E N ops L chk fs → ChkR P E' N ops L chk fs
  | _, _, .nil => .nil
  | _, _, .cons A V r => .cons (A.le h) (V.le h) (r.le h)
  | _, _, .dead d r => .dead d (r.le h)
  | _, _, .triv r => .triv (r.le h)
theorem ChkR.mono {E : Emb} {N : Nat} {ops : Array Oper} {L : Array Bool} (j : Nat) : ∀ {chk : Chk} {fs : Facts}, ChkR P E N ops L chk fs → ChkR P E N ops (L.setIfInBounds j true) chk fs
  | _, _, .nil => .nil
  | _, _, .cons A V r => .cons A V (r.mono j)
  | _, _, .dead d r => .dead (d.mono j) (r.mono j)
  | _, _, .triv r => .triv (r.mono j)
section
variable (P : Program) (T : Tab) (n0 : Nat) (F : CallF)
def ChkIn (s : HS) (chk : Chk) : Prop := ∀ p, p ∈ chk → pureOp p.2.1.op = true ∧ ∃ s1, cOp P T n0 F p.2.2.1 s p.2.1.op = some (p.2.2.2, s1)
def chkSame (s : HS) (o : Oper) (env : Tr CV) (c : CV) : Bool :=
  match pureOp o.op, cOp P T n0 F env s o.op with
  | true, some (d, _) => CV.same c d
  | _, _ => false
def waitsB (ops : List Oper) (m : Nat) : Nat → Nat → Bool
  | 0, _ => false
  | n + 1, j => match ops[j]? with
    | some o => o.after.any fun e => Region.binds .any e && (Nat.beq e.on m || waitsB ops m n e.on)
    | none => false
/-- What has been read is read the same still, but for what an operation waited for. -/
def chkStep (ops : List Oper) (s : HS) (j : Nat) : Chk → Option Chk
  | [] => some []
  | (m, o, env, c) :: chk => match chkStep ops s j chk with
    | none => none
    | some r => match chkSame P T n0 F s o env c with
      | true => some ((m, o, env, c) :: r)
      | false => match waitsB ops m 8 j with
        | true => some r
        | false => none
def chkAll (s : HS) : Chk → Bool
  | [] => true
  | (_, o, env, c) :: chk => match chkSame P T n0 F s o env c with
    | true => chkAll s chk
    | false => false
end
theorem waitsB_ok {ops : List Oper} {m : Nat} : ∀ {n j : Nat}, waitsB ops m n j = true → Waits ops.toArray m j
  | 0, _, h => by cases h
  | n + 1, j, h => by
    unfold waitsB at h
    split at h
    · rename_i o ho
      rw [Array.any_eq_true'] at h
      obtain ⟨e, he, h⟩ := h
      simp only [Bool.and_eq_true, Bool.or_eq_true] at h
      have ho' : ops.toArray[j]? = some o := by simpa using ho
      rcases h.2 with q | q
      · exact .edge ho' he h.1 (Nat.eq_of_beq_eq_true q)
      · exact .next ho' he h.1 (waitsB_ok q)
    · cases h
section
variable {T : Tab} {n0 : Nat} {F : CallF} {N : Nat} {E : Emb} {s : HS} {w : World}
theorem chkSame_ok {o : Oper} {env : Tr CV} {c : CV} (h : chkSame P T n0 F s o env c = true) : pureOp o.op = true ∧ ∃ s1, cOp P T n0 F env s o.op = some (c, s1) := by
  unfold chkSame at h
  split at h
  · rename_i d s1 hp hc
    have := CV.same_eq h
    subst this
    exact ⟨hp, s1, hc⟩
  · cases h
theorem chkStep_ok {ops : List Oper} {j : Nat} {oj : Oper} (hj : ops[j]? = some oj) (hp : pureOp oj.op = false) {L : Array Bool} (hL : L.getD j false = true) : ∀ {chk r : Chk} {fs : Facts}, ChkR P E N ops.toArray L chk fs → chkStep P T n0 F ops s j chk = some r → ChkR P E N ops.toArray L r fs ∧ ChkIn P T n0 F s r
  | _, r, _, .nil, h => by
    injection h with h
    subst h
    exact ⟨.nil, fun p hp => by cases hp⟩
  | _, r, _, .cons (m := m) (c := c) A V k, h => by
    unfold chkStep at h
    split at h
    · cases h
    · rename_i r' hr
      obtain ⟨k1, k2⟩ := chkStep_ok hj hp hL k hr
      split at h
      · rename_i hs
        injection h with h
        subst h
        refine ⟨.cons A V k1, fun p hpm => ?_⟩
        rcases List.mem_cons.1 hpm with e | e
        · rw [e]; exact chkSame_ok hs
        · exact k2 p e
      · split at h
        · rename_i hw
          injection h with h
          subst h
          exact ⟨.dead ⟨j, oj, by simpa using hj, hp, hL, waitsB_ok hw⟩ k1, k2⟩
        · cases h
  | _, r, _, .dead d k, h => by
    obtain ⟨k1, k2⟩ := chkStep_ok hj hp hL k h
    exact ⟨.dead d k1, k2⟩
  | _, r, _, .triv k, h => by
    obtain ⟨k1, k2⟩ := chkStep_ok hj hp hL k h
    exact ⟨.triv k1, k2⟩
theorem chkAll_ok : ∀ {chk : Chk}, chkAll P T n0 F s chk = true → ChkIn P T n0 F s chk
  | [], _ => fun p hp => by cases hp
  | (m, o, env, c) :: chk, h => by
    unfold chkAll at h
    split at h
    · rename_i hs
      intro p hpm
      rcases List.mem_cons.1 hpm with e | e
      · rw [e]; exact chkSame_ok hs
      · exact chkAll_ok h p e
    · cases h
theorem allD_of (hT : TabOk P T) (G : GlE T E) (hn : E.n0 = n0) (W : WR E s.h s.nx w) {ops : Array Oper} {L : Array Bool} : ∀ {chk : Chk} {fs : Facts}, ChkR P E N ops L chk fs → ChkIn P T n0 F s chk → AllD ops fs L w
  | _, _, .nil, _ => fun p hp => by cases hp
  | _, _, .cons A V r, h => by
    intro p hp hd
    rcases List.mem_cons.1 hp with e | e
    · rw [e]
      obtain ⟨h1, s1, h2⟩ := h _ List.mem_cons_self
      obtain ⟨_, v', v1, v2⟩ := cOp_run hT G hn A W h2 h1
      have := V.fun v2
      subst this
      exact v1
    · exact allD_of hT G hn W r (fun q hq => h q (List.mem_cons_of_mem _ hq)) p e hd
  | _, _, .dead d r, h => by
    intro p hp hd
    rcases List.mem_cons.1 hp with e | e
    · rw [e] at hd; exact absurd d hd
    · exact allD_of hT G hn W r h p e hd
  | _, _, .triv r, h => by
    intro p hp hd
    rcases List.mem_cons.1 hp with e | e
    · rw [e]; trivial
    · exact allD_of hT G hn W r h p e hd
end
/-- What a new thing is. -/
inductive NewK where
  | blk (f : Fresh)
  | map
def NewK.cv (g : Nat) : NewK → CV
  | .blk f => f.cv g
  | .map => .map g
def newVal (k : NewK) (b : Nat) (obj : Obj) : Value :=
  match k, obj with
  | .blk .ptr, _ => .pointer (some ⟨b, 0, none⟩)
  | .blk (.sl n k), .cells c _ _ => .slice (some ⟨b, 0, none⟩) n (c.size / k)
  | .map, _ => .map (some b)
  | _, _ => undef
def objCap : Obj → Nat
  | .cells c _ _ => c.size
  | _ => 0
def ObjR (E : Emb) (cs : List CV) (k : NewK) (obj : Obj) : Prop :=
  match k with
  | .blk _ => ∃ c T, obj = .cells c T ∧ VRs E cs c.toList ∧ ∀ u ∈ c.toList, u.oneCell' = true
  | .map => obj = .map #[] 0 ∧ cs = [.mobj 0]
theorem ObjR.le {E E' : Emb} (h : E.le E') {cs : List CV} {k : NewK} {obj : Obj} (r : ObjR E cs k obj) : ObjR E' cs k obj := by
  cases k with
  | blk f =>
    obtain ⟨c, T, a, b, d⟩ := r
    exact ⟨c, T, a, b.le h, d⟩
  | map => exact r
/-- An operation that makes one new thing, whatever the world. -/
def NewOk (P : Program) (E : Emb) (S : Sem Next) (cs : List CV) (k : NewK) : Prop := ∀ w, ∃ obj, S.run P w = .ok (.value (newVal k w.heap.size obj)) (w.alloc obj) ∧ ObjR E cs k obj
theorem NewOk.le {E E' : Emb} (h : E.le E') {S : Sem Next} {cs : List CV} {k : NewK} (r : NewOk P E S cs k) : NewOk P E' S cs k := fun w => by
  obtain ⟨obj, a, b⟩ := r w
  exact ⟨obj, a, b.le h⟩
theorem NewOk.of {E : Emb} {S : Sem Value} {S' : Sem Next} {ty : TypeId} {cs : List CV} {f : Fresh} (h : ∀ w, FreshOk P E w S ty cs f) (he : S' = do pure (.value (← S))) : NewOk P E S' cs (.blk f) := fun w => by
  obtain ⟨c, v, h1, h2, h3, h4⟩ := h w
  refine ⟨.cells c ty, ?_, c, ty, rfl, h2, h3⟩
  rw [he, Sem.run_bind, h1, h4]
  cases f <;> rfl
def cNew (T : Tab) (env : Tr CV) (op : Op) : Option (List CV × NewK) :=
  match op with
  | .alloc e => match cAlloc T e with
    | some (cs, f) => some (cs, .blk f)
    | none => none
  | .box _ x => match ev T env x with
    | some c => match cBox c with
      | some (cs, f) => some (cs, .blk f)
      | none => none
    | none => none
  | .buildSlice t n ⟨ps⟩ => match evp T env ps with
    | some cs => match cBuildSlice T t n cs with
      | some (cs, f) => some (cs, .blk f)
      | none => none
    | none => none
  | .makeSlice t l c => match ev T env l, ev T env c with
    | some a, some b => match cMakeSlice T t a b with
      | some (cs, f) => some (cs, .blk f)
      | none => none
    | _, _ => none
  | .makeMap _ none => some ([.mobj 0], .map)
  | _ => none
theorem cNew_ok {T : Tab} (hT : TabOk P T) {E : Emb} {N : Nat} {env : Tr CV} {a : Act} {o : Oper} (G : GlE T E) (A : AR E N env a) {cs : List CV} {k : NewK} (h : cNew T env o.op = some (cs, k)) : NewOk P E (execOp a.eval o) cs k := by
  unfold cNew at h
  split at h
  · rename_i e ho
    split at h
    · rename_i hc
      injection h with h
      injection h with h1 h2
      subst h1 h2
      exact .of (fun w => cAlloc_ok hT hc w) (by simp only [execOp, ho])
    · cases h
  · rename_i e x ho
    split at h
    · rename_i c hx
      split at h
      · rename_i hc
        injection h with h
        injection h with h1 h2
        subst h1 h2
        exact .of (fun w => cBox_ok (e := e) hc (ev_ok G A hx) w) (by simp only [execOp, ho])
      · cases h
    · cases h
  · rename_i t n ps ho
    split at h
    · rename_i cs' hx
      split at h
      · rename_i hc
        injection h with h
        injection h with h1 h2
        subst h1 h2
        refine .of (S := Instr.buildSlice t n ((⟨ps⟩ : Array (Nat × Operand)).map fun (i, x) => (i, a.eval x))) (fun w => cBuildSlice_ok hT hc ?_ w) (by simp only [execOp, ho])
        have := evp_ok G A hx
        simpa using this
      · cases h
    · cases h
  · rename_i t l b ho
    split at h
    · rename_i c1 c2 h1 h2
      split at h
      · rename_i hc
        injection h with h
        injection h with h3 h4
        subst h3 h4
        exact .of (fun w => cMakeSlice_ok hT hc (ev_ok G A h1) (ev_ok G A h2) w) (by simp only [execOp, ho])
      · cases h
    · cases h
  · rename_i t ho
    injection h with h
    injection h with h1 h2
    subst h1 h2
    refine fun w => ⟨.map #[] 0, ?_, rfl, rfl⟩
    have hrun : (Instr.makeMap t none).run P w = .ok (.map (some w.heap.size)) (w.alloc (.map #[] 0)) := rfl
    simp only [execOp, ho, Option.map_none, Sem.run_bind, hrun, Result.andThen_ok, Sem.run_pure]
    rfl
  · cases h
/-- A block that lies in the world already gets a number. -/
theorem EStep.adopt {E0 E : Emb} {h0 h : Tr (List CV)} {nx0 nx : Nat} {w0 w : World} (S : EStep E0 h0 nx0 w0 E h nx w) {g b : Nat} {obj : Obj} {cs : List CV} {k : NewK} (hg : ¬ E.on g) (hge : nx0 ≤ g) (hlt : g < nx) (hk : g < keyMax) (hg4 : g % 4 = 0) (hb0 : w0.heap.size ≤ b) (hbl : b < w.heap.size)
    (hobj : w.heap[b]? = some obj) (hO : ObjR E cs k obj) (hap : ∀ x, E.on x → E.adr x ≠ b) : EStep E0 h0 nx0 w0 (E.ext g b 0 (objCap obj)) (hput h g cs) nx w ∧ VR (E.ext g b 0 (objCap obj)) (k.cv g) (newVal k b obj) ∧ E.le (E.ext g b 0 (objCap obj)) := by
  have hle := Emb.le_ext (b := b) (o := 0) (c := objCap obj) hg
  have W := S.wr
  refine ⟨⟨S.le.trans hle, ⟨fun x xs hon hx => ?_, fun x x' xs xs' hon hon' hx hx' hadr => ?_, fun x hon => ?_⟩, S.sz, S.fr, fun x hx => ?_, S.nxle, fun x hx hn => ?_, S.os, S.tape, S.output⟩, ?_, hle⟩
  · rw [get_hput h _ x hk] at hx
    by_cases e : x = g
    · subst e
      rw [if_pos rfl] at hx
      injection hx with hx
      subst hx
      cases k with
      | map =>
        obtain ⟨rfl, rfl⟩ := hO
        exact .inr ⟨0, [], #[], rfl, by simp only [Emb.ext, if_pos]; exact hobj, .nil⟩
      | blk f =>
        obtain ⟨c, T, rfl, o2, o3⟩ := hO
        have hl := o2.size
        refine .inl ⟨c, T, (0, 0), by simp only [Emb.ext, if_pos]; exact hobj, by simp [Emb.ext, objCap], by simp only [Emb.ext, if_pos, objCap]; omega, fun _ => ⟨.inl rfl, fun q => absurd hg4 q⟩, fun i v hi => ?_⟩
        obtain ⟨u, g1, g2⟩ := o2.get hi
        have g3 := o3 u (List.mem_of_getElem? g1)
        rw [Array.getElem?_toList] at g1
        exact ⟨u, by simpa [Emb.ext] using g1, g2.le hle, g3⟩
    · rw [if_neg e] at hx
      have hon0 : E.on x := hon.resolve_left e
      exact OrR.le hle hon0 (W.bk0 x xs hon0 hx)
  · rw [get_hput h _ x hk] at hx
    rw [get_hput h _ x' hk] at hx'
    by_cases e : x = g
    · by_cases e' : x' = g
      · rw [e, e']
      · have hon0 : E.on x' := hon'.resolve_left e'
        simp only [Emb.ext, if_pos e, if_neg e'] at hadr
        exact absurd hadr.symm (hap x' hon0)
    · have hon0 : E.on x := hon.resolve_left e
      by_cases e' : x' = g
      · simp only [Emb.ext, if_pos e', if_neg e] at hadr
        exact absurd hadr (hap x hon0)
      · have hon1 : E.on x' := hon'.resolve_left e'
        rw [if_neg e] at hx
        rw [if_neg e'] at hx'
        simp only [Emb.ext, if_neg e, if_neg e'] at hadr
        exact W.apart x x' xs xs' hon0 hon1 hx hx' hadr
  · by_cases e : x = g
    · simp only [Emb.ext, if_pos e]
      omega
    · have := W.lt x (hon.resolve_left e)
      simp only [Emb.ext, if_neg e]
      omega
  · by_cases e : x = g
    · right; simp only [Emb.ext, if_pos e]; exact hb0
    · rcases S.own x (hx.resolve_left e) with q | q
      · obtain ⟨g0, o1, o2, o3⟩ := q
        exact .inl ⟨g0, o1, o2, by simp only [Emb.ext, if_neg e]; exact o3⟩
      · right; simp only [Emb.ext, if_neg e]; exact q
  · have e : x ≠ g := by omega
    obtain ⟨p1, p2⟩ := S.ph x hx hn
    exact ⟨fun a => a.elim e p1, by rw [get_hput h _ x hk, if_neg e]; exact p2⟩
  · cases k with
    | map =>
      have := VR.map (E := E.ext g b 0 (objCap obj)) g (.inl rfl)
      simpa [Emb.ext, NewK.cv, newVal] using this
    | blk f =>
      obtain ⟨c, T, rfl, o2, o3⟩ := hO
      cases f with
      | ptr =>
        have := VR.ptr (E := E.ext g b 0 (objCap (.cells c T))) g 0 (.inl rfl)
        simpa [Emb.ext, NewK.cv, Fresh.cv, newVal] using this
      | sl n k =>
        have := VR.sl (E := E.ext g b 0 (objCap (.cells c T))) g 0 n k (.inl rfl)
        simpa [Emb.ext, NewK.cv, Fresh.cv, newVal, objCap] using this
/-- A block that the reckoner does not know yet. -/
theorem EStep.skip {E : Emb} {h : Tr (List CV)} {nx : Nat} {w : World} (W : WR E h nx w) (o : Obj) : EStep E h nx w E h nx (w.alloc o) :=
  ⟨.refl E, ⟨fun g cs a b => OrR.world (alloc_old (W.lt g a).2) (W.bk0 g cs a b), W.apart, fun g a => ⟨(W.lt g a).1, by rw [size_alloc']; exact Nat.lt_succ_of_lt (W.lt g a).2⟩⟩, by rw [size_alloc']; omega, fun b hb _ => alloc_old hb, fun g a => .inl ⟨g, a, id, rfl⟩, Nat.le_refl _, fun _ _ a => ⟨a, rfl⟩, rfl, rfl, rfl⟩
theorem EStep.lower {E E' : Emb} {h h' : Tr (List CV)} {nx nx' nx0 : Nat} {w w' : World} (S : EStep E h nx w E' h' nx' w') (hle : nx0 ≤ nx) : EStep E h nx0 w E' h' nx' w' :=
  ⟨S.le, S.wr, S.sz, S.fr, S.own, Nat.le_trans hle S.nxle, fun g a b => S.ph g (Nat.lt_of_lt_of_le a hle) b, S.os, S.tape, S.output⟩
end
end Go.Proofs.YthdbddolkfibkaaGreatDoor
