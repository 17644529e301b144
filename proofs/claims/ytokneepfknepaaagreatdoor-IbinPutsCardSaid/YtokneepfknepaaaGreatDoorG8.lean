/- A reckoner over a region's operations: loads from known blocks, tests with known answers, calls with known answers; chains of guarded operations ('a || b || c') are walked by the kernel. The document's shapes of opcodes, and which fields an instruction of a shape has (layers 5 and 7), without the program. The document's nesting (layer 7), without the program: what is open, as a row of opcodes, and as a row of truths. The walks of layer 6, the tenth part: sub types. The walks of layer 6, the eleventh part: lists of sub types, and recursive types. The walks of layer 6, the twelfth part: recursive types. The walks of layer 6: a sub type is put. The walks of layer 6: lists of sub types are put. The walks of layer 6: groups are put. The walks of the document's answers: numbers in bytes (layer 1), the heap type of a byte (layer 6). The walks of the document's answers: what is plain (layer 4). The walks of the document's answers: what is put (layer 6). The walks of the document's answers: a sub type is put (layer 6). The walk of the document's putSub (layer 6). The walks of layer 7: append on slices of instructions of the call's own, in a region that draws its order, too. The walks of the document's answers (layer 7): which fields a shape has, plain heap types, what is open behind an instruction, well nested rows, the bytes of an index. The reckoner's keys for instructions in known blocks: fields, loads, comparisons. The walk of the document's comparison of two instructions (layer 7). The walks of the document's comparisons of lists (layers 4 and 7). Made by tools/refeq.py. -/
import Derived.Test.YtokneepfknepaaaGreatDoorG1
import Derived.Test.YtokneepfknepaaaGreatDoorG5
import Derived.Test.YtokneepfknepaaaGreatDoorG2
import Derived.Test.YtokneepfknepaaaGreatDoorG6
import Derived.Test.YtokneepfknepaaaGreatDoorG7
import Derived.Test.YtokneepfknepaaaGreatDoorG4
import Derived.Test.YtokneepfknepaaaGreatDoorG3
set_option linter.unusedSimpArgs false
set_option linter.unusedVariables false
namespace Go.Proofs.YtokneepfknepaaaGreatDoor
open Go.RowKit

/-- What a temporary holds: a value by its number, a whole number, a truth, nothing, a place in a block by its number. -/
inductive AV where
  | k (i : Nat)
  | c (kd : IntKind) (n : Int)
  | b (x : Bool)
  | z
  | p (g o : Nat)
inductive RKey where
  | fld (ty : TypeId) (x : AV) (f : Nat)
  | idx (ty : TypeId) (x y : AV)
  | load (ty : TypeId) (x : AV)
  | bin (op : BinOp) (ty : TypeId) (x y : AV)
  | len (t : TypeId) (x : AV)
  | zero (ty : TypeId)
  | call (f : FuncId) (xs : List AV)
section
variable (vs : Nat → Value) (bs : Nat → Nat)
def AV.val : AV → Value
  | .k i => vs i
  | .c kd n => .int kd n
  | .b x => .bool x
  | .z => undef
  | .p g o => .pointer (some ⟨bs g, o, none⟩)
/-- What the key's operation does: it yields the value, and what is known of the world stays known. -/
def RKey.runs (P : Program) (I : World → Prop) (v : AV) : RKey → Prop
  | .fld ty x f => ∀ w, I w → (Instr.fieldAt ty (x.val vs bs) f).run P w = .ok (v.val vs bs) w
  | .idx ty x y => ∀ w, I w → (Instr.indexAt ty (x.val vs bs) (y.val vs bs)).run P w = .ok (v.val vs bs) w
  | .load ty x => ∀ w, I w → (Instr.loadAt ty (x.val vs bs)).run P w = .ok (v.val vs bs) w
  | .bin op ty x y => ∀ w, I w → ∀ X Y : Operand, (do eqGuard op ty X Y (x.val vs bs) (y.val vs bs); binOp op ty (x.val vs bs) (y.val vs bs) : Sem Value).run P w = .ok (v.val vs bs) w
  | .len t x => ∀ w, I w → ∀ ty cs, (builtin .len #[t] ty cs #[x.val vs bs]).run P w = .ok (.value (v.val vs bs)) w
  | .zero ty => ∀ w, I w → (Instr.build ty #[]).run P w = .ok (v.val vs bs) w
  | .call f xs => ∀ w, I w → (callFunc f (xs.map (AV.val vs bs)).toArray).run P w = .ok (.enter f (xs.map (AV.val vs bs)).toArray) w ∧
      Calls P f (xs.map (AV.val vs bs)).toArray w (fun e w' => e = .returned (v.val vs bs) ∧ I w')
end
def aGet : List (Nat × AV) → Nat → Option AV
  | [], _ => none
  | (s, v) :: e, t => if s = t then some v else aGet e t
def aEval (env : List (Nat × AV)) : Operand → Option AV
  | .tmp t => aGet env t
  | .const (.int kd n) => some (.c kd n)
  | .const (.bool x) => some (.b x)
  | _ => none
def aEvals (env : List (Nat × AV)) : List Operand → Option (List AV)
  | [] => some []
  | x :: xs => match aEval env x, aEvals env xs with
    | some v, some vs => some (v :: vs)
    | _, _ => none
section
variable (T : RKey → Option AV)
def aOp (env : List (Nat × AV)) : Op → Option AV
  | .move x => aEval env x
  | .assign x => aEval env x
  | .pick c x y => match aEval env c with
    | some (.b t) => if t then aEval env x else aEval env y
    | _ => none
  | .unOp .not _ x => match aEval env x with
    | some (.b t) => some (.b (!t))
    | _ => none
  | .fieldAddr ty x f => match aEval env x with
    | some v => T (.fld ty v f)
    | none => none
  | .indexAddr ty x y => match aEval env x, aEval env y with
    | some v, some u => T (.idx ty v u)
    | _, _ => none
  | .load ty x => match aEval env x with
    | some v => T (.load ty v)
    | none => none
  | .binOp op ty x y _ => match aEval env x, aEval env y with
    | some v, some u => T (.bin op ty v u)
    | _, _ => none
  | .build ty ⟨[]⟩ => T (.zero ty)
  | .call c => match c with
    | { callee := .builtin .len, args := ⟨[x]⟩, argTypes := ⟨[t]⟩ } => match aEval env x with
      | some v => T (.len t v)
      | none => none
    | { callee := .value (.func f), args := ⟨xs⟩, .. } => match aEvals env xs with
      | some vs => T (.call f vs)
      | none => none
    | _ => none
  | _ => none
def aWanted (ops : List Oper) (env : List (Nat × AV)) (o : Oper) : Option Bool :=
  match o.guard with
  | none => some true
  | some (j, want) => match (ops[j]?).bind (·.dst) with
    | some d => (match aGet env d with
      | some (.b x) => some (x == want)
      | some .z => some false
      | _ => none)
    | none => none
def aList (N : Nat) (ops : List Oper) : List Oper → List (Nat × AV) → Option (List (Nat × AV))
  | [], env => some env
  | o :: rest, env => match o.dst with
    | none => none
    | some d => if d < N then (match aWanted ops env o with
      | some true => (match aOp T env o.op with
        | some v => aList N ops rest ((d, v) :: env)
        | none => none)
      | some false => aList N ops rest ((d, .z) :: env)
      | none => none) else none
def aAnswer (N : Nat) (ops : List Oper) (env : List (Nat × AV)) (t : Nat) : Option AV :=
  match aList T N ops ops env with
  | some e => aGet e t
  | none => none
end
/-- A frame with some of its temporaries told anew. -/
def mixL : List Bool → List Value → (Nat → Value) → Nat → List Value
  | true :: m, _ :: vs, f, t => f t :: mixL m vs f (t + 1)
  | false :: m, v :: vs, f, t => v :: mixL m vs f (t + 1)
  | _, _, _, _ => []
structure ARel (vs : Nat → Value) (bs : Nat → Nat) (N : Nat) (D : List Nat) (a0 : Act) (env : List (Nat × AV)) (a : Act) : Prop where
  size : a.tmps.size = N
  defers : a.defers = a0.defers
  get : ∀ t v, aGet env t = some v → a.tmps.getD t undef = v.val vs bs
  keep : ∀ t, t < N → t ∉ D → a.tmps.getD t undef = a0.tmps.getD t undef
section
variable {vs : Nat → Value} {bs : Nat → Nat} {N : Nat} {D : List Nat} {a0 : Act} {T : RKey → Option AV} {P : Program} {I : World → Prop}
theorem getD_put (a : Act) (d t : Nat) (v : Value) (hd : d < a.tmps.size) : (a.put (some d) v).tmps.getD t undef = if d = t then v else a.tmps.getD t undef := by
  simp only [Act.put, Array.getD_eq_getD_getElem?, Array.getElem?_setIfInBounds]
  by_cases e : d = t
  · subst e
    rw [if_pos rfl, if_pos rfl, if_pos hd]
    rfl
  · rw [if_neg e, if_neg e]
theorem ARel.put {env : List (Nat × AV)} {a : Act} (h : ARel vs bs N D a0 env a) {d : Nat} (hd : d < N) (hm : d ∈ D) (v : AV) : ARel vs bs N D a0 ((d, v) :: env) (a.put (some d) (v.val vs bs)) := by
  refine ⟨by simpa [Act.put] using h.size, h.defers, fun t u hu => ?_, fun t ht hn => ?_⟩
  · rw [getD_put _ _ _ _ (by rw [h.size]; exact hd)]
    unfold aGet at hu
    by_cases e : d = t
    · rw [if_pos e] at hu ⊢
      injection hu with hu
      rw [hu]
    · rw [if_neg e] at hu ⊢
      exact h.get t u hu
  · rw [getD_put _ _ _ _ (by rw [h.size]; exact hd), if_neg (fun e : d = t => hn (by rw [← e]; exact hm))]
    exact h.keep t ht hn
theorem aEval_ok {env : List (Nat × AV)} {a : Act} (h : ARel vs bs N D a0 env a) {x : Operand} {v : AV} (e : aEval env x = some v) : a.eval x = v.val vs bs := by
  unfold aEval at e
  split at e
  · exact h.get _ _ e
  · injection e with e
    subst e
    rfl
  · injection e with e
    subst e
    rfl
  · cases e
theorem aEvals_ok {env : List (Nat × AV)} {a : Act} (h : ARel vs bs N D a0 env a) : ∀ {xs : List Operand} {us : List AV}, aEvals env xs = some us → xs.map a.eval = us.map (AV.val vs bs)
  | [], us, e => by
    injection e with e
    subst e
    rfl
  | x :: xs, us, e => by
    unfold aEvals at e
    split at e
    · rename_i v vs' h1 h2
      injection e with e
      subst e
      rw [List.map_cons, List.map_cons, aEval_ok h h1, aEvals_ok h h2]
    · cases e
theorem aOp_ok (hT : ∀ key v, T key = some v → key.runs vs bs P I v) {env : List (Nat × AV)} {a : Act} (h : ARel vs bs N D a0 env a) {o : Oper} {v : AV} (e : aOp T env o.op = some v) {w : World} (hI : I w) {K : Act → World → Prop} {Q : Exit → Act → World → Prop}
    (k : ∀ w', I w' → K (a.put o.dst (v.val vs bs)) w') : o.wp P a w K Q := by
  unfold Oper.wp execOp
  unfold aOp at e
  split at e
  · rename_i x ho
    simp only [ho, Sem.run_pure, aEval_ok h e]
    exact k w hI
  · rename_i x ho
    simp only [ho, Sem.run_pure, aEval_ok h e]
    exact k w hI
  · rename_i c x y ho
    split at e
    · rename_i t hcv
      simp only [ho, aEval_ok h hcv, AV.val, asBool, Sem.run_bind, Sem.run_pure, Result.andThen_ok]
      cases t
      · simp only [Bool.false_eq_true, if_false] at e ⊢
        rw [aEval_ok h e]
        exact k w hI
      · simp only [if_true] at e ⊢
        rw [aEval_ok h e]
        exact k w hI
    · cases e
  · rename_i t x ho
    split at e
    · rename_i tv hx
      injection e with e
      subst e
      simp only [ho]
      rw [aEval_ok h hx]
      simp only [AV.val, Op.unary, Sem.run_bind, Sem.run_pure, Result.andThen_ok]
      exact k w hI
    · cases e
  · rename_i ty x f ho
    split at e
    · rename_i u hu
      have h1 := hT _ _ e w hI
      simp only [ho]
      rw [aEval_ok h hu, Sem.run_bind, h1]
      exact k w hI
    · cases e
  · rename_i ty x y ho
    split at e
    · rename_i u u2 hu hu2
      have h1 := hT _ _ e w hI
      simp only [ho]
      rw [aEval_ok h hu, aEval_ok h hu2, Sem.run_bind, h1]
      exact k w hI
    · cases e
  · rename_i ty x ho
    split at e
    · rename_i u hu
      have h1 := hT _ _ e w hI
      simp only [ho]
      rw [aEval_ok h hu, Sem.run_bind, h1]
      exact k w hI
    · cases e
  · rename_i op ty x y ty2 ho
    split at e
    · rename_i u u2 hu hu2
      have h1 := hT _ _ e w hI x y
      simp only [ho]
      rw [aEval_ok h hu, aEval_ok h hu2, Sem.run_bind, h1]
      exact k w hI
    · cases e
  · rename_i ty ho
    have h1 := hT _ _ e w hI
    simp only [ho]
    rw [List.map_toArray, List.map_nil, Sem.run_bind, h1]
    exact k w hI
  · rename_i c ho
    split at e
    · rename_i x t
      split at e
      · rename_i u hu
        have h1 := hT _ _ e w hI
        have hx2 := aEval_ok h hu
        simp only [ho]
        have h4 : ({ callee := .builtin .len, args := ⟨[x]⟩, argTypes := ⟨[t]⟩ } : Call).args.map a.eval = #[u.val vs bs] := by
          show #[x].map a.eval = _
          rw [List.map_toArray, List.map_cons, List.map_nil, hx2]
        obtain ⟨cs, h5⟩ : ∃ cs, (resolve a.eval { callee := .builtin .len, args := ⟨[x]⟩, argTypes := ⟨[t]⟩ } o.type).run P w = .ok { target := .builtin .len #[t] o.type cs, args := #[u.val vs bs] } w := by
          unfold resolve
          simp only [h4]
          exact ⟨_, rfl⟩
        rw [Sem.run_bind, h5]
        show Oper.upon P o a K Q ((builtin .len #[t] o.type cs #[u.val vs bs]).run P w)
        rw [h1]
        exact k w hI
      · cases e
    · rename_i f xs ats
      split at e
      · rename_i us hu
        obtain ⟨h1, h2⟩ := hT _ _ e w hI
        have hx2 := aEvals_ok h hu
        simp only [ho]
        have h5 : (resolve a.eval { callee := .value (.func f), args := ⟨xs⟩, argTypes := ats } o.type).run P w = .ok { target := .fn (.func f) #[], args := (us.map (AV.val vs bs)).toArray } w := by
          unfold resolve
          have h4 : (⟨xs⟩ : Array Operand).map a.eval = (us.map (AV.val vs bs)).toArray := by
            rw [← hx2]
            exact List.map_toArray
          simp only [h4]
          simp [Act.eval, Deferred.ofValue]
        rw [Sem.run_bind, h5]
        show Oper.upon P o a K Q ((callFunc f ((us.map (AV.val vs bs)).toArray ++ #[])).run P w)
        rw [Array.append_empty, h1, Oper.upon_enter]
        refine h2.mono ?_
        rintro e w' ⟨rfl, hI'⟩
        exact k w' hI'
      · cases e
    · cases e
  · cases e
theorem aWanted_ok {ops : List Oper} {env : List (Nat × AV)} {a : Act} (h : ARel vs bs N D a0 env a) (hs : ∀ t v, aGet env t = some v → t < N) {o : Oper} {t : Bool} (e : aWanted ops env o = some t) : Region.wanted o (yielded ops.toArray a.tmps) = t := by
  unfold aWanted at e
  unfold Region.wanted
  split at e
  · rename_i hg
    injection e with e
    simp only [hg]
    exact e
  · rename_i j want hg
    split at e
    · rename_i d hd
      simp only [hg]
      unfold yielded
      have hd2 : ((ops.toArray[j]?).bind (·.dst)) = some d := by simpa using hd
      rw [hd2]
      have h3 : d < N → a.tmps[d]? = some (a.tmps.getD d undef) := fun hlt => by
        have : d < a.tmps.size := by rw [h.size]; exact hlt
        rw [Array.getElem?_eq_getElem this, Array.getD_eq_getD_getElem?, Array.getElem?_eq_getElem this]
        rfl
      split at e
      · rename_i x hx
        injection e with e
        simp only [Option.bind_some, h3 (hs _ _ hx), h.get _ _ hx, AV.val]
        rw [← e]
        cases x <;> cases want <;> rfl
      · rename_i hx
        injection e with e
        have h5 := h.get _ _ hx
        simp only [Option.bind_some, h3 (hs _ _ hx), h5]
        rw [← e]
        rfl
      · cases e
    · cases e
theorem aList_ok (hT : ∀ key v, T key = some v → key.runs vs bs P I v) (ops : List Oper) {Q : Exit → Act → World → Prop} : ∀ (l : List Oper) {env env' : List (Nat × AV)} {a : Act} {w : World}, ARel vs bs N D a0 env a → (∀ t v, aGet env t = some v → t < N) → (∀ o, o ∈ l → ∀ d, o.dst = some d → d ∈ D) →
    aList T N ops l env = some env' → I w → (∀ a' w', ARel vs bs N D a0 env' a' → I w' → Q .normal a' w') → wpList P ops.toArray Q l a w
  | [], env, env', a, w, h, _, _, e, hI, k => by
    unfold aList at e
    injection e with e
    subst e
    exact k a w h hI
  | o :: rest, env, env', a, w, h, hs, hD, e, hI, k => by
    unfold aList at e
    split at e
    · cases e
    · rename_i d hdst
      split at e
      · rename_i hlt
        have hdD := hD o List.mem_cons_self d hdst
        have hs2 : ∀ u, ∀ t v, aGet ((d, u) :: env) t = some v → t < N := fun u t v hv => by
          unfold aGet at hv
          by_cases hdt : d = t
          · rw [← hdt]; exact hlt
          · rw [if_neg hdt] at hv
            exact hs t v hv
        split at e
        · rename_i hw
          split at e
          · rename_i v hv
            refine wpList_step fun K hK => ?_
            rw [if_pos (aWanted_ok h hs hw)]
            refine aOp_ok hT h hv hI fun w' hI' => hK _ _ ?_
            rw [hdst]
            exact aList_ok hT ops rest (h.put hlt hdD v) (hs2 v) (fun o ho => hD o (List.mem_cons_of_mem _ ho)) e hI' k
          · cases e
        · rename_i hw
          refine wpList_skip (aWanted_ok h hs hw) ?_
          rw [hdst]
          exact aList_ok hT ops rest (h.put hlt hdD .z) (hs2 .z) (fun o ho => hD o (List.mem_cons_of_mem _ ho)) e hI k
        · cases e
      · cases e
/-- Which temporaries a region writes. -/
def dstsL (ops : List Oper) : List Nat := ops.filterMap (·.dst)
theorem mixL_len : ∀ (m : List Bool) (l : List Value) (f : Nat → Value) (t : Nat), m.length = l.length → (mixL m l f t).length = l.length
  | [], [], _, _, _ => rfl
  | true :: m, _ :: l, f, t, h => by simp only [mixL, List.length_cons]; rw [mixL_len m l f (t + 1) (by simpa using h)]
  | false :: m, _ :: l, f, t, h => by simp only [mixL, List.length_cons]; rw [mixL_len m l f (t + 1) (by simpa using h)]
  | [], _ :: _, _, _, h => by simp at h
  | _ :: _, [], _, _, h => by simp at h
theorem mixL_get : ∀ (m : List Bool) (l : List Value) (f : Nat → Value) (t j : Nat), m.length = l.length → j < l.length → (mixL m l f t)[j]? = if m.getD j false then some (f (t + j)) else l[j]?
  | true :: m, _ :: l, f, t, 0, h, hj => by simp [mixL]
  | false :: m, _ :: l, f, t, 0, h, hj => by simp [mixL]
  | true :: m, _ :: l, f, t, j + 1, h, hj => by
    simp only [mixL, List.getElem?_cons_succ, List.getD_cons_succ]
    rw [mixL_get m l f (t + 1) j (by simpa using h) (by simpa using hj), show t + 1 + j = t + (j + 1) by omega]
  | false :: m, _ :: l, f, t, j + 1, h, hj => by
    simp only [mixL, List.getElem?_cons_succ, List.getD_cons_succ]
    rw [mixL_get m l f (t + 1) j (by simpa using h) (by simpa using hj), show t + 1 + j = t + (j + 1) by omega]
  | [], [], _, _, _, _, hj => by simp at hj
  | [], _ :: _, _, _, _, h, _ => by simp at h
  | _ :: _, [], _, _, _, h, _ => by simp at h
/-- A region by the reckoner: behind it the answer's temporary holds the answer; what the region writes is told anew, all else is as it was. -/
theorem rk_region (hT : ∀ key v, T key = some v → key.runs vs bs P I v) {id : Nat} {ops : Array Oper} {l : List Value} {env : List (Nat × AV)} {t : Nat} {v : AV} {w : World} {Q : Exit → Act → World → Prop} {m : List Bool}
    (hI : I w) (henv : ∀ t v, aGet env t = some v → t < l.length ∧ l.toArray.getD t undef = v.val vs bs) (hans : aAnswer T l.length ops.toList env t = some v)
    (hm : m = (List.range l.length).map (fun t => (dstsL ops.toList).elem t)) (ht : t < l.length)
    (k : ∀ (f : Nat → Value) w', I w' → f t = v.val vs bs → Q .normal { tmps := (mixL m l f 0).toArray, defers := [] } w') :
    (Code.region id ops false).wp P Q { tmps := l.toArray, defers := [] } w := by
  unfold aAnswer at hans
  split at hans
  · rename_i e he
    refine wp_region_list ?_
    have := aList_ok (N := l.length) (D := dstsL ops.toList) (a0 := { tmps := l.toArray, defers := [] }) (Q := Q) hT ops.toList ops.toList (a := { tmps := l.toArray, defers := [] }) ⟨by simp, rfl, fun t v h => (henv t v h).2, fun _ _ _ => rfl⟩ (fun t v h => (henv t v h).1)
      (fun o ho d hd => List.mem_filterMap.2 ⟨o, ho, hd⟩) he hI fun a' w' h' hI' => ?_
    · simpa using this
    · have hx := k (fun t => a'.tmps.getD t undef) w' hI' (h'.get t v hans)
      have hml : m.length = l.length := by rw [hm]; simp
      have : a' = { tmps := (mixL m l (fun t => a'.tmps.getD t undef) 0).toArray, defers := [] } := by
        obtain ⟨tm, df⟩ := a'
        have hd := h'.defers
        have hs := h'.size
        have hk := h'.keep
        dsimp only at hd hs hk ⊢
        subst hd
        congr 1
        apply Array.ext'
        apply List.ext_getElem?
        intro j
        by_cases hj : j < l.length
        · rw [List.toList_toArray, mixL_get m l _ 0 j hml hj]
          have h1 : tm.toList[j]? = some (tm.getD j undef) := by
            have : j < tm.size := by omega
            rw [Array.getElem?_toList, Array.getElem?_eq_getElem this, Array.getD_eq_getD_getElem?, Array.getElem?_eq_getElem this]
            rfl
          have h2 : m.getD j false = (dstsL ops.toList).elem j := by
            rw [hm, List.getD_eq_getElem?_getD, List.getElem?_map, List.getElem?_range hj]
            rfl
          rw [h1, h2]
          split
          · rw [Nat.zero_add]
          · rename_i hn
            have := hk j hj (by simpa using hn)
            rw [this, Array.getD_eq_getD_getElem?, List.getElem?_toArray, List.getElem?_eq_getElem hj]
            rfl
        · rw [List.getElem?_eq_none (by simp; omega), List.getElem?_eq_none (by rw [List.toList_toArray, mixL_len _ _ _ _ hml]; omega)]
      rw [this]
      exact hx
  · cases hans
end
end Go.Proofs.YtokneepfknepaaaGreatDoor

set_option linter.unusedSimpArgs false
set_option linter.unusedVariables false
namespace Go.Proofs.YtokneepfknepaaaGreatDoor
def isQ (n : Int) : Bool := decide (0 ≤ n ∧ n ≤ 5 ∨ n = 8 ∨ 10 ≤ n ∧ n ≤ 21 ∨ 26 ≤ n ∧ n ≤ 28 ∨ 31 ≤ n ∧ n ≤ 38 ∨ n = 40 ∨ n = 41 ∨ 44 ≤ n ∧ n ≤ 55 ∨ 58 ≤ n ∧ n ≤ 66 ∨ 69 ≤ n ∧ n ≤ 90 ∨ 103 ≤ n ∧ n ≤ 138 ∨ n = 167 ∨ n = 172 ∨ n = 173 ∨ 192 ≤ n ∧ n ≤ 196 ∨ 208 ≤ n ∧ n ≤ 214 ∨ 64256 ≤ n ∧ n ≤ 64286 ∨ 64520 ≤ n ∧ n ≤ 64529)
def q7 (n : Int) : Bool := decide (n = 17 ∨ n = 19 ∨ 64258 ≤ n ∧ n ≤ 64261 ∨ 64264 ≤ n ∧ n ≤ 64266 ∨ 64273 ≤ n ∧ n ≤ 64275 ∨ n = 64520 ∨ n = 64522 ∨ n = 64524 ∨ n = 64526)
def q6 (n : Int) : Bool := decide (n = 8 ∨ n = 16 ∨ n = 18 ∨ n = 20 ∨ n = 21 ∨ 32 ≤ n ∧ n ≤ 38 ∨ n = 63 ∨ n = 64 ∨ n = 210)
def q6b (n : Int) : Bool := decide (n = 64256 ∨ n = 64257 ∨ n = 64262 ∨ n = 64263 ∨ 64267 ≤ n ∧ n ≤ 64270 ∨ n = 64272 ∨ n = 64521 ∨ n = 64523 ∨ n = 64525 ∨ 64527 ≤ n ∧ n ≤ 64529)
def q4 (n : Int) : Bool := decide (n = 12 ∨ n = 13 ∨ n = 213 ∨ n = 214)
def q2 (n : Int) : Bool := decide (2 ≤ n ∧ n ≤ 4)
def q8 (n : Int) : Bool := decide (40 ≤ n ∧ n ≤ 62)
def q11 (n : Int) : Bool := decide (n = 208 ∨ 64276 ≤ n ∧ n ≤ 64279)
def q13 (n : Int) : Bool := decide (n = 64280 ∨ n = 64281)
def shapeQ (n : Int) : Int :=
  if isQ n = false then 0 else if q2 n then 2 else if n = 31 then 3 else if q4 n then 4 else if n = 14 then 5 else if q7 n then 7 else if q8 n then 8 else if n = 65 then 9 else if n = 66 then 10
  else if q11 n then 11 else if n = 28 then 12 else if q13 n then 13 else if q6 n then 6 else if q6b n then 6 else 1
set_option maxRecDepth 100000 in
theorem shape_low : ∀ k : Nat, k < 300 → shapeP (k : Int) = shapeQ (k : Int) := by decide +kernel
set_option maxRecDepth 100000 in
theorem shape_high : ∀ k : Nat, k < 300 → shapeP (64256 + (k : Int)) = shapeQ (64256 + (k : Int)) := by decide +kernel
theorem ops_in : (opsOf runsL).all (fun n => decide (0 ≤ n ∧ n < 300) || decide (64256 ≤ n ∧ n < 64556)) = true := by decide +kernel
theorem shape_eq (n : Int) : shapeP n = shapeQ n := by
  by_cases h1 : 0 ≤ n ∧ n < 300
  · have := shape_low n.toNat (by omega)
    rwa [show ((n.toNat : Nat) : Int) = n by omega] at this
  by_cases h2 : 64256 ≤ n ∧ n < 64556
  · have := shape_high (n - 64256).toNat (by omega)
    rwa [show (64256 + (((n - 64256).toNat : Nat) : Int)) = n by omega] at this
  have e1 : isQ n = false := by
    unfold isQ
    rw [decide_eq_false_iff_not]
    omega
  have e2 : shapeQ n = 0 := by unfold shapeQ; rw [if_pos e1]
  rw [e2]
  unfold shapeP
  rw [if_pos]
  apply Int.not_le.1
  intro h3
  have h4 := List.all_eq_true.1 ops_in n (findL_mem n runsL 0 h3)
  simp only [Bool.or_eq_true, decide_eq_true_eq] at h4
  omega

/-- Which fields an instruction of a shape has: X, Y, U, Heap, the cast's, Types, Labels, Block, Catches. -/
def hasL (s : Int) : List Bool :=
  if s = 6 ∨ s = 4 then [true, false, false, false, false, false, false, false, false]
  else if s = 7 then [true, true, false, false, false, false, false, false, false]
  else if s = 5 then [true, false, false, false, false, false, true, false, false]
  else if s = 8 then [true, true, true, false, false, false, false, false, false]
  else if s = 9 ∨ s = 10 then [false, false, true, false, false, false, false, false, false]
  else if s = 11 then [false, false, false, true, false, false, false, false, false]
  else if s = 12 then [false, false, false, false, false, true, false, false, false]
  else if s = 2 then [false, false, false, false, false, false, false, true, false]
  else if s = 3 then [false, false, false, false, false, false, false, true, true]
  else if s = 13 then [true, false, false, true, true, false, false, false, false]
  else [false, false, false, false, false, false, false, false, false]
def has (s : Int) (k : Nat) : Bool := (hasL s).getD k false
/-- A field that the shape has not, and that is not zero. -/
def badF (i : InstrT) : Bool :=
  !has (shapeP i.op) 0 && decide (i.x ≠ 0) || !has (shapeP i.op) 1 && decide (i.y ≠ 0) || !has (shapeP i.op) 2 && decide (i.u ≠ 0) || !has (shapeP i.op) 3 && decide (i.heap ≠ HeapT.zero) ||
  !has (shapeP i.op) 4 && (i.null || i.null2 || decide (i.heap2 ≠ HeapT.zero)) || !has (shapeP i.op) 5 && decide (0 < i.types.length) || !has (shapeP i.op) 6 && decide (0 < i.labels.length) ||
  !has (shapeP i.op) 7 && decide (i.block ≠ BlockT.zero) || !has (shapeP i.op) 8 && decide (0 < i.catches.length)
def badV (i : InstrT) : Bool :=
  !idx i.x || !idx i.y || (shapeP i.op == 8) && decide (63 < i.x) || (shapeP i.op == 9) && decide (4294967296 ≤ i.u) || has (shapeP i.op) 3 && !plainH i.heap || has (shapeP i.op) 4 && !plainH i.heap2 || !i.types.all plainVal
def rMayCatch (c : CatchT) : Bool := !(decide (c.kind < 0) || decide (3 < c.kind) || !idx c.label || !idx c.tag || decide (1 < c.kind) && decide (c.tag ≠ 0))
def rMayBlock (b : BlockT) : Bool :=
  if b.kind = 0 then decide (b.n = 0) && decide (b.val = ValT.zero) else if b.kind = 1 then decide (b.n = 0) && plainVal b.val else if b.kind = 2 then idx b.n && decide (b.val = ValT.zero) else false
def rMay (i : InstrT) : Bool := if shapeP i.op = 0 then false else if badF i then false else if badV i then false else i.labels.all idx && i.catches.all rMayCatch && rMayBlock i.block
theorem rMayCatch_eq (c : CatchT) : rMayCatch c = mayCatch c := by
  rw [Bool.eq_iff_iff, mayCatch_iff]
  simp only [rMayCatch, Bool.not_eq_true', Bool.or_eq_false_iff, Bool.and_eq_false_iff, decide_eq_false_iff_not, Bool.not_eq_false', idx_iff]
  constructor
  · rintro ⟨⟨⟨⟨h1, h2⟩, h3⟩, h4⟩, h5⟩
    refine ⟨by omega, by omega, h3, ?_⟩
    split
    · exact h4
    · omega
  · rintro ⟨h1, h2, h3, h4⟩
    split at h4
    · exact ⟨⟨⟨⟨by omega, by omega⟩, h3⟩, h4⟩, .inl (by omega)⟩
    · exact ⟨⟨⟨⟨by omega, by omega⟩, h3⟩, by omega⟩, .inr (by omega)⟩
theorem rMayBlock_eq (b : BlockT) : rMayBlock b = mayBlock b := by
  obtain ⟨k, ⟨vk, vn, ⟨hk, hn⟩⟩, n⟩ := b
  unfold rMayBlock mayBlock
  dsimp only
  split
  · rename_i h
    subst h
    rw [Bool.eq_iff_iff]
    simp only [Bool.and_eq_true, decide_eq_true_eq, BlockT.mk.injEq, BlockT.zero, true_and]
    exact And.comm
  · split
    · exact Bool.and_comm _ _
    · split
      · exact Bool.and_comm _ _
      · rfl
theorem idx0 : idx 0 = true := rfl
theorem mayBlockZ : mayBlock BlockT.zero = true := rfl
theorem len0 {α : Type} (l : List α) : decide (0 < l.length) = !decide (l = []) := by cases l <;> simp
set_option maxHeartbeats 4000000 in
theorem rMay_eq (i : InstrT) : rMay i = mayI i := by
  unfold rMay
  by_cases h0 : shapeP i.op = 0
  · rw [if_pos h0]; unfold mayI; rw [if_pos h0]
  rw [if_neg h0]
  have hc := shape_cases i.op
  have hcat : i.catches.all rMayCatch = i.catches.all mayCatch := by rw [show rMayCatch = mayCatch from funext rMayCatch_eq]
  rw [hcat, rMayBlock_eq]
  clear hcat
  obtain ⟨op, x, y, u, hp, hp2, n1, n2, ts, ls, bl, cs⟩ := i
  dsimp only at h0 hc ⊢
  rcases hc with h | h | h | h | h | h | h | h | h | h | h | h
  · rw [may_of (j := ⟨op, x, y, u, hp, hp2, n1, n2, ts, ls, bl, cs⟩) h0 (part1 h)]
    unfold shNone at h
    have hl : hasL (shapeP op) = [false, false, false, false, false, false, false, false, false] := by
      unfold hasL
      repeat rw [if_neg (by omega)]
    have e8 : (shapeP op == 8) = false := by simp; omega
    have e9 : (shapeP op == 9) = false := by simp; omega
    (rw [Bool.eq_iff_iff]; simp only [badF, badV, InstrT.of, InstrT.mk.injEq, has, hl, e8, e9]; simp [len0, idx0]; constructor <;> intro hh <;> simp_all [mayBlockZ, idx0] <;> (try (simp only [idx_iff] at *; omega)))
  · have hp : mayPart ⟨op, x, y, u, hp, hp2, n1, n2, ts, ls, bl, cs⟩ = (idx x, ⟨op, 0, y, u, hp, hp2, n1, n2, ts, ls, bl, cs⟩) := by unfold mayPart; rw [if_pos h]
    rw [may_of h0 hp]
    clear hp
    rcases h with h | h
    · (rw [Bool.eq_iff_iff]; simp only [badF, badV, InstrT.of, InstrT.mk.injEq, has, hasL, h]; simp [len0, idx0]; constructor <;> intro hh <;> simp_all [mayBlockZ, idx0] <;> (try (simp only [idx_iff] at *; omega)))
    · (rw [Bool.eq_iff_iff]; simp only [badF, badV, InstrT.of, InstrT.mk.injEq, has, hasL, h]; simp [len0, idx0]; constructor <;> intro hh <;> simp_all [mayBlockZ, idx0] <;> (try (simp only [idx_iff] at *; omega)))
  · rw [may_of h0 (part7 h)]
    (rw [Bool.eq_iff_iff]; simp only [badF, badV, InstrT.of, InstrT.mk.injEq, has, hasL, h]; simp [len0, idx0]; constructor <;> intro hh <;> simp_all [mayBlockZ, idx0] <;> (try (simp only [idx_iff] at *; omega)))
  · rw [may_of h0 (part5 h)]
    (rw [Bool.eq_iff_iff]; simp only [badF, badV, InstrT.of, InstrT.mk.injEq, has, hasL, h]; simp [len0, idx0]; constructor <;> intro hh <;> simp_all [mayBlockZ, idx0] <;> (try (simp only [idx_iff] at *; omega)))
  · rw [may_of h0 (part8 h)]
    (rw [Bool.eq_iff_iff]; simp only [badF, badV, InstrT.of, InstrT.mk.injEq, has, hasL, h]; simp [len0, idx0]; constructor <;> intro hh <;> simp_all [mayBlockZ, idx0] <;> (try (simp only [idx_iff] at *; omega)))
  · rw [may_of h0 (part9 h)]
    (rw [Bool.eq_iff_iff]; simp only [badF, badV, InstrT.of, InstrT.mk.injEq, has, hasL, h]; simp [len0, idx0]; constructor <;> intro hh <;> simp_all [mayBlockZ, idx0] <;> (try (simp only [idx_iff] at *; omega)))
  · rw [may_of h0 (part10 h)]
    (rw [Bool.eq_iff_iff]; simp only [badF, badV, InstrT.of, InstrT.mk.injEq, has, hasL, h]; simp [len0, idx0]; constructor <;> intro hh <;> simp_all [mayBlockZ, idx0] <;> (try (simp only [idx_iff] at *; omega)))
  · rw [may_of h0 (part11 h)]
    (rw [Bool.eq_iff_iff]; simp only [badF, badV, InstrT.of, InstrT.mk.injEq, has, hasL, h]; simp [len0, idx0]; constructor <;> intro hh <;> simp_all [mayBlockZ, idx0] <;> (try (simp only [idx_iff] at *; omega)))
  · rw [may_of h0 (part12 h)]
    (rw [Bool.eq_iff_iff]; simp only [badF, badV, InstrT.of, InstrT.mk.injEq, has, hasL, h]; simp [len0, idx0]; constructor <;> intro hh <;> simp_all [mayBlockZ, idx0] <;> (try (simp only [idx_iff] at *; omega)))
  · rw [may_of h0 (part2 h)]
    (rw [Bool.eq_iff_iff]; simp only [badF, badV, InstrT.of, InstrT.mk.injEq, has, hasL, h]; simp [len0, idx0]; constructor <;> intro hh <;> simp_all [mayBlockZ, idx0] <;> (try (simp only [idx_iff] at *; omega)))
  · rw [may_of h0 (part3 h)]
    (rw [Bool.eq_iff_iff]; simp only [badF, badV, InstrT.of, InstrT.mk.injEq, has, hasL, h]; simp [len0, idx0]; constructor <;> intro hh <;> simp_all [mayBlockZ, idx0] <;> (try (simp only [idx_iff] at *; omega)))
  · rw [may_of h0 (part13 h)]
    (rw [Bool.eq_iff_iff]; simp only [badF, badV, InstrT.of, InstrT.mk.injEq, has, hasL, h]; simp [len0, idx0]; constructor <;> intro hh <;> simp_all [mayBlockZ, idx0] <;> (try (simp only [idx_iff] at *; omega)))
end Go.Proofs.YtokneepfknepaaaGreatDoor

set_option linter.unusedSimpArgs false
set_option linter.unusedVariables false
namespace Go.Proofs.YtokneepfknepaaaGreatDoor
/-- What is open behind an instruction, as opcodes, the innermost last. -/
def refNest (n : List Int) (op : Int) : Option (List Int) :=
  if op = 2 ∨ op = 3 ∨ op = 4 ∨ op = 31 then some (n ++ [op])
  else if op = 5 then (if n.getLast? = some 4 then some (n.dropLast ++ [5]) else none)
  else if op = 11 then (if n = [] then none else some n.dropLast)
  else some n
def opens (n : List Int) : List Bool := (n.map (fun o => o == 4)).reverse
theorem opens_snoc (n : List Int) (o : Int) : opens (n ++ [o]) = (o == 4) :: opens n := by simp [opens]
theorem opens_nil (n : List Int) : opens n = [] ↔ n = [] := by simp [opens]
theorem refNest_eq (n : List Int) (op : Int) : (refNest n op).map opens = stepN (opens n) op := by
  unfold refNest stepN
  by_cases h4 : op = 4
  · subst h4
    simp [opens_snoc]
  by_cases h1 : op = 2 ∨ op = 3 ∨ op = 31
  · rw [if_pos (by omega), if_pos h1]
    simp only [Option.map_some, opens_snoc]
    have : (op == 4) = false := by simp [h4]
    rw [this]
  rw [if_neg (by omega), if_neg h1, if_neg h4]
  rcases List.eq_nil_or_concat n with rfl | ⟨m, a, rfl⟩
  · by_cases h5 : op = 5
    · subst h5; simp [opens]
    · by_cases h11 : op = 11
      · subst h11; simp [opens]
      · simp [h5, h11, opens]
  · rw [List.concat_eq_append, opens_snoc]
    by_cases h5 : op = 5
    · subst h5
      by_cases ha : a = 4
      · subst ha
        simp [opens_snoc]
      · have : (a == 4) = false := by simp [ha]
        rw [this]
        simp [ha]
    · by_cases h11 : op = 11
      · subst h11; simp
      · simp [h5, h11, opens_snoc]
def refNestL : List Int → List InstrT → Option (List Int)
  | n, [] => some n
  | n, i :: l => match refNest n i.op with
    | some m => refNestL m l
    | none => none
theorem refNestL_eq : ∀ (l : List InstrT) (n : List Int), (refNestL n l).map opens = nestL (opens n) l
  | [], n => rfl
  | i :: l, n => by
    unfold refNestL nestL
    have h := refNest_eq n i.op
    cases h1 : refNest n i.op with
    | none => rw [h1] at h; simp only [Option.map_none] at h; rw [← h]; rfl
    | some m =>
      rw [h1] at h
      simp only [Option.map_some] at h
      rw [← h]
      exact refNestL_eq l m
theorem refNestL_nested (l : List InstrT) : nested l = decide (refNestL [] l = some []) := by
  unfold nested
  have h : nestL [] l = (refNestL [] l).map opens := (refNestL_eq l []).symm
  rw [h]
  cases refNestL [] l with
  | none => simp
  | some m =>
    simp only [Option.map_some]
    rw [Bool.eq_iff_iff, beq_iff_eq, decide_eq_true_eq, Option.some.injEq, Option.some.injEq, opens_nil]
theorem refNest_len {n m : List Int} {op : Int} (h : refNest n op = some m) : m.length ≤ n.length + 1 := by
  unfold refNest at h
  split at h
  · injection h with h; subst h; simp
  · split at h
    · split at h
      · injection h with h; subst h; simp <;> omega
      · cases h
    · split at h
      · split at h
        · cases h
        · injection h with h; subst h; simp <;> omega
      · injection h with h; subst h; omega
end Go.Proofs.YtokneepfknepaaaGreatDoor

set_option linter.unusedSimpArgs false
set_option linter.unusedVariables false
namespace Go.Proofs.YtokneepfknepaaaGreatDoor
open Go.RowKit

theorem SubR.zero (S : List Nat) (w : World) : SubR S w SubT.zero (.slice none 0 0) (.slice none 0 0) (.slice none 0 0) (.slice none 0 0) := ⟨Sl.nil _ _ _, Sl.nil _ _ _, Sl.nil _ _ _, Sl.nil _ _ _⟩

end Go.Proofs.YtokneepfknepaaaGreatDoor

set_option linter.unusedSimpArgs false
set_option linter.unusedVariables false
namespace Go.Proofs.YtokneepfknepaaaGreatDoor
open Go.RowKit

theorem SubsR.app {S : List Nat} {W w3 : World} {v v' : Value} {ts : List SubT} {cs : List Value} (h : SubsR (Value.blk v ++ S) W ts cs) (hf : Fr (Value.blk v) W w3) (hb : Value.blk v' = Value.blk v ∨ Value.blk v' = [W.heap.size]) : SubsR (Value.blk v' ++ S) w3 ts cs := by
  have h1 : SubsR (Value.blk v' ++ (Value.blk v ++ S)) W ts cs := h.sub (by
    intro b hlt hm
    rcases List.mem_append.1 hm with hm | hm
    · rcases hb with hb | hb
      · rw [hb] at hm; exact List.mem_append_left _ hm
      · rw [hb] at hm; simp at hm; omega
    · exact hm)
  have h2 := SubsR.fr hf (fun b _ hm => by simp [hm]) h1
  exact SubsR.sub (fun b _ hm => by
    rcases List.mem_append.1 hm with hm | hm <;> simp [hm]) h2

end Go.Proofs.YtokneepfknepaaaGreatDoor

set_option linter.unusedSimpArgs false
set_option linter.unusedVariables false
namespace Go.Proofs.YtokneepfknepaaaGreatDoor
open Go.RowKit

end Go.Proofs.YtokneepfknepaaaGreatDoor

set_option linter.unusedSimpArgs false
set_option linter.unusedVariables false
namespace Go.Proofs.YtokneepfknepaaaGreatDoor
open Go.RowKit

end Go.Proofs.YtokneepfknepaaaGreatDoor

set_option linter.unusedSimpArgs false
set_option linter.unusedVariables false
namespace Go.Proofs.YtokneepfknepaaaGreatDoor
open Go.RowKit

theorem SubR.ap {w w' : World} {v v' : Value} {t : SubT} {hv pv rv fv : Value} (h : SubR (Value.blk v) w t hv pv rv fv) (hA : Ap w v w' v') : SubR (Value.blk v') w' t hv pv rv fv :=
  ⟨h.1.ap hA, h.2.1.ap hA, h.2.2.1.ap hA, h.2.2.2.ap hA⟩
/-- The cells of a sub type. -/
def subC (t : SubT) (hv pv rv fv : Value) : List Value := [.bool t.final_, hv, .int .i64 t.comp.kind, pv, rv, fv]
theorem SubsR.get {S : List Nat} {w : World} : ∀ {ts : List SubT} {cs : List Value}, SubsR S w ts cs → ∀ (i : Nat) (t : SubT), ts[i]? = some t →
    ∃ hv pv rv fv, SubR S w t hv pv rv fv ∧ ∀ r, r < 6 → cs[i * 6 + r]? = (subC t hv pv rv fv)[r]?
  | [], _, _, i, t, ht => by simp at ht
  | a :: ts, _, ⟨hv, pv, rv, fv, rest, e, h1, h2⟩, 0, t, ht => by
    subst e
    simp only [List.getElem?_cons_zero, Option.some.injEq] at ht
    subst ht
    refine ⟨hv, pv, rv, fv, h1, fun r hr => ?_⟩
    match r, hr with
    | 0, _ | 1, _ | 2, _ | 3, _ | 4, _ | 5, _ => rfl
  | a :: ts, _, ⟨hv, pv, rv, fv, rest, e, h1, h2⟩, i + 1, t, ht => by
    subst e
    obtain ⟨hv', pv', rv', fv', h3, h4⟩ := SubsR.get h2 i t (by simpa using ht)
    refine ⟨hv', pv', rv', fv', h3, fun r hr => ?_⟩
    rw [← h4 r hr, show (i + 1) * 6 + r = (i * 6 + r) + 6 by omega]
    rfl
end Go.Proofs.YtokneepfknepaaaGreatDoor

set_option linter.unusedSimpArgs false
set_option linter.unusedVariables false
namespace Go.Proofs.YtokneepfknepaaaGreatDoor
open Go.RowKit

end Go.Proofs.YtokneepfknepaaaGreatDoor

set_option linter.unusedSimpArgs false
set_option linter.unusedVariables false
namespace Go.Proofs.YtokneepfknepaaaGreatDoor
open Go.RowKit

theorem putU_lt {n : Nat} (h : n < 128) : putU n = [UInt8.ofNat n] := by rw [putU, if_pos h]
theorem putU_ge {n : Nat} (h : ¬ n < 128) : putU n = UInt8.ofNat (n % 128 + 128) :: putU (n / 128) := by rw [putU, if_neg h]
theorem Out.made {w : World} {g : Nat} (hg : w.heap.size = g) (c : UInt8) {u : Value} (hu : u = B c) : Out (w.alloc (.cells #[u] 5)) (.slice (some ⟨g, 0, none⟩) 1 1) [c] := by
  subst hg hu
  exact Own.made (S := []) 5 1 1 [B c] (by simp) rfl (by intro u hu; simp at hu; subst hu; rfl) (by decide)
theorem newAt1 {w0 : World} {g : Nat} (hs : w0.heap.size ≤ g) (n c : Nat) : New w0 (.slice (some ⟨g, 0, none⟩) n c) := by intro b hb; simp [Value.blk] at hb; omega

set_option maxRecDepth 100000 in
set_option maxHeartbeats 800000 in
theorem refPutU_any (N : Nat) : ∀ (w : World), N < 18446744073709551616 →
    Calls Tryz.prog 58 #[.int .u64 N] w fun e w' => ∃ v, e = .returned v ∧ Out w' v (putU N) ∧ New w v ∧ Fr [] w w' := by
  induction N using Nat.strongRecOn with
  | _ N ih =>
    intro w hN
    have hsz := fun o => World.size_alloc w o
    by_cases hlt : N < 128
    · have hp := Lib.hid (putU_lt hlt)
      have hi : (N : Int) < 128 := by omega
      clear ih
      go_enter Tryz.func58, Tryz.ntmps58
      go_wp2
      go_ret
      rw [hp.out]
      exact ⟨_, rfl, Out.made rfl _ (B_small N (by omega)).symm, newAt1 (Nat.le_refl _) _ _, (Fr.refl _ _).alloc _⟩
    · have hp := Lib.hid (putU_ge hlt)
      have hi : ¬ (N : Int) < 128 := by omega
      have c : ∀ w', Calls Tryz.prog 58 #[.int .u64 ((N : Int) / 128)] w' fun e w'' => ∃ v, e = .returned v ∧ Out w'' v (putU (N / 128)) ∧ New w' v ∧ Fr [] w' w'' := fun w' => by
        have := ih (N / 128) (by omega) w' (by omega)
        rwa [show ((N / 128 : Nat) : Int) = (N : Int) / 128 by omega] at this
      have hl := putU_len (N / 128) (by omega)
      have hb : 1 + (putU (N / 128)).length ≤ 140737488355328 := by omega
      clear ih hl
      have Hc := Lib.hid c
      clear c
      have hO : Out (w.alloc (.cells #[.int .u8 ((N : Int) % 128 + 128)] 5)) (.slice (some ⟨w.heap.size, 0, none⟩) 1 1) [UInt8.ofNat (N % 128 + 128)] := Out.made rfl _ (by rw [B_small _ (by omega)]; congr 1)
      have f1 : Fr [] w (w.alloc (.cells #[.int .u8 ((N : Int) % 128 + 128)] 5)) := (Fr.refl _ _).alloc _
      go_enter Tryz.func58, Tryz.ntmps58
      go_wp2_with first | (go_at_call 58; refine (Hc.out _).mono ?_; rintro e w1 ⟨v1, rfl, ho1, hn1, hf1⟩; have hO1 := hO.fr0 hf1) | (at_builtin; refine app_u8 rfl (.tmp 12) (.tmp 15) _ rfl _ _ _ rfl hO1 _ _ _ rfl ((Own.sl ho1 (S' := []) (by simp)).src und_bytes) hb ?_; intro v2 w2 hown2 hf2 hb2)
      go_ret
      rw [hp.out]
      have f2 := f1.trans hf1
      have hnew : New w (.slice (some ⟨w.heap.size, 0, none⟩) 1 1) := newAt1 (Nat.le_refl _) _ _
      exact ⟨_, rfl, Out.app (xs := [_]) hown2, hnew.app hb2 f2.size, f2.app hf2 hnew⟩

theorem tdiv128 (n : Int) : n.tdiv 128 = if 0 ≤ n then n / 128 else -((-n) / 128) := by
  split
  · rename_i h
    exact Int.tdiv_eq_ediv_of_nonneg h
  · have h1 := Int.neg_tdiv (-n) 128
    rw [Int.neg_neg] at h1
    rw [h1, Int.tdiv_eq_ediv_of_nonneg (by omega)]
theorem tmod128 (n : Int) : n.tmod 128 = n - 128 * n.tdiv 128 := Int.tmod_def n 128
theorem less_eq (n : Int) (h : n < 0) (q : (n.tmod 128 != 0) = true) : n.tdiv 128 - n / 128 = 1 := by
  have : n.tmod 128 ≠ 0 := by simpa using q
  rw [tmod128, tdiv128, if_neg (by omega)] at this
  rw [tdiv128, if_neg (by omega)]
  omega
theorem less_eq0 (n : Int) (h : n < 0) (q : (n.tmod 128 != 0) = false) : n.tdiv 128 - n / 128 = 0 := by
  have : n.tmod 128 = 0 := by simpa using q
  rw [tmod128, tdiv128, if_neg (by omega)] at this
  rw [tdiv128, if_neg (by omega)]
  omega
theorem less_eqp (n : Int) (h : 0 ≤ n) : n.tdiv 128 - n / 128 = 0 := by
  rw [tdiv128, if_pos h]
  omega
theorem u64mod (n : Int) : (IntKind.u64.wrap n).tmod 128 = n % 128 := by
  have h : IntKind.u64.wrap n = n % 18446744073709551616 := rfl
  rw [h, Int.tmod_eq_emod_of_nonneg (by omega)]
  omega

set_option maxRecDepth 100000 in
set_option maxHeartbeats 400000 in
theorem refLess_any (w : World) (n : Int) : Calls Tryz.prog 93 #[.int .i64 n] w fun e w' => ∃ d, e = .returned (.int .i64 d) ∧ n.tdiv 128 - d = n / 128 ∧ w' = w := by
  go_enter Tryz.func93, Tryz.ntmps93
  go_wp2
  all_goals
    go_ret
    refine ⟨_, rfl, ?_, rfl⟩
    first | (have := less_eq n (by assumption) (by assumption); omega) | (have := less_eq0 n (by assumption) (by assumption); omega) | (have := less_eqp n (by assumption); omega)

theorem refLess_pos (w : World) (n : Int) (h : 0 ≤ n) : Calls Tryz.prog 93 #[.int .i64 n] w fun e w' => e = .returned (.int .i64 0) ∧ w' = w :=
  (refLess_any w n).mono fun e w' hq => by
    obtain ⟨d, rfl, hd, rfl⟩ := hq
    rw [tdiv128, if_pos h] at hd
    exact ⟨by rw [show d = 0 by omega], rfl⟩

set_option maxRecDepth 100000 in
set_option maxHeartbeats 800000 in
theorem refPutS_any (k : Nat) : ∀ (n : Int) (w : World), n.natAbs ≤ k → -9223372036854775808 ≤ n → n < 9223372036854775808 →
    Calls Tryz.prog 59 #[.int .i64 n] w fun e w' => ∃ v, e = .returned v ∧ Out w' v (putS n) ∧ New w v ∧ Fr [] w w' := by
  induction k using Nat.strongRecOn with
  | _ k ih =>
    intro n w hk h0 h1
    have hsz := fun o => World.size_alloc w o
    have hu := u64mod n
    by_cases hlt : -64 ≤ n ∧ n < 64
    · obtain ⟨g1, g2⟩ := hlt
      have hp := Lib.hid (putS_small n g1 g2)
      clear ih
      go_enter Tryz.func59, Tryz.ntmps59
      go_wp2
      go_ret
      rw [hp.out]
      refine ⟨_, rfl, Out.made rfl _ ?_, newAt1 (Nat.le_refl _) _ _, (Fr.refl _ _).alloc _⟩
      rw [B_small _ (by omega)]
      exact congrArg (Value.int .u8) (by omega)
    · have hbig : n < -64 ∨ 64 ≤ n := by omega
      have hp := Lib.hid (putS_big n hbig)
      have c : ∀ w', Calls Tryz.prog 59 #[.int .i64 (n / 128)] w' fun e w'' => ∃ v, e = .returned v ∧ Out w'' v (putS (n / 128)) ∧ New w' v ∧ Fr [] w' w'' := fun w' => by
        exact ih (n / 128).natAbs (by omega) (n / 128) w' (Nat.le_refl _) (by omega) (by omega)
      have hO : Out (w.alloc (.cells #[.int .u8 (n % 128 + 128)] 5)) (.slice (some ⟨w.heap.size, 0, none⟩) 1 1) [UInt8.ofNat ((n % 128).toNat + 128)] := Out.made rfl _ (by rw [B_small _ (by omega)]; exact congrArg (Value.int .u8) (by omega))
      have f1 : Fr [] w (w.alloc (.cells #[.int .u8 (n % 128 + 128)] 5)) := (Fr.refl _ _).alloc _
      have hnew : New w (.slice (some ⟨w.heap.size, 0, none⟩) 1 1) := newAt1 (Nat.le_refl _) _ _
      have hl := putS_len (n / 128) (by omega) (by omega)
      have hb : 1 + (putS (n / 128)).length ≤ 140737488355328 := by omega
      clear ih hl
      have Hc := Lib.hid c
      clear c
      rcases hbig with g | g
      · go_enter Tryz.func59, Tryz.ntmps59
        go_wp2_with first | (go_at_call 93; refine (refLess_any _ n).mono ?_; rintro e w1 ⟨d, rfl, hd, rfl⟩) | (go_at_call 59; (try rw [hd]); (with_reducible refine (Hc.out _).mono ?_); rintro e w1 ⟨v1, rfl, ho1, hn1, hf1⟩; have hO1 := hO.fr0 hf1) | (at_builtin; refine app_u8 rfl (.tmp 22) (.tmp 28) _ rfl _ _ _ rfl hO1 _ _ _ rfl ((Own.sl ho1 (S' := []) (by simp)).src und_bytes) hb ?_; intro v2 w2 hown2 hf2 hb2)
        go_ret
        rw [hp.out]
        have f2 := f1.trans hf1
        exact ⟨_, rfl, Out.app (xs := [_]) hown2, hnew.app hb2 f2.size, f2.app hf2 hnew⟩
      · go_enter Tryz.func59, Tryz.ntmps59
        go_wp2_with first | (go_at_call 93; refine (refLess_pos _ n (by omega)).mono ?_; rintro e w1 ⟨rfl, rfl⟩) | (go_at_call 59; (with_reducible refine (Hc.out _).mono ?_); rintro e w1 ⟨v1, rfl, ho1, hn1, hf1⟩; have hO1 := hO.fr0 hf1) | (at_builtin; refine app_u8 rfl (.tmp 22) (.tmp 28) _ rfl _ _ _ rfl hO1 _ _ _ rfl ((Own.sl ho1 (S' := []) (by simp)).src und_bytes) hb ?_; intro v2 w2 hown2 hf2 hb2)
        go_ret
        rw [hp.out]
        have f2 := f1.trans hf1
        exact ⟨_, rfl, Out.app (xs := [_]) hown2, hnew.app hb2 f2.size, f2.app hf2 hnew⟩

set_option maxRecDepth 100000 in
set_option maxHeartbeats 1600000 in
theorem refGiven_any (w : World) (c : Nat) (hc : c < 256) : Calls Tryz.prog 94 #[.int .u8 c] w fun e w' => e = .returned (.int .i64 (givenK c)) ∧ w' = w := by
  by_cases h : 105 ≤ c ∧ c ≤ 116
  · obtain ⟨h1, h2⟩ := h
    rcases (show c = 105 ∨ c = 106 ∨ c = 107 ∨ c = 108 ∨ c = 109 ∨ c = 110 ∨ c = 111 ∨ c = 112 ∨ c = 113 ∨ c = 114 ∨ c = 115 ∨ c = 116 by omega) with h | h | h | h | h | h | h | h | h | h | h | h
    all_goals
      subst h
      go_enter Tryz.func94, Tryz.ntmps94
      go_wp2
      go_ret
      exact ⟨rfl, rfl⟩
  · have hk : givenK c = 0 := by
      unfold givenK
      rw [if_pos (by omega)]
    rw [hk]
    have g : ∀ k : Int, 105 ≤ k → k ≤ 116 → ((c : Int) == k) = false := by
      intro k h1 h2
      simp
      omega
    have g5 := g 105 (by decide) (by decide)
    have g6 := g 106 (by decide) (by decide)
    have g7 := g 107 (by decide) (by decide)
    have g8 := g 108 (by decide) (by decide)
    have g9 := g 109 (by decide) (by decide)
    have g10 := g 110 (by decide) (by decide)
    have g11 := g 111 (by decide) (by decide)
    have g12 := g 112 (by decide) (by decide)
    have g13 := g 113 (by decide) (by decide)
    have g14 := g 114 (by decide) (by decide)
    have g15 := g 115 (by decide) (by decide)
    have g16 := g 116 (by decide) (by decide)
    clear g hk h
    go_enter Tryz.func94, Tryz.ntmps94
    go_wp2
    go_ret
    exact ⟨rfl, rfl⟩
end Go.Proofs.YtokneepfknepaaaGreatDoor

set_option linter.unusedSimpArgs false
set_option linter.unusedVariables false
namespace Go.Proofs.YtokneepfknepaaaGreatDoor
open Go.RowKit

def refH (h : HeapT) : Bool := givenH h || indexedH h

set_option maxRecDepth 100000 in
set_option maxHeartbeats 800000 in
theorem refHeap_any (w : World) (h : HeapT) : Calls Tryz.prog 73 #[heapV h] w fun e w' => e = .returned (.bool (refH h)) ∧ Fr [] w w' := by
  obtain ⟨k, n⟩ := h
  unfold heapV
  dsimp only
  go_enter Tryz.func73, Tryz.ntmps73
  go_wp2
  all_goals
    go_ret
    refine ⟨congrArg (fun x => Ending.returned (Value.bool x)) ?_, by repeat (first | (with_reducible exact Fr.refl _ _) | (with_reducible assumption) | (with_reducible apply Fr.alloc) | (with_reducible apply Fr.drew) | (with_reducible apply Fr.drewN) | (with_reducible refine Fr.setCell ?_ (by first | (left; simp; done) | (right; simp; done) | (right; simp; omega)) _))⟩
    simp only [beq_iff_eq, beq_eq_false_iff_ne, decide_eq_true_eq, decide_eq_false_iff_not] at *
    rw [Bool.eq_iff_iff]
    simp [refH, givenH, indexedH]
    omega

theorem plainVal_ref (k : Int) (nl : Bool) (hk hn : Int) : plainVal ⟨k, nl, ⟨hk, hn⟩⟩ = if k = 3 then refH ⟨hk, hn⟩ else ((k == 1 || k == 2) && !nl && hk == 0 && hn == 0) := by
  unfold plainVal refH
  dsimp only
  by_cases h : k = 1 ∨ k = 2
  · rw [if_pos h, if_neg (by omega), Bool.eq_iff_iff]
    rcases h with rfl | rfl <;> simp [and_assoc]
  · rw [if_neg h]
    split
    · rfl
    · have h1 : (k == 1) = false := by simp; omega
      have h2 : (k == 2) = false := by simp; omega
      rw [h1, h2]
      rfl

set_option maxRecDepth 100000 in
set_option maxHeartbeats 800000 in
theorem refVal_any (w : World) (t : ValT) : Calls Tryz.prog 39 #[valV t] w fun e w' => e = .returned (.bool (plainVal t)) ∧ Fr [] w w' := by
  obtain ⟨k, nl, ⟨hk, hn⟩⟩ := t
  unfold valV
  dsimp only
  have f0 : Fr [] w (w.alloc (.cells #[.int .i64 k, .bool nl, .int .i64 hk, .int .i64 hn] 39)) := (Fr.refl _ _).alloc _
  go_enter Tryz.func39, Tryz.ntmps39
  go_wp2_with (go_at_call 73; refine (refHeap_any _ ⟨hk, hn⟩).mono ?_; rintro e w1 ⟨rfl, hf1⟩; generalize hb1 : refH ⟨hk, hn⟩ = b1; have Hb1 := Lib.hid hb1; clear hb1)
  all_goals
    go_ret
    refine ⟨congrArg (fun x => Ending.returned (Value.bool x)) ?_, by first | exact f0.trans hf1 | repeat (first | (with_reducible exact Fr.refl _ _) | (with_reducible assumption) | (with_reducible apply Fr.alloc) | (with_reducible apply Fr.drew) | (with_reducible apply Fr.drewN) | (with_reducible refine Fr.setCell ?_ (by first | (left; simp; done) | (right; simp; done) | (right; simp; omega)) _))⟩
    rw [plainVal_ref]
    first
      | (rw [Hb1.out]; simp_all; done)
      | (simp_all; done)
      | trace_state

set_option maxRecDepth 100000 in
set_option maxHeartbeats 800000 in
theorem refVals_any (w : World) (v : Value) (ts : List ValT) (h : Sl [] w 4 v ts.length (ts.flatMap valC)) (hl : ts.length ≤ 1099511627776) :
    Calls Tryz.prog 38 #[v] w fun e w' => e = .returned (.bool (ts.all plainVal)) ∧ Fr [] w w' := by
  have hh := h
  obtain ⟨_, _, a, cap, rfl, _⟩ := h
  go_enter Tryz.func38, Tryz.ntmps38
  go_wp2
  go_loopw [3] (fun n wr => ∃ (i : Nat), n = .int .i64 i ∧ i ≤ ts.length ∧ Fr [] w wr ∧ Hid ((ts.take i).all plainVal = true)) (fun n _ => ts.length - (intOf n).toNat)
  case atStart => exact ⟨0, rfl, by omega, Fr.refl _ _, Lib.hid rfl⟩
  case round =>
    obtain ⟨i, rfl, hi, hF, hall⟩ := hrel
    by_cases hlt : i < ts.length
    · obtain ⟨x, hx⟩ : ∃ t, ts[i]? = some t := ⟨ts[i], by simp [hlt]⟩
      obtain ⟨b1, o1, p1, hv1, hb1, _, hd1⟩ := Sl.elem hh (fun _ => rfl) i x hx
      injection hv1 with e1 _ e1c
      subst e1 e1c
      have f10 := (hF.cell hb1 (by simp) _).trans (hd1 0 (by decide))
      have f11 := (hF.cell hb1 (by simp) _).trans (hd1 1 (by decide))
      have f12 := (hF.cell hb1 (by simp) _).trans (hd1 2 (by decide))
      have f13 := (hF.cell hb1 (by simp) _).trans (hd1 3 (by decide))
      clear hd1
      simp only [Nat.add_zero, ← Nat.add_assoc, valC, List.getElem?_cons_zero, List.getElem?_cons_succ] at f10 f11 f12 f13
      have i1 : (i : Int) < (ts.length : Int) := by omega
      have Hx := Lib.hid hx
      clear hx
      go_wp2_with (go_at_call 39; refine (refVal_any _ x).mono ?_; rintro e w1 ⟨rfl, hf1⟩; generalize hb1 : plainVal x = b1; have Hb1 := Lib.hid hb1; clear hb1)
      · have hne : ts.all plainVal = false := by
          apply Bool.eq_false_iff.2
          intro hc
          have := List.all_eq_true.1 hc x (List.mem_of_getElem? Hx.out)
          rw [Hb1.out] at this
          simp_all
        go_ret
        exact ⟨by rw [hne]; rfl, hF.trans hf1⟩
      · go_roundw
        case rel =>
          refine ⟨i + 1, by go_num, by omega, hF.trans hf1, Lib.hid ?_⟩
          rw [take_one ts i x Hx.out, List.all_append, hall.out]
          have := Hb1.out
          simp_all
        case measure => simp [intOf]; omega
    · have hk : i = ts.length := by omega
      subst hk
      have hallP : ts.all plainVal = true := by simpa using hall.out
      have HP := Lib.hid hallP
      clear hallP hall
      have i1 : ¬ (ts.length : Int) < (ts.length : Int) := by omega
      go_wp2
      go_ret
      exact ⟨by rw [HP.out]; rfl, hF⟩

end Go.Proofs.YtokneepfknepaaaGreatDoor

set_option linter.unusedSimpArgs false
set_option linter.unusedVariables false
namespace Go.Proofs.YtokneepfknepaaaGreatDoor
open Go.RowKit

theorem given_some {k : Int} (h1 : 1 ≤ k) (h2 : k ≤ 12) : ∃ j, j < 256 ∧ givenK j = k := by
  rcases (show k = 1 ∨ k = 2 ∨ k = 3 ∨ k = 4 ∨ k = 5 ∨ k = 6 ∨ k = 7 ∨ k = 8 ∨ k = 9 ∨ k = 10 ∨ k = 11 ∨ k = 12 by omega) with h | h | h | h | h | h | h | h | h | h | h | h
  all_goals subst h
  · exact ⟨110, by decide, by decide⟩
  · exact ⟨109, by decide, by decide⟩
  · exact ⟨108, by decide, by decide⟩
  · exact ⟨107, by decide, by decide⟩
  · exact ⟨106, by decide, by decide⟩
  · exact ⟨113, by decide, by decide⟩
  · exact ⟨112, by decide, by decide⟩
  · exact ⟨115, by decide, by decide⟩
  · exact ⟨111, by decide, by decide⟩
  · exact ⟨114, by decide, by decide⟩
  · exact ⟨105, by decide, by decide⟩
  · exact ⟨116, by decide, by decide⟩

set_option maxRecDepth 100000 in
set_option maxHeartbeats 1600000 in
theorem refPutHeap_any (w : World) (h : HeapT) (hp : refH h = true) :
    Calls Tryz.prog 62 #[heapV h] w fun e w' => ∃ v', e = .returned v' ∧ Out w' v' (pHeap h) ∧ New w v' ∧ Fr [] w w' := by
  obtain ⟨k, n⟩ := h
  have hb : (k = 13 ∧ 0 ≤ n ∧ n ≤ 4294967295) ∨ (1 ≤ k ∧ k ≤ 12 ∧ n = 0) := by
    simp only [refH, givenH, indexedH, Bool.or_eq_true, decide_eq_true_eq] at hp
    omega
  unfold heapV
  dsimp only
  have f0 : Fr [] w (w.alloc (.cells #[.int .i64 k, .int .i64 n] 34)) := (Fr.refl _ _).alloc _
  have hL0 : Loc (w.alloc (.cells #[.int .i64 k, .int .i64 n] 34)) w.heap.size [.int .i64 k, .int .i64 n] 34 := Loc.new _ _ _
  clear hp
  rcases hb with ⟨rfl, n1, n2⟩ | ⟨k1, k2, rfl⟩
  · have hP : pHeap ⟨13, n⟩ = putS n := by simp [pHeap]
    have HP := Lib.hid hP
    clear hP
    go_enter Tryz.func62, Tryz.ntmps62
    go_wp2_with (go_at_call 59; refine (refPutS_any n.natAbs n _ (Nat.le_refl _) (by omega) (by omega)).mono ?_; rintro e w1 ⟨v1, rfl, ho1, hn1, hf1⟩)
    go_ret
    exact ⟨v1, rfl, by rw [HP.out]; exact ho1, hn1.mono f0.size, f0.trans hf1⟩
  · have hP : pHeap ⟨k, 0⟩ = heapByte k := by
      unfold pHeap
      rw [if_neg (by simp only; omega)]
    have HP := Lib.hid hP
    have hS := given_some k1 k2
    have HS := Lib.hid hS
    have g13 : (k == 13) = false := by simp; omega
    have hk0 := Lib.hid (show k ≠ 0 by omega)
    clear hP hS
    go_enter Tryz.func62, Tryz.ntmps62
    go_wp2
    go_loopw [3] (fun m wr => ∃ (i : Nat), m = .int .i64 i ∧ i ≤ 256 ∧ Fr [] (w.alloc (.cells #[.int .i64 k, .int .i64 0] 34)) wr ∧ Hid (∀ j, j < i → givenK j ≠ k)) (fun m _ => 256 - (intOf m).toNat)
    case atStart => exact ⟨0, rfl, by omega, Fr.refl _ _, Lib.hid (fun j hj => by omega)⟩
    case round =>
      obtain ⟨i, rfl, hi, hF, hall⟩ := hrel
      have hL := hL0.fr hF (by simp)
      have hFw := f0.trans hF
      have hLC0 := hL.cell; have hLF0 := hL.frz; have hLT0 := hL.lt
      by_cases hlt : i < 256
      · have i1 : (i : Int) < 256 := by omega
        have i2 : (i : Int) % 256 = i := by omega
        have cG : ∀ w', Calls Tryz.prog 94 #[.int .u8 (IntKind.u8.wrap i)] w' fun e w'' => e = .returned (.int .i64 (givenK i)) ∧ w'' = w' := fun w' => by
          rw [show IntKind.u8.wrap (i : Int) = (i : Int) from i2]
          exact refGiven_any w' i hlt
        have HG := Lib.hid cG
        clear cG
        go_wp2_with fail
        go_region_held3? (fun w' => w'.cell? ⟨w.heap.size, 0, none⟩ = some (.int .i64 k))
          (first | (go_keep; done))
          (first | (go_at_call 94; (with_reducible refine (HG.out _).mono ?_); rintro e w1 ⟨rfl, hw1⟩; have hw2 := hw1.symm; subst hw2))
        by_cases hq : givenK i = k
        · have gq : (givenK i == k) = true := by simpa using hq
          have hB : heapByte k = [UInt8.ofNat i] := by rw [← hq]; exact (givenK_facts (by rw [hq]; exact hk0.out)).2.2.1
          have HB := Lib.hid hB
          clear hB hq
          go_wp2
          go_ret
          rw [HP.out, HB.out]
          have f1 := hFw.drewN 1
          exact ⟨_, rfl, Out.made rfl _ (by rw [B_small _ (by omega)]), newAt1 hFw.size _ _, by repeat (first | (with_reducible exact Fr.refl _ _) | (with_reducible assumption) | (with_reducible apply Fr.alloc) | (with_reducible apply Fr.drew) | (with_reducible apply Fr.drewN) | (with_reducible refine Fr.setCell ?_ (by first | (left; simp; done) | (right; simp; done) | (right; simp; omega)) _))⟩
        · have gq : (givenK i == k) = false := by simpa using hq
          have Hq := Lib.hid hq
          clear hq
          go_wp2
          go_roundw
          case rel =>
            refine ⟨i + 1, by go_num, by omega, by repeat (first | (with_reducible exact Fr.refl _ _) | (with_reducible assumption) | (with_reducible apply Fr.alloc) | (with_reducible apply Fr.drew) | (with_reducible apply Fr.drewN) | (with_reducible refine Fr.setCell ?_ (by first | (left; simp; done) | (right; simp; done) | (right; simp; omega)) _)), Lib.hid fun j hj => ?_⟩
            by_cases hji : j = i
            · rw [hji]; exact Hq.out
            · exact hall.out j (by omega)
          case measure => simp [intOf]; omega
      · have hk : i = 256 := by omega
        subst hk
        exfalso
        obtain ⟨j, hj, hgj⟩ := HS.out
        exact hall.out j hj hgj

theorem heapOk_of {h : HeapT} (hp : refH h = true) : h.ok := by
  simp only [refH, Bool.or_eq_true] at hp
  rcases hp with hp | hp
  · exact HeapT.ok_given hp
  · exact HeapT.ok_indexed hp
theorem pHeap_len' {h : HeapT} (hp : refH h = true) : (pHeap h).length ≤ 12 := by
  obtain ⟨_, h1, h2⟩ := heapOk_of hp
  exact pHeap_len h h1 h2

set_option maxRecDepth 100000 in
set_option maxHeartbeats 1600000 in
theorem refPutVal_any (w : World) (t : ValT) (hp : plainVal t = true) :
    Calls Tryz.prog 61 #[valV t] w fun e w' => ∃ v', e = .returned v' ∧ Out w' v' (pVal t) ∧ New w v' ∧ Fr [] w w' := by
  obtain ⟨k, nl, ⟨hk, hn⟩⟩ := t
  unfold valV
  dsimp only
  rw [plainVal_ref] at hp
  have f0 : Fr [] w (w.alloc (.cells #[.int .i64 k, .bool nl, .int .i64 hk, .int .i64 hn] 39)) := (Fr.refl _ _).alloc _
  have hL0 : Loc (w.alloc (.cells #[.int .i64 k, .bool nl, .int .i64 hk, .int .i64 hn] 39)) w.heap.size [.int .i64 k, .bool nl, .int .i64 hk, .int .i64 hn] 39 := Loc.new _ _ _
  have hs0 : w.heap.size ≤ (w.alloc (.cells #[.int .i64 k, .bool nl, .int .i64 hk, .int .i64 hn] 39)).heap.size := f0.size
  by_cases q1 : k = 1
  · subst q1
    go_enter Tryz.func61, Tryz.ntmps61
    go_wp2
    go_ret
    exact ⟨_, rfl, Out.made (by simp) 127 rfl, newAt1 (by omega) _ _, by repeat (first | (with_reducible exact Fr.refl _ _) | (with_reducible assumption) | (with_reducible apply Fr.alloc) | (with_reducible apply Fr.drew) | (with_reducible apply Fr.drewN) | (with_reducible refine Fr.setCell ?_ (by first | (left; simp; done) | (right; simp; done) | (right; simp; omega)) _))⟩
  · by_cases q2 : k = 2
    · subst q2
      go_enter Tryz.func61, Tryz.ntmps61
      go_wp2
      go_ret
      exact ⟨_, rfl, Out.made (by simp) 126 rfl, newAt1 (by omega) _ _, by repeat (first | (with_reducible exact Fr.refl _ _) | (with_reducible assumption) | (with_reducible apply Fr.alloc) | (with_reducible apply Fr.drew) | (with_reducible apply Fr.drewN) | (with_reducible refine Fr.setCell ?_ (by first | (left; simp; done) | (right; simp; done) | (right; simp; omega)) _))⟩
    · have g1 : (k == 1) = false := by simpa using q1
      have g2 : (k == 2) = false := by simpa using q2
      have q3 : k = 3 := by
        apply Classical.byContradiction
        intro q3
        rw [if_neg q3, g1, g2] at hp
        simp at hp
      subst q3
      rw [if_pos rfl] at hp
      have c := fun w' => refPutHeap_any w' ⟨hk, hn⟩ hp
      have hb : 1 + (pHeap ⟨hk, hn⟩).length ≤ 140737488355328 := by have := pHeap_len' hp; omega
      have HC := Lib.hid c
      clear c g1 g2 q1 q2 hp
      cases nl
      · have hO : ∀ w0 : World, w0.heap.size = w.heap.size + 1 → Out (w0.alloc (.cells #[.int .u8 100] 5)) (.slice (some ⟨w.heap.size + 1, 0, none⟩) 1 1) [100] := fun w0 hw0 => Out.made hw0 _ rfl
        have hnew : New w (.slice (some ⟨w.heap.size + 1, 0, none⟩) 1 1) := newAt1 (by omega) _ _
        have hO0 := hO (w.alloc (.cells #[.int .i64 3, .bool false, .int .i64 hk, .int .i64 hn] 39)) (by simp)
        have f1 := f0.alloc (.cells #[.int .u8 100] 5)
        have hP : pVal ⟨3, false, ⟨hk, hn⟩⟩ = 100 :: pHeap ⟨hk, hn⟩ := by simp [pVal]
        have HP := Lib.hid hP
        clear hP hO
        go_enter Tryz.func61, Tryz.ntmps61
        go_wp2_with first | (go_at_call 62; refine (HC.out _).mono ?_; rintro e w1 ⟨v1, rfl, ho1, hn1, hf1⟩; have hO1 := hO0.fr0 hf1) | (at_builtin; refine app_u8 rfl (.tmp 26) (.tmp 29) _ rfl _ _ _ rfl hO1 _ _ _ rfl ((Own.sl ho1 (S' := []) (by simp)).src und_bytes) hb ?_; intro v2 w2 hown2 hf2 hb2)
        go_ret
        rw [HP.out]
        have f2 := f1.trans hf1
        exact ⟨_, rfl, Out.app (xs := [_]) hown2, hnew.app hb2 f2.size, f2.app hf2 hnew⟩
      · by_cases q13 : hk = 13
        · subst q13
          have hO : ∀ w0 : World, w0.heap.size = w.heap.size + 1 → Out (w0.alloc (.cells #[.int .u8 99] 5)) (.slice (some ⟨w.heap.size + 1, 0, none⟩) 1 1) [99] := fun w0 hw0 => Out.made hw0 _ rfl
          have hnew : New w (.slice (some ⟨w.heap.size + 1, 0, none⟩) 1 1) := newAt1 (by omega) _ _
          have hO0 := hO (w.alloc (.cells #[.int .i64 3, .bool true, .int .i64 13, .int .i64 hn] 39)) (by simp)
          have f1 := f0.alloc (.cells #[.int .u8 99] 5)
          have hP : pVal ⟨3, true, ⟨13, hn⟩⟩ = 99 :: pHeap ⟨13, hn⟩ := by simp [pVal]
          have HP := Lib.hid hP
          clear hP hO
          go_enter Tryz.func61, Tryz.ntmps61
          go_wp2_with first | (go_at_call 62; refine (HC.out _).mono ?_; rintro e w1 ⟨v1, rfl, ho1, hn1, hf1⟩; have hO1 := hO0.fr0 hf1) | (at_builtin; refine app_u8 rfl (.tmp 26) (.tmp 29) _ rfl _ _ _ rfl hO1 _ _ _ rfl ((Own.sl ho1 (S' := []) (by simp)).src und_bytes) hb ?_; intro v2 w2 hown2 hf2 hb2)
          go_ret
          rw [HP.out]
          have f2 := f1.trans hf1
          exact ⟨_, rfl, Out.app (xs := [_]) hown2, hnew.app hb2 f2.size, f2.app hf2 hnew⟩
        · have g13 : (hk == 13) = false := by simpa using q13
          have g13' : (hk != 13) = true := by simpa using q13
          have hP : pVal ⟨3, true, ⟨hk, hn⟩⟩ = pHeap ⟨hk, hn⟩ := by simp [pVal, q13]
          have HP := Lib.hid hP
          clear hP q13
          go_enter Tryz.func61, Tryz.ntmps61
          go_wp2_with (go_at_call 62; refine (HC.out _).mono ?_; rintro e w1 ⟨v1, rfl, ho1, hn1, hf1⟩)
          go_ret
          rw [HP.out]
          exact ⟨_, rfl, ho1, hn1.mono f0.size, f0.trans hf1⟩

set_option maxRecDepth 100000 in
set_option maxHeartbeats 1600000 in
theorem refPutVals_any (w : World) (v : Value) (ts : List ValT) (h : Sl [] w 4 v ts.length (ts.flatMap valC)) (hl : ts.length ≤ 1099511627776) (hp : ts.all plainVal = true) :
    Calls Tryz.prog 60 #[v] w fun e w' => ∃ v', e = .returned v' ∧ Out w' v' (pList pVal ts) ∧ New w v' ∧ Fr [] w w' := by
  have hh := h
  obtain ⟨_, _, a, cap, rfl, _⟩ := h
  have hok : ∀ x, x ∈ ts → x.heap.ok := fun x hx => plainVal_ok (List.all_eq_true.1 hp x hx)
  have hlen := flat_len pVal 13 ts (fun t ht => pVal_len t (hok t ht))
  have hU := fun w' => refPutU_any ts.length w' (by omega)
  have hUl := putU_len ts.length (by omega)
  have HU := Lib.hid hU
  have Hp := Lib.hid hp
  have Hok := Lib.hid hok
  clear hU hp hok
  go_enter Tryz.func60, Tryz.ntmps60
  go_wp2_with (go_at_call 58; refine (HU.out _).mono ?_; rintro e w1 ⟨v1, rfl, ho1, hn1, hf1⟩)
  go_loopw [3, 4] (fun b n wr => ∃ (i : Nat), n = .int .i64 i ∧ i ≤ ts.length ∧ Fr [] w wr ∧ Out wr b (putU ts.length ++ (ts.take i).flatMap pVal) ∧ New w b) (fun _ n _ => ts.length - (intOf n).toNat)
  case atStart => exact ⟨0, rfl, by omega, hf1, by simpa using ho1, hn1⟩
  case round =>
    obtain ⟨i, rfl, hi, hF, hoR, hnR⟩ := hrel
    by_cases hlt : i < ts.length
    · obtain ⟨x, hx⟩ : ∃ t, ts[i]? = some t := ⟨ts[i], by simp [hlt]⟩
      obtain ⟨b1, o1, p1, hv1, hb1, _, hd1⟩ := Sl.elem hh (fun _ => rfl) i x hx
      injection hv1 with e1 _ e1c
      subst e1 e1c
      have f10 := (hF.cell hb1 (by simp) _).trans (hd1 0 (by decide))
      have f11 := (hF.cell hb1 (by simp) _).trans (hd1 1 (by decide))
      have f12 := (hF.cell hb1 (by simp) _).trans (hd1 2 (by decide))
      have f13 := (hF.cell hb1 (by simp) _).trans (hd1 3 (by decide))
      clear hd1
      simp only [Nat.add_zero, ← Nat.add_assoc, valC, List.getElem?_cons_zero, List.getElem?_cons_succ] at f10 f11 f12 f13
      have i1 : (i : Int) < (ts.length : Int) := by omega
      have hpx := List.all_eq_true.1 Hp.out x (List.mem_of_getElem? hx)
      have c := fun w' => refPutVal_any w' x hpx
      have HC := Lib.hid c
      have hxl := pVal_len x (Hok.out x (List.mem_of_getElem? hx))
      have hpre := flat_len pVal 13 (ts.take i) (fun t ht => pVal_len t (Hok.out t (List.mem_of_mem_take ht)))
      have htl : (ts.take i).length ≤ ts.length := by simp; omega
      have hb : (putU ts.length ++ (ts.take i).flatMap pVal).length + (pVal x).length ≤ 140737488355328 := by
        rw [List.length_append]
        omega
      have hyx : putU ts.length ++ (ts.take (i + 1)).flatMap pVal = (putU ts.length ++ (ts.take i).flatMap pVal) ++ pVal x := by
        rw [take_one ts i x hx]
        simp
      have Hyx := Lib.hid hyx
      have Hx := Lib.hid hx
      clear hx c hpx hyx hpre htl hxl
      go_wp2_with first | (go_at_call 61; refine (HC.out _).mono ?_; rintro e w2 ⟨v2, rfl, ho2, hn2, hf2⟩; have hO2 := hoR.fr0 hf2) | (at_builtin; refine app_u8 rfl (.tmp 15) (.tmp 20) _ rfl _ _ _ rfl hO2 _ _ _ rfl ((Own.sl ho2 (S' := []) (by simp)).src und_bytes) hb ?_; intro v3 w3 hown3 hf3 hb3)
      have f2 := hF.trans hf2
      go_roundw
      case rel =>
        refine ⟨i + 1, by go_num, by omega, f2.app hf3 hnR, ?_, hnR.app hb3 f2.size⟩
        rw [Hyx.out]
        exact Out.app hown3
      case measure => simp [intOf]; omega
    · have hk : i = ts.length := by omega
      subst hk
      have i1 : ¬ (ts.length : Int) < (ts.length : Int) := by omega
      go_wp2
      go_ret
      refine ⟨_, rfl, ?_, hnR, hF⟩
      rw [List.take_length] at hoR
      exact hoR
end Go.Proofs.YtokneepfknepaaaGreatDoor

set_option linter.unusedSimpArgs false
set_option linter.unusedVariables false
namespace Go.Proofs.YtokneepfknepaaaGreatDoor
open Go.RowKit

end Go.Proofs.YtokneepfknepaaaGreatDoor

set_option linter.unusedSimpArgs false
set_option linter.unusedVariables false
namespace Go.Proofs.YtokneepfknepaaaGreatDoor
open Go.RowKit

theorem rPutU (n : Nat) (w : World) (hn : n < 18446744073709551616) : Calls Tryz.prog 58 #[.int .u64 n] w fun e w' => ∃ v, e = .returned v ∧ St [] w w' [.own 5 1 (v) (putU n).length ((putU n).map B)] :=
  (refPutU_any n w hn).mono fun e w' ⟨v, h1, h2, h3, h4⟩ => ⟨v, h1, St.ofOut h2 h3 h4⟩

theorem rPutVals (w : World) (v : Value) (ts : List ValT) (h : Sl [] w 4 v ts.length (ts.flatMap valC)) (hl : ts.length ≤ 1099511627776) (hp : ts.all plainVal = true) :
    Calls Tryz.prog 60 #[v] w fun e w' => ∃ v', e = .returned v' ∧ St [] w w' [.own 5 1 (v') (pList pVal ts).length ((pList pVal ts).map B)] :=
  (refPutVals_any w v ts h hl hp).mono fun e w' ⟨v, h1, h2, h3, h4⟩ => ⟨v, h1, St.ofOut h2 h3 h4⟩
theorem rPutUw (n : Nat) (w : World) (hn : n < 18446744073709551616) : Calls Tryz.prog 58 #[.int .u64 (IntKind.u64.wrap n)] w fun e w' => ∃ v, e = .returned v ∧ St [] w w' [.own 5 1 (v) (putU n).length ((putU n).map B)] := by
  rw [show IntKind.u64.wrap (n : Int) = (n : Int) from (show (n : Int) % 18446744073709551616 = n by omega)]
  exact rPutU n w hn
theorem rPutVal (w : World) (t : ValT) (hp : plainVal t = true) : Calls Tryz.prog 61 #[.agg #[.int .i64 t.kind, .bool t.null, .int .i64 t.heap.kind, .int .i64 t.heap.n]] w fun e w' => ∃ v', e = .returned v' ∧ St [] w w' [.own 5 1 (v') (pVal t).length ((pVal t).map B)] :=
  (refPutVal_any w t hp).mono fun e w' ⟨v, h1, h2, h3, h4⟩ => ⟨v, h1, St.ofOut h2 h3 h4⟩
end Go.Proofs.YtokneepfknepaaaGreatDoor

set_option linter.unusedSimpArgs false
set_option linter.unusedVariables false
namespace Go.Proofs.YtokneepfknepaaaGreatDoor
open Go.RowKit

theorem app_ins {w : World} {ops : Array Oper} {rest : List Oper} {o : Oper} {a : Act} {Q : Exit → Act → World → Prop} {s x : Operand} {v xv : Value} (hgd : o.guard = none)
    (ho : o.op = .call { callee := .builtin .append, args := #[s, x], argTypes := #[22, 22] }) (hs : a.eval s = v) (hx : a.eval x = xv)
    (h : ∃ S w0 G G' n xs m news, St S w0 w G ∧ DstT 44 19 G v n xs G' ∧ SrcT 44 19 G w xv m news ∧ n + m ≤ 549755813888 ∧
      ∀ v' w', St S w0 w' (.own 44 19 v' (n + m) (xs ++ news) :: G') → wpList Tryz.prog ops Q rest (a.put o.dst v') w') :
    wpList Tryz.prog ops Q (o :: rest) a w := by
  obtain ⟨i0, hi, hz0, hz1, hz2⟩ := info_parts info_ins
  exact st_appT hgd ho hs hx und_inss und_inss hi hz0 hz1 hz2 rfl (by decide) (by decide) h
/-- A slice literal of nothing may be appended to. -/
theorem St.dst0 {S : List Nat} {w0 w : World} {G G' : List Res} {e : TypeId} {k g : Nat} (h : St S w0 w G) (p : Pick G (.loc g [] e) G') : St S w0 w (.own e k (.slice (some ⟨g, 0, none⟩) 0 0) 0 [] :: G') := by
  have h0 := h.pick p
  have hl : Loc w g [] e := h0.head
  have ha := List.pairwise_cons.1 h0.apart
  refine h0.tail.put ?_ (fun b hb => h0.new (.loc g [] e) List.mem_cons_self b (by simpa [Res.blk, Value.blk] using hb)) (fun b hb s hs => ha.1 s hs b (by simpa [Res.blk, Value.blk] using hb))
  exact ⟨by simp, (fun u hu => by cases hu), .inr ⟨g, 0, #[], rfl, by simp, hl, Nat.le_refl _, by decide, by simp, by simp⟩⟩
/-- The first elements of a slice that is read. -/
theorem Sl.takeK {S : List Nat} {w : World} {k n c cap : Nat} {a : Option Addr} {cs : List Value} (h : Sl S w k (.slice a n cap) n cs) (hc : c ≤ n) : Sl S w k (.slice a c cap) c (cs.take (c * k)) := by
  obtain ⟨h1, h2, a', cap', e, h4, h5, hN, h6⟩ := h
  injection e with e1 e2 e3
  subst e1 e3
  have hle : c * k ≤ n * k := Nat.mul_le_mul_right k hc
  refine ⟨by rw [List.length_take]; omega, fun u hu => h2 u (List.mem_of_mem_take hu), a, cap, rfl, by omega, h5, hN, ?_⟩
  rcases h6 with h6 | ⟨b, off, e, hn, hb, hcell⟩
  · exact .inl (by omega)
  · refine .inr ⟨b, off, e, hn, hb, fun j hj => ?_⟩
    rw [hcell j (by omega), List.getElem?_take, if_pos hj]
theorem InssR.take {S : List Nat} {w : World} : ∀ (c : Nat) {is : List InstrT} {cs : List Value}, InssR S w is cs → InssR S w (is.take c) (cs.take (c * 19))
  | 0, _, _, _ => by simp [InssR]
  | c + 1, [], _, h => by
    have h : _ = [] := h
    subst h
    simp [InssR]
  | c + 1, _ :: _, _, ⟨tv, lv, cv, rest, e, h1, h2⟩ => by
    subst e
    refine ⟨tv, lv, cv, rest.take (c * 19), ?_, h1, InssR.take c h2⟩
    rw [show (c + 1) * 19 = (insC _ tv lv cv).length + c * 19 by simp [insC]; omega, List.take_length_add_append]
theorem InssR.drop {S : List Nat} {w : World} : ∀ (c : Nat) {is : List InstrT} {cs : List Value}, InssR S w is cs → InssR S w (is.drop c) (cs.drop (c * 19))
  | 0, _, _, h => by simpa using h
  | c + 1, [], _, h => by
    have h : _ = [] := h
    subst h
    simp [InssR]
  | c + 1, _ :: _, _, ⟨tv, lv, cv, rest, e, h1, h2⟩ => by
    subst e
    rw [show (c + 1) * 19 = (insC _ tv lv cv).length + c * 19 by simp [insC]; omega, List.drop_length_add_append]
    exact InssR.drop c h2
end Go.Proofs.YtokneepfknepaaaGreatDoor

set_option linter.unusedSimpArgs false
set_option linter.unusedVariables false
namespace Go.Proofs.YtokneepfknepaaaGreatDoor
open Go.RowKit
/-- The call's result is a struct, or an array, of its own. -/
theorem st_ret {P : Program} {w : World} {fn : Func} {R : Ending → World → Prop} {a : Act} {p : Tmp} {ty : TypeId} {d : TypeDesc} {g : Nat} (h : fn.results = #[.cell p ty]) (hp : a.tmps.getD p undef = .pointer (some ⟨g, 0, none⟩))
    (hu : P.underlying ty = some d) (hd : (match d with | .struct _ | .array _ _ => true | _ => false) = true) (hdf : a.defers = [])
    (hx : ∃ S w0 G G' T cs, St S w0 w G ∧ Pick G (.loc g cs T) G' ∧ (P.info? ty).map (·.size) = some cs.length ∧ R (.returned (.agg cs.toArray)) w) :
    bodyPost P fn R .ret a w := by
  obtain ⟨S, w0, G, G', T, cs, hst, pk, hi, hR⟩ := hx
  exact ret_cell h hp (hst.loc pk) hu hd hi hdf hR
theorem und_nine : Tryz.prog.underlying 69 = some ((Tryz.prog.underlying 69).get (by kernel_rfl)) := by kernel_rfl
theorem size_nine : (Tryz.prog.info? 69).map (·.size) = some 9 := by kernel_rfl
def nineC (s : Int) : List Value := (hasL s).map .bool

set_option maxRecDepth 100000 in
set_option maxHeartbeats 3200000 in
theorem refHas_any (w : World) (s : Int) (h0 : 0 ≤ s) (h1 : s ≤ 13) : Calls Tryz.prog 35 #[.int .i64 s] w fun e w' => e = .returned (.agg (nineC s).toArray) ∧ Fr [] w w' := by
  have hS := St.start [] w
  rcases (show s = 0 ∨ s = 1 ∨ s = 2 ∨ s = 3 ∨ s = 4 ∨ s = 5 ∨ s = 6 ∨ s = 7 ∨ s = 8 ∨ s = 9 ∨ s = 10 ∨ s = 11 ∨ s = 12 ∨ s = 13 by omega) with rfl | rfl | rfl | rfl | rfl | rfl | rfl | rfl | rfl | rfl | rfl | rfl | rfl | rfl
  all_goals
    go_enter Tryz.func35, Tryz.ntmps35
    go_wp2_with first | (refine st_store (ty := 69) rfl rfl rfl rfl ?_; (repeat (apply Exists.intro)); refine ⟨?_, ?_, ?_, ?_, ?_, ?_⟩; (· exact zsts1); (· (try simp only [World.size_alloc, World.size_setCell, size_drew, size_drewN]); (exact zpk1)); (· rfl); (· exact size_nine); (· simp [Value.oneCell']); intro wN hS)
    refine st_ret rfl rfl und_nine rfl rfl ?_
    (repeat (apply Exists.intro))
    refine ⟨?_, ?_, ?_, ?_⟩
    · (exact zsts1)
    · (exact zpk1)
    · exact size_nine
    · exact ⟨rfl, hS.fr⟩
theorem refVal_at (w : World) (k : Int) (nl : Bool) (hk hn : Int) : Calls Tryz.prog 39 #[.agg #[.int .i64 k, .bool nl, .int .i64 hk, .int .i64 hn]] w fun e w' => e = .returned (.bool (plainVal ⟨k, nl, ⟨hk, hn⟩⟩)) ∧ Fr [] w w' :=
  refVal_any w ⟨k, nl, ⟨hk, hn⟩⟩
set_option maxRecDepth 100000 in
theorem refPlain_any (w : World) (h : HeapT) : Calls Tryz.prog 37 #[.agg #[.int .i64 h.kind, .int .i64 h.n]] w fun e w' => e = .returned (.bool (plainH h)) ∧ Fr [] w w' := by
  have hS := St.start [] w
  go_enter Tryz.func37, Tryz.ntmps37
  go_wp2_with first | (go_at_call 39; (with_reducible refine (refVal_at _ _ _ _ _).mono ?_); rintro e w1 ⟨rfl, hF1⟩; refine st_fr hF1 ?_; (repeat (apply Exists.intro)); refine ⟨?_, ?_⟩; (· exact zsts1); (try simp only [World.size_alloc, World.size_setCell, size_drew, size_drewN]); intro hS; (try clear hQ); have hQ := St.facts hS; simp only [Facts, Res.fact, List.cons_append, List.nil_append, true_and, and_true] at hQ)
  go_ret
  exact ⟨rfl, hS.fr⟩
set_option maxRecDepth 100000 in
theorem refU_any (w : World) (n : Int) (h : 0 ≤ n) (h2 : n < 9223372036854775808) : Calls Tryz.prog 57 #[.int .i64 n] w fun e w' => ∃ v, e = .returned v ∧ St [] w w' [.own 5 1 v (pNum n).length ((pNum n).map B)] := by
  obtain ⟨m, rfl⟩ := Int.eq_ofNat_of_zero_le h
  go_enter Tryz.func57, Tryz.ntmps57
  go_wp2_with first | (go_at_call 58; (first | (with_reducible refine (rPutU m _ (by omega)).mono ?_) | (with_reducible refine (rPutUw m _ (by omega)).mono ?_)); rintro e w4 ⟨v4, rfl, s4⟩)
  go_ret
  exact ⟨v4, rfl, s4⟩
end Go.Proofs.YtokneepfknepaaaGreatDoor

set_option linter.unusedSimpArgs false
set_option linter.unusedVariables false
namespace Go.Proofs.YtokneepfknepaaaGreatDoor
open Go.RowKit
theorem run_load1 {P : Program} {w : World} {b o : Nat} {ty : TypeId} {d : TypeDesc} {v : Value} (hu : P.underlying ty = some d) (hd : (match d with | .struct _ | .array _ _ => false | _ => true) = true) (hc : w.cell? ⟨b, o, none⟩ = some v) :
    (Instr.loadAt ty (.pointer (some ⟨b, o, none⟩))).run P w = .ok v w := by
  have hagg : (isAgg ty).run P w = .ok false w := by
    unfold isAgg
    rw [Sem.run_bind, run_underlying hu w]
    cases d <;> simp_all
  simp only [Instr.loadAt, Instr.sureAddr, Sem.run_bind, Sem.run_pure, Result.andThen_ok]
  simp [loadVar, Sem.run_bind, hagg]
  rw [hc]
theorem run_load_mid {P : Program} {w : World} {b o : Nat} {ty : TypeId} {d : TypeDesc} {cs : List Value} (hc : w.rangeAt b o cs) (hu : P.underlying ty = some d) (hd : d.isRow = true) (hi : (P.info? ty).map (·.size) = some cs.length) :
    (Instr.loadAt ty (.pointer (some ⟨b, o, none⟩))).run P w = .ok (.agg cs.toArray) w := by
  simp only [Instr.loadAt, Instr.sureAddr, Sem.run_bind, Sem.run_pure, Result.andThen_ok, run_loadVar_mid w b o ty cs d hc hu hd hi]
/-- The offsets of an instruction's fields. -/
def insOff (f : Nat) : Nat := [0, 1, 2, 3, 4, 6, 8, 9, 10, 11, 12, 18].getD f 0
theorem fld_ins (b : Nat) (w : World) (f : Nat) (hf : f < 12) : (Instr.fieldAt 44 (.pointer (some ⟨b, 0, none⟩)) f).run Tryz.prog w = .ok (.pointer (some ⟨b, insOff f, none⟩)) w := by
  rcases (show f = 0 ∨ f = 1 ∨ f = 2 ∨ f = 3 ∨ f = 4 ∨ f = 5 ∨ f = 6 ∨ f = 7 ∨ f = 8 ∨ f = 9 ∨ f = 10 ∨ f = 11 by omega) with rfl | rfl | rfl | rfl | rfl | rfl | rfl | rfl | rfl | rfl | rfl | rfl <;> kernel_rfl
theorem neq_heap (w : World) (a b c d : Int) (X Y : Operand) : (do eqGuard .neq 34 X Y (.agg #[.int .i64 a, .int .i64 b]) (.agg #[.int .i64 c, .int .i64 d]); binOp .neq 34 (.agg #[.int .i64 a, .int .i64 b]) (.agg #[.int .i64 c, .int .i64 d]) : Sem Value).run Tryz.prog w = .ok (.bool (decide ((⟨a, b⟩ : HeapT) ≠ ⟨c, d⟩))) w := by
  go_simp
  by_cases h1 : a = c <;> by_cases h2 : b = d <;> simp [h1, h2]
theorem neq_block (w : World) (k1 v1 : Int) (n1 : Bool) (h1 m1 b1 k2 v2 : Int) (n2 : Bool) (h2 m2 b2 : Int) (X Y : Operand) :
    (do eqGuard .neq 41 X Y (.agg #[.int .i64 k1, .int .i64 v1, .bool n1, .int .i64 h1, .int .i64 m1, .int .i64 b1]) (.agg #[.int .i64 k2, .int .i64 v2, .bool n2, .int .i64 h2, .int .i64 m2, .int .i64 b2]);
        binOp .neq 41 (.agg #[.int .i64 k1, .int .i64 v1, .bool n1, .int .i64 h1, .int .i64 m1, .int .i64 b1]) (.agg #[.int .i64 k2, .int .i64 v2, .bool n2, .int .i64 h2, .int .i64 m2, .int .i64 b2]) : Sem Value).run Tryz.prog w
      = .ok (.bool (decide ((⟨k1, ⟨v1, n1, ⟨h1, m1⟩⟩, b1⟩ : BlockT) ≠ ⟨k2, ⟨v2, n2, ⟨h2, m2⟩⟩, b2⟩))) w := by
  go_simp
  by_cases e1 : k1 = k2 <;> by_cases e2 : v1 = v2 <;> by_cases e3 : n1 = n2 <;> by_cases e4 : h1 = h2 <;> by_cases e5 : m1 = m2 <;> by_cases e6 : b1 = b2 <;> simp [e1, e2, e3, e4, e5, e6]
theorem neq_int (w : World) (t : TypeId) (k : IntKind) (a b : Int) (X Y : Operand) : (do eqGuard .neq t X Y (.int k a) (.int k b); binOp .neq t (.int k a) (.int k b) : Sem Value).run Tryz.prog w = .ok (.bool (a != b)) w := by
  simp [eqGuard, binOp, Op.intCmp]
theorem neq_bool (w : World) (a b : Bool) (X Y : Operand) : (do eqGuard .neq 4 X Y (.bool a) (.bool b); binOp .neq 4 (.bool a) (.bool b) : Sem Value).run Tryz.prog w = .ok (.bool (a != b)) w := by
  go_simp
  cases a <;> cases b <;> rfl
set_option maxRecDepth 100000 in
theorem len_slice (w : World) (t e : TypeId) (hu : Tryz.prog.underlying t = some (.slice e)) (a : Option Addr) (n c : Nat) (ty : TypeId) (cs : Array Bool) : (builtin .len #[t] ty cs #[.slice a n c]).run Tryz.prog w = .ok (.value (.int .i64 n)) w := by
  have h : (Builtin.len_ #[t] ty #[.slice a n c]).run Tryz.prog w = .ok (.int .i64 n) w := by
    unfold Builtin.len_
    simp only [List.getElem?_toArray, List.getElem?_cons_zero, Sem.run_bind, run_underlying hu w, Result.andThen_ok, goInt, Sem.run_pure]
  unfold builtin
  simp only [Sem.run_bind, h, Result.andThen_ok, Sem.run_pure]
end Go.Proofs.YtokneepfknepaaaGreatDoor

set_option linter.unusedSimpArgs false
set_option linter.unusedVariables false
namespace Go.Proofs.YtokneepfknepaaaGreatDoor
open Go.RowKit
/-- The loads of an instruction's fields: types and offsets. -/
def insLoads : List (TypeId × Nat) := [(30, 0), (3, 1), (3, 2), (31, 3), (34, 4), (34, 6), (4, 8), (4, 9), (35, 10), (36, 11), (41, 12), (42, 18)]
/-- The value that such a load yields. -/
def insAt (i : InstrT) (tv lv cv : Value) (o : Nat) : Value :=
  if o = 4 then .agg #[.int .i64 i.heap.kind, .int .i64 i.heap.n] else if o = 6 then .agg #[.int .i64 i.heap2.kind, .int .i64 i.heap2.n]
  else if o = 12 then .agg #[.int .i64 i.block.kind, .int .i64 i.block.val.kind, .bool i.block.val.null, .int .i64 i.block.val.heap.kind, .int .i64 i.block.val.heap.n, .int .i64 i.block.n]
  else (insC i tv lv cv).getD o undef
theorem und_heapT : Tryz.prog.underlying 34 = some ((Tryz.prog.underlying 34).get (by kernel_rfl)) := by kernel_rfl
theorem und_blockT : Tryz.prog.underlying 41 = some ((Tryz.prog.underlying 41).get (by kernel_rfl)) := by kernel_rfl
theorem load_ins {w : World} {b : Nat} {i : InstrT} {tv lv cv : Value} (hc : ∀ r, r < 19 → w.cell? ⟨b, r, none⟩ = (insC i tv lv cv)[r]?) (ty : TypeId) (o : Nat) (h : (ty, o) ∈ insLoads) :
    (Instr.loadAt ty (.pointer (some ⟨b, o, none⟩))).run Tryz.prog w = .ok (insAt i tv lv cv o) w := by
  have hr : ∀ (o : Nat) (cs : List Value), o + cs.length ≤ 19 → (∀ j, j < cs.length → (insC i tv lv cv)[o + j]? = cs[j]?) → w.rangeAt b o cs := fun o cs h1 h2 r v hv => by
    have hlt := (List.getElem?_eq_some_iff.1 hv).1
    rw [hc _ (by omega), h2 r hlt]
    exact hv
  simp only [insLoads, List.mem_cons, Prod.mk.injEq, List.not_mem_nil, or_false] at h
  rcases h with ⟨rfl, rfl⟩ | ⟨rfl, rfl⟩ | ⟨rfl, rfl⟩ | ⟨rfl, rfl⟩ | ⟨rfl, rfl⟩ | ⟨rfl, rfl⟩ | ⟨rfl, rfl⟩ | ⟨rfl, rfl⟩ | ⟨rfl, rfl⟩ | ⟨rfl, rfl⟩ | ⟨rfl, rfl⟩ | ⟨rfl, rfl⟩
  · exact run_load1 (d := (Tryz.prog.underlying 30).get (by kernel_rfl)) (by kernel_rfl) (by kernel_rfl) (hc 0 (by decide))
  · exact run_load1 (d := (Tryz.prog.underlying 3).get (by kernel_rfl)) (by kernel_rfl) (by kernel_rfl) (hc 1 (by decide))
  · exact run_load1 (d := (Tryz.prog.underlying 3).get (by kernel_rfl)) (by kernel_rfl) (by kernel_rfl) (hc 2 (by decide))
  · exact run_load1 (d := (Tryz.prog.underlying 31).get (by kernel_rfl)) (by kernel_rfl) (by kernel_rfl) (hc 3 (by decide))
  · exact run_load_mid (hr 4 [.int .i64 i.heap.kind, .int .i64 i.heap.n] (by simp) (fun j hj => by match j, hj with | 0, _ => rfl | 1, _ => rfl)) und_heapT (by kernel_rfl) (by kernel_rfl)
  · exact run_load_mid (hr 6 [.int .i64 i.heap2.kind, .int .i64 i.heap2.n] (by simp) (fun j hj => by match j, hj with | 0, _ => rfl | 1, _ => rfl)) und_heapT (by kernel_rfl) (by kernel_rfl)
  · exact run_load1 (d := (Tryz.prog.underlying 4).get (by kernel_rfl)) (by kernel_rfl) (by kernel_rfl) (hc 8 (by decide))
  · exact run_load1 (d := (Tryz.prog.underlying 4).get (by kernel_rfl)) (by kernel_rfl) (by kernel_rfl) (hc 9 (by decide))
  · exact run_load1 (d := (Tryz.prog.underlying 35).get (by kernel_rfl)) (by kernel_rfl) (by kernel_rfl) (hc 10 (by decide))
  · exact run_load1 (d := (Tryz.prog.underlying 36).get (by kernel_rfl)) (by kernel_rfl) (by kernel_rfl) (hc 11 (by decide))
  · exact run_load_mid (hr 12 [.int .i64 i.block.kind, .int .i64 i.block.val.kind, .bool i.block.val.null, .int .i64 i.block.val.heap.kind, .int .i64 i.block.val.heap.n, .int .i64 i.block.n] (by simp) (fun j hj => by match j, hj with | 0, _ => rfl | 1, _ => rfl | 2, _ => rfl | 3, _ => rfl | 4, _ => rfl | 5, _ => rfl)) und_blockT (by kernel_rfl) (by kernel_rfl)
  · exact run_load1 (d := (Tryz.prog.underlying 42).get (by kernel_rfl)) (by kernel_rfl) (by kernel_rfl) (hc 18 (by decide))
/-- The tests of a comparison: the type, the offset, the answer's place. -/
def insTests : List ((TypeId × Nat) × Nat) := [((30, 0), 0), ((3, 1), 1), ((3, 2), 2), ((31, 3), 3), ((34, 4), 4), ((34, 6), 5), ((4, 8), 6), ((4, 9), 7), ((41, 12), 8)]
/-- The keys of a comparison of two instructions, with the answers of its tests. -/
def tOne (cs : List Bool) : RKey → Option AV
  | .fld ty (.p g 0) f => if ty = 44 ∧ f < 12 then some (.p g (insOff f)) else none
  | .load ty (.p g o) => if (ty, o) ∈ insLoads ∧ g < 2 then some (.k (20 * g + o)) else none
  | .len t (.k i) => if t = 42 ∧ i = 18 then some (.k 40) else if t = 42 ∧ i = 38 then some (.k 41) else none
  | .bin .neq ty (.k i) (.k j) =>
    if ty = 3 ∧ i = 40 ∧ j = 41 then some (.b (cs.getD 9 false))
    else if j = i + 20 then (match insTests.find? (fun p => p.1 == (ty, i)) with
      | some p => some (.b (cs.getD p.2 false))
      | none => none)
    else none
  | _ => none
def vsOne (i j : InstrT) (tv lv cv tv' lv' cv' : Value) (k : Nat) : Value :=
  if k < 20 then insAt i tv lv cv k else if k < 40 then insAt j tv' lv' cv' (k - 20) else if k = 40 then .int .i64 i.catches.length else .int .i64 j.catches.length
def diffs (i j : InstrT) : List Bool := [i.op != j.op, i.x != j.x, i.y != j.y, (i.u : Int) != (j.u : Int), decide (i.heap ≠ j.heap), decide (i.heap2 ≠ j.heap2), i.null != j.null, i.null2 != j.null2, decide (i.block ≠ j.block), (i.catches.length : Int) != (j.catches.length : Int)]
theorem tOne_ok {w : World} {b1 b2 : Nat} {i j : InstrT} {tv lv cv tv' lv' cv' : Value} (hc1 : ∀ r, r < 19 → w.cell? ⟨b1, r, none⟩ = (insC i tv lv cv)[r]?) (hc2 : ∀ r, r < 19 → w.cell? ⟨b2, r, none⟩ = (insC j tv' lv' cv')[r]?)
    (hv1 : ∃ a c, cv = .slice a i.catches.length c) (hv2 : ∃ a c, cv' = .slice a j.catches.length c) :
    ∀ key v, tOne (diffs i j) key = some v → key.runs (vsOne i j tv lv cv tv' lv' cv') (fun g => if g = 0 then b1 else b2) Tryz.prog (· = w) v := by
  intro key v h
  unfold tOne at h
  split at h
  · rename_i ty g f
    split at h
    · rename_i hk
      injection h with h
      subst h
      obtain ⟨rfl, hf⟩ := hk
      intro w' _
      exact fld_ins _ w' f hf
    · cases h
  · rename_i ty g o
    split at h
    · rename_i hk
      injection h with h
      subst h
      obtain ⟨hm, hg⟩ := hk
      rintro w' rfl
      have ho : o < 20 := by
        have : insLoads.all (fun p => decide (p.2 < 20)) = true := by decide
        simpa using List.all_eq_true.1 this _ hm
      rcases (show g = 0 ∨ g = 1 by omega) with rfl | rfl
      · have := load_ins hc1 ty o hm
        show (Instr.loadAt ty (.pointer (some ⟨b1, o, none⟩))).run _ w' = .ok (vsOne i j tv lv cv tv' lv' cv' (20 * 0 + o)) w'
        unfold vsOne
        rw [if_pos (by omega), show 20 * 0 + o = o by omega]
        exact this
      · have := load_ins hc2 ty o hm
        show (Instr.loadAt ty (.pointer (some ⟨b2, o, none⟩))).run _ w' = .ok (vsOne i j tv lv cv tv' lv' cv' (20 * 1 + o)) w'
        unfold vsOne
        rw [if_neg (by omega), if_pos (by omega), show 20 * 1 + o - 20 = o by omega]
        exact this
    · cases h
  · rename_i t k
    split at h
    · rename_i hk
      injection h with h
      subst h
      obtain ⟨rfl, rfl⟩ := hk
      obtain ⟨a, c, rfl⟩ := hv1
      intro w' _ ty cs
      exact len_slice w' _ 67 (by kernel_rfl) a _ c ty cs
    · split at h
      · rename_i hk
        injection h with h
        subst h
        obtain ⟨rfl, rfl⟩ := hk
        obtain ⟨a, c, rfl⟩ := hv2
        intro w' _ ty cs
        exact len_slice w' _ 67 (by kernel_rfl) a _ c ty cs
      · cases h
  · rename_i ty k1 k2
    split at h
    · rename_i hk
      injection h with h
      subst h
      obtain ⟨rfl, rfl, rfl⟩ := hk
      intro w' _ X Y
      exact neq_int w' _ _ _ _ X Y
    · split at h
      · rename_i hj
        subst hj
        split at h
        · rename_i p hp
          injection h with h
          subst h
          have h1 := List.find?_some hp
          have h2 := List.mem_of_find?_eq_some hp
          obtain ⟨⟨t1, o1⟩, n1⟩ := p
          simp only [beq_iff_eq, Prod.mk.injEq] at h1
          obtain ⟨rfl, rfl⟩ := h1
          simp only [insTests, List.mem_cons, Prod.mk.injEq, List.not_mem_nil, or_false] at h2
          clear hp
          intro w' _ X Y
          rcases h2 with ⟨⟨rfl, rfl⟩, rfl⟩ | ⟨⟨rfl, rfl⟩, rfl⟩ | ⟨⟨rfl, rfl⟩, rfl⟩ | ⟨⟨rfl, rfl⟩, rfl⟩ | ⟨⟨rfl, rfl⟩, rfl⟩ | ⟨⟨rfl, rfl⟩, rfl⟩ | ⟨⟨rfl, rfl⟩, rfl⟩ | ⟨⟨rfl, rfl⟩, rfl⟩ | ⟨⟨rfl, rfl⟩, rfl⟩
          · exact neq_int w' _ _ _ _ X Y
          · exact neq_int w' _ _ _ _ X Y
          · exact neq_int w' _ _ _ _ X Y
          · exact neq_int w' _ _ _ _ X Y
          · exact neq_heap w' _ _ _ _ X Y
          · exact neq_heap w' _ _ _ _ X Y
          · exact neq_bool w' _ _ X Y
          · exact neq_bool w' _ _ X Y
          · exact neq_block w' _ _ _ _ _ _ _ _ _ _ _ _ X Y
        · cases h
      · cases h
  · cases h
def regOf : Nat → Code → Option (List Oper)
  | k, .region id ops _ => if id = k then some ops.toList else none
  | k, .seq a b => (regOf k a).or (regOf k b)
  | k, .cond _ a b => (regOf k a).or (regOf k b)
  | k, .block _ a => regOf k a
  | k, .loop a => regOf k a
  | k, .scope a => regOf k a
  | _, _ => none
def opsOfR (f : Func) (k : Nat) : List Oper := (match f.body with | some c => regOf k c | none => none).getD []
set_option maxRecDepth 100000 in
theorem one_ans (c0 c1 c2 c3 c4 c5 c6 c7 c8 c9 : Bool) : aAnswer (tOne [c0, c1, c2, c3, c4, c5, c6, c7, c8, c9]) 106 (opsOfR Tryz.f23 1) [(2, .p 0 0), (3, .p 1 0)] 75 = some (.b (c0 || c1 || c2 || c3 || c4 || c5 || c6 || c7 || c8 || c9)) := by
  cases c0
  · cases c1
    · cases c2
      · cases c3
        · cases c4
          · cases c5
            · cases c6
              · cases c7
                · cases c8
                  · cases c9
                    · kernel_rfl
                    · kernel_rfl
                  · kernel_rfl
                · kernel_rfl
              · kernel_rfl
            · kernel_rfl
          · kernel_rfl
        · kernel_rfl
      · kernel_rfl
    · kernel_rfl
  · kernel_rfl
end Go.Proofs.YtokneepfknepaaaGreatDoor

set_option linter.unusedSimpArgs false
set_option linter.unusedVariables false
namespace Go.Proofs.YtokneepfknepaaaGreatDoor
open Go.RowKit
set_option maxRecDepth 100000 in
set_option maxHeartbeats 3200000 in
theorem refInts_any (w : World) (a b : Value) (xs ys : List Int) (h1 : Sl [] w 1 a xs.length (xs.flatMap intC)) (h2 : Sl [] w 1 b ys.length (ys.flatMap intC)) :
    Calls Tryz.prog 63 #[a, b] w fun e w' => e = .returned (.bool (decide (xs = ys))) ∧ Fr [] w w' := by
  have hh1 := h1
  have hh2 := h2
  have hm1 := h1.2.2
  obtain ⟨a1, c1, rfl, hc1, hm1, _⟩ := hm1
  obtain ⟨a2, c2, rfl⟩ := h2.shape
  unfold maxLen at hm1
  have hbig : xs.length ≤ 9223372036854775807 := by omega
  clear hm1 hc1 h1 h2
  by_cases hlen : xs.length = ys.length
  · have gl : (((xs.length : Nat) : Int) != ((ys.length : Nat) : Int)) = false := by simp; omega
    have Hlen := Lib.hid hlen
    clear hlen
    go_enter Tryz.func63, Tryz.ntmps63
    go_wp2
    go_loopw [5] (fun n wr => ∃ (i : Nat), n = .int .i64 i ∧ i ≤ xs.length ∧ Fr [] w wr ∧ Hid (xs.take i = ys.take i)) (fun n _ => xs.length - (intOf n).toNat)
    case atStart => exact ⟨0, rfl, by omega, Fr.refl _ _, Lib.hid rfl⟩
    case round =>
      obtain ⟨i, rfl, hi, hF, ht⟩ := hrel
      by_cases hlt : i < xs.length
      · have hlt2 : i < ys.length := by have := Hlen.out; omega
        obtain ⟨x, hx⟩ : ∃ t, xs[i]? = some t := ⟨xs[i], by simp [hlt]⟩
        obtain ⟨y, hy⟩ : ∃ t, ys[i]? = some t := ⟨ys[i], by simp [hlt2]⟩
        obtain ⟨b1, o1, p1, hv1, hb1, _, hd1⟩ := Sl.elem hh1 (fun _ => rfl) i x hx
        obtain ⟨b2, o2, p2, hv2, hb2, _, hd2⟩ := Sl.elem hh2 (fun _ => rfl) i y hy
        injection hv1 with e1 _ e1c
        injection hv2 with e2 _ e2c
        subst e1 e2 e1c e2c
        have f10 := (hF.cell hb1 (by simp) _).trans (hd1 0 (by decide))
        have f20 := (hF.cell hb2 (by simp) _).trans (hd2 0 (by decide))
        clear hd1 hd2
        simp only [Nat.add_zero, ← Nat.add_assoc, intC, Nat.mul_one, List.getElem?_cons_zero] at f10 f20
        have i1 : (i : Int) < (xs.length : Int) := by omega
        have i2 : (i : Int) < (ys.length : Int) := by omega
        have Hx := Lib.hid hx
        have Hy := Lib.hid hy
        clear hx hy
        rcases beq_i (a := x) (b := y) with ⟨g0, q0⟩ | ⟨g0, q0⟩
        rotate_left
        · have hne : decide (xs = ys) = false := decide_eq_false (ne_at Hx.out Hy.out (by intro h; contradiction))
          have Hne := Lib.hid hne
          clear hne q0
          go_wp2_with fail
          go_quiet (fail)
          go_wp2
          go_ret
          exact ⟨by rw [Hne.out]; rfl, by repeat (first | (with_reducible exact Fr.refl _ _) | (with_reducible assumption) | (with_reducible apply Fr.alloc) | (with_reducible apply Fr.drew) | (with_reducible apply Fr.drewN) | (with_reducible refine Fr.setCell ?_ (by first | (left; simp; done) | (right; simp; done) | (right; simp; omega)) _))⟩
        have hn := take_eq_at ht.out Hx.out Hy.out (by subst q0; rfl)
        have Hn := Lib.hid hn
        clear hn q0
        go_wp2_with fail
        go_quiet (fail)
        go_wp2
        go_roundw
        case rel => exact ⟨i + 1, by go_num, by omega, by repeat (first | (with_reducible exact Fr.refl _ _) | (with_reducible assumption) | (with_reducible apply Fr.alloc) | (with_reducible apply Fr.drew) | (with_reducible apply Fr.drewN) | (with_reducible refine Fr.setCell ?_ (by first | (left; simp; done) | (right; simp; done) | (right; simp; omega)) _)), Hn⟩
        case measure => simp [intOf]; omega
      · have hk : i = xs.length := by omega
        have he : decide (xs = ys) = true := decide_eq_true (by
          have := ht.out
          rw [List.take_of_length_le (by omega), List.take_of_length_le (by have := Hlen.out; omega)] at this
          exact this)
        have He := Lib.hid he
        clear he
        have i1 : ¬ (i : Int) < (xs.length : Int) := by omega
        go_wp2
        go_ret
        exact ⟨by rw [He.out]; rfl, hF⟩
  · have gl : (((xs.length : Nat) : Int) != ((ys.length : Nat) : Int)) = true := by simp; omega
    have he : decide (xs = ys) = false := decide_eq_false (fun h => hlen (by rw [h]))
    have He := Lib.hid he
    clear he hlen
    go_enter Tryz.func63, Tryz.ntmps63
    go_wp2
    go_ret
    exact ⟨by rw [He.out]; rfl, Fr.refl _ _⟩

set_option maxRecDepth 100000 in
set_option maxHeartbeats 3200000 in
theorem refSameVals_any (w : World) (a b : Value) (xs ys : List ValT) (h1 : Sl [] w 4 a xs.length (xs.flatMap valC)) (h2 : Sl [] w 4 b ys.length (ys.flatMap valC)) :
    Calls Tryz.prog 64 #[a, b] w fun e w' => e = .returned (.bool (decide (xs = ys))) ∧ Fr [] w w' := by
  have hh1 := h1
  have hh2 := h2
  have hm1 := h1.2.2
  obtain ⟨a1, c1, rfl, hc1, hm1, _⟩ := hm1
  obtain ⟨a2, c2, rfl⟩ := h2.shape
  unfold maxLen at hm1
  have hbig : xs.length ≤ 9223372036854775807 := by omega
  clear hm1 hc1 h1 h2
  by_cases hlen : xs.length = ys.length
  · have gl : (((xs.length : Nat) : Int) != ((ys.length : Nat) : Int)) = false := by simp; omega
    have Hlen := Lib.hid hlen
    clear hlen
    go_enter Tryz.func64, Tryz.ntmps64
    go_wp2
    go_loopw [5] (fun n wr => ∃ (i : Nat), n = .int .i64 i ∧ i ≤ xs.length ∧ Fr [] w wr ∧ Hid (xs.take i = ys.take i)) (fun n _ => xs.length - (intOf n).toNat)
    case atStart => exact ⟨0, rfl, by omega, Fr.refl _ _, Lib.hid rfl⟩
    case round =>
      obtain ⟨i, rfl, hi, hF, ht⟩ := hrel
      by_cases hlt : i < xs.length
      · have hlt2 : i < ys.length := by have := Hlen.out; omega
        obtain ⟨x, hx⟩ : ∃ t, xs[i]? = some t := ⟨xs[i], by simp [hlt]⟩
        obtain ⟨y, hy⟩ : ∃ t, ys[i]? = some t := ⟨ys[i], by simp [hlt2]⟩
        obtain ⟨b1, o1, p1, hv1, hb1, _, hd1⟩ := Sl.elem hh1 (fun _ => rfl) i x hx
        obtain ⟨b2, o2, p2, hv2, hb2, _, hd2⟩ := Sl.elem hh2 (fun _ => rfl) i y hy
        injection hv1 with e1 _ e1c
        injection hv2 with e2 _ e2c
        subst e1 e2 e1c e2c
        have f10 := (hF.cell hb1 (by simp) _).trans (hd1 0 (by decide))
        have f11 := (hF.cell hb1 (by simp) _).trans (hd1 1 (by decide))
        have f12 := (hF.cell hb1 (by simp) _).trans (hd1 2 (by decide))
        have f13 := (hF.cell hb1 (by simp) _).trans (hd1 3 (by decide))
        have f20 := (hF.cell hb2 (by simp) _).trans (hd2 0 (by decide))
        have f21 := (hF.cell hb2 (by simp) _).trans (hd2 1 (by decide))
        have f22 := (hF.cell hb2 (by simp) _).trans (hd2 2 (by decide))
        have f23 := (hF.cell hb2 (by simp) _).trans (hd2 3 (by decide))
        clear hd1 hd2
        obtain ⟨k1, z1, ⟨hk1, hn1⟩⟩ := x
        obtain ⟨k2, z2, ⟨hk2, hn2⟩⟩ := y
        simp only [Nat.add_zero, ← Nat.add_assoc, valC, List.getElem?_cons_zero, List.getElem?_cons_succ] at f10 f11 f12 f13 f20 f21 f22 f23
        have i1 : (i : Int) < (xs.length : Int) := by omega
        have i2 : (i : Int) < (ys.length : Int) := by omega
        have Hx := Lib.hid hx
        have Hy := Lib.hid hy
        clear hx hy
        rcases beq_i (a := k1) (b := k2) with ⟨g0, q0⟩ | ⟨g0, q0⟩
        rotate_left
        · have hne : decide (xs = ys) = false := decide_eq_false (ne_at Hx.out Hy.out (by intro h; injections; contradiction))
          have Hne := Lib.hid hne
          clear hne q0
          go_wp2_with fail
          go_quiet (fail)
          go_wp2
          go_ret
          exact ⟨by rw [Hne.out]; rfl, by repeat (first | (with_reducible exact Fr.refl _ _) | (with_reducible assumption) | (with_reducible apply Fr.alloc) | (with_reducible apply Fr.drew) | (with_reducible apply Fr.drewN) | (with_reducible refine Fr.setCell ?_ (by first | (left; simp; done) | (right; simp; done) | (right; simp; omega)) _))⟩
        rcases beq_b (a := z1) (b := z2) with ⟨g1, q1⟩ | ⟨g1, q1⟩
        rotate_left
        · have hne : decide (xs = ys) = false := decide_eq_false (ne_at Hx.out Hy.out (by intro h; injections; contradiction))
          have Hne := Lib.hid hne
          clear hne q0 q1
          go_wp2_with fail
          go_quiet (fail)
          go_wp2
          go_ret
          exact ⟨by rw [Hne.out]; rfl, by repeat (first | (with_reducible exact Fr.refl _ _) | (with_reducible assumption) | (with_reducible apply Fr.alloc) | (with_reducible apply Fr.drew) | (with_reducible apply Fr.drewN) | (with_reducible refine Fr.setCell ?_ (by first | (left; simp; done) | (right; simp; done) | (right; simp; omega)) _))⟩
        rcases beq_i (a := hk1) (b := hk2) with ⟨g2, q2⟩ | ⟨g2, q2⟩
        rotate_left
        · have hne : decide (xs = ys) = false := decide_eq_false (ne_at Hx.out Hy.out (by intro h; injections; contradiction))
          have Hne := Lib.hid hne
          clear hne q0 q1 q2
          go_wp2_with fail
          go_quiet (fail)
          go_wp2
          go_ret
          exact ⟨by rw [Hne.out]; rfl, by repeat (first | (with_reducible exact Fr.refl _ _) | (with_reducible assumption) | (with_reducible apply Fr.alloc) | (with_reducible apply Fr.drew) | (with_reducible apply Fr.drewN) | (with_reducible refine Fr.setCell ?_ (by first | (left; simp; done) | (right; simp; done) | (right; simp; omega)) _))⟩
        rcases beq_i (a := hn1) (b := hn2) with ⟨g3, q3⟩ | ⟨g3, q3⟩
        rotate_left
        · have hne : decide (xs = ys) = false := decide_eq_false (ne_at Hx.out Hy.out (by intro h; injections; contradiction))
          have Hne := Lib.hid hne
          clear hne q0 q1 q2 q3
          go_wp2_with fail
          go_quiet (fail)
          go_wp2
          go_ret
          exact ⟨by rw [Hne.out]; rfl, by repeat (first | (with_reducible exact Fr.refl _ _) | (with_reducible assumption) | (with_reducible apply Fr.alloc) | (with_reducible apply Fr.drew) | (with_reducible apply Fr.drewN) | (with_reducible refine Fr.setCell ?_ (by first | (left; simp; done) | (right; simp; done) | (right; simp; omega)) _))⟩
        have hn := take_eq_at ht.out Hx.out Hy.out (by subst q0 q1 q2 q3; rfl)
        have Hn := Lib.hid hn
        clear hn q0 q1 q2 q3
        go_wp2_with fail
        go_quiet (fail)
        go_wp2
        go_roundw
        case rel => exact ⟨i + 1, by go_num, by omega, by repeat (first | (with_reducible exact Fr.refl _ _) | (with_reducible assumption) | (with_reducible apply Fr.alloc) | (with_reducible apply Fr.drew) | (with_reducible apply Fr.drewN) | (with_reducible refine Fr.setCell ?_ (by first | (left; simp; done) | (right; simp; done) | (right; simp; omega)) _)), Hn⟩
        case measure => simp [intOf]; omega
      · have hk : i = xs.length := by omega
        have he : decide (xs = ys) = true := decide_eq_true (by
          have := ht.out
          rw [List.take_of_length_le (by omega), List.take_of_length_le (by have := Hlen.out; omega)] at this
          exact this)
        have He := Lib.hid he
        clear he
        have i1 : ¬ (i : Int) < (xs.length : Int) := by omega
        go_wp2
        go_ret
        exact ⟨by rw [He.out]; rfl, hF⟩
  · have gl : (((xs.length : Nat) : Int) != ((ys.length : Nat) : Int)) = true := by simp; omega
    have he : decide (xs = ys) = false := decide_eq_false (fun h => hlen (by rw [h]))
    have He := Lib.hid he
    clear he hlen
    go_enter Tryz.func64, Tryz.ntmps64
    go_wp2
    go_ret
    exact ⟨by rw [He.out]; rfl, Fr.refl _ _⟩

end Go.Proofs.YtokneepfknepaaaGreatDoor
