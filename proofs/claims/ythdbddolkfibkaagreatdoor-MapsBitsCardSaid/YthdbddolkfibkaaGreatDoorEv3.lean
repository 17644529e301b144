
/- A reckoner for whole calls on known inputs, part 3: what is known of types and functions; operations that only read. -/
import Derived.Test.YthdbddolkfibkaaGreatDoorEv2
set_option linter.unusedSimpArgs false
set_option linter.unusedVariables false
namespace Go.Proofs.YthdbddolkfibkaaGreatDoor
open Go.RowKit

/-- A type, as far as the reckoner looks. -/
inductive TK where
  | uptr
  | bool | int (k : IntKind) | str | ptr (e : Nat) | slice (e : Nat) | array (n e : Nat) | struct (fs : List (Nat × Nat)) | func | map (k e : Nat) | other
structure TInfo where
  k : TK
  size : Nat
  bytes : Nat
  zero : List CV
def kindOf : TypeDesc → TK
  | .bool => .bool
  | .int k => .int k
  | .string => .str
  | .pointer e => .ptr e
  | .slice e => .slice e
  | .array n e => .array n e
  | .struct fs => .struct (fs.toList.map fun f => (f.offset, f.type))
  | .func .. => .func
  | .map k e => .map k e
  | .unsafePointer => .uptr
  | _ => .other
/-- A constant as a known value. -/
def cvOf : Value → Option CV
  | .int k n => some (.int k n)
  | .bool b => some (.bool b)
  | .string s => some (.str s.data.toList)
  | .pointer none => some .nilp
  | .slice none 0 0 => some .nils
  | .nilFunc => some .nilf
  | .map none => some .mapnil
  | .nilIface => some .nili
  | _ => none
theorem cvOf_ok {E : Emb} {u : Value} {c : CV} (h : cvOf u = some c) : VR E c u := by
  unfold cvOf at h
  split at h <;> first | (injection h with h; subst h; constructor) | cases h
def cvsOf : List Value → Option (List CV)
  | [] => some []
  | u :: us => match cvOf u, cvsOf us with
    | some c, some cs => some (c :: cs)
    | _, _ => none
theorem cvsOf_ok {E : Emb} : ∀ {us : List Value} {cs : List CV}, cvsOf us = some cs → VRs E cs us
  | [], _, h => by injection h with h; subst h; exact .nil
  | u :: us, cs, h => by
    unfold cvsOf at h
    split at h
    · rename_i c cs' h1 h2
      injection h with h
      subst h
      exact .cons (cvOf_ok h1) (cvsOf_ok h2)
    · cases h
theorem cvOf_cell {u : Value} {c : CV} (h : cvOf u = some c) : u.oneCell' = true := by
  unfold cvOf at h
  split at h <;> first | rfl | cases h
theorem cvsOf_cell : ∀ {us : List Value} {cs : List CV}, cvsOf us = some cs → ∀ u ∈ us, u.oneCell' = true
  | [], _, _, u, hu => by cases hu
  | v :: us, cs, h, u, hu => by
    unfold cvsOf at h
    split at h
    · rename_i c cs' h1 h2
      rcases List.mem_cons.1 hu with e | e
      · rw [e]; exact cvOf_cell h1
      · exact cvsOf_cell h2 u e
    · cases h
def TK.agg : TK → Bool
  | .array _ _ => true
  | .struct _ => true
  | _ => false
/-- Is a zero value of its type's shape? -/
def wholeZ (k : TK) (z : Value) : Bool :=
  match k.agg, z with
  | true, .agg _ => true
  | true, _ => false
  | false, .agg _ => false
  | false, _ => true
theorem wholeZ_ok {k : TK} {z : Value} (h : wholeZ k z = true) : (k.agg = true → ∃ a, z = .agg a) ∧ (k.agg = false → z.cells = #[z]) := by
  unfold wholeZ at h
  cases hk : k.agg with
  | true =>
    refine ⟨fun _ => ?_, fun q => (by cases q)⟩
    rw [hk] at h
    cases z <;> first | exact ⟨_, rfl⟩ | cases h
  | false =>
    refine ⟨fun q => (by cases q), fun _ => ?_⟩
    rw [hk] at h
    cases z <;> first | rfl | cases h
/-- A type's row, out of the program. -/
def rowOf (P : Program) (t : Nat) : Option TInfo :=
  match P.underlying t, P.info? t with
  | some d, some i => match i.zero with
    | some z => match cvsOf z.cells.toList with
      | some cs => match Nat.beq cs.length i.size, wholeZ (kindOf d) z with
        | true, true => some ⟨kindOf d, i.size, i.bytes, cs⟩
        | _, _ => none
      | none => none
    | none => none
  | _, _ => none
/-- What a row says. -/
structure TOk (P : Program) (t : Nat) (i : TInfo) : Prop where
  ex : ∃ d n z, P.underlying t = some d ∧ P.info? t = some n ∧ i.k = kindOf d ∧ n.size = i.size ∧ n.bytes = i.bytes ∧ n.zero = some z ∧ (∀ E, VRs E i.zero z.cells.toList) ∧ ∀ u ∈ z.cells.toList, u.oneCell' = true
  zl : i.zero.length = i.size
  zv : ∃ n z, P.info? t = some n ∧ n.zero = some z ∧ (i.k.agg = true → ∃ a, z = .agg a) ∧ (i.k.agg = false → z.cells = #[z])
theorem rowOf_ok {P : Program} {t : Nat} {i : TInfo} (h : rowOf P t = some i) : TOk P t i := by
  unfold rowOf at h
  split at h
  · rename_i d n h1 h2
    split at h
    · rename_i z h3
      split at h
      · rename_i cs h4
        split at h
        · rename_i h5 h6
          injection h with h
          subst h
          exact ⟨⟨d, n, z, h1, h2, rfl, rfl, rfl, h3, fun E => cvsOf_ok h4, cvsOf_cell h4⟩, Nat.eq_of_beq_eq_true h5, n, z, h2, h3, wholeZ_ok h6⟩
        · cases h
      · cases h
    · cases h
  · cases h
/-- Values that are known by their number alone ('sy'): what operations on them tell is told ahead ('sb' of two operands, 'sc' conversions, 'sl' builtin functions, 'sk' which of them are whole numbers, of what kind). -/
structure Tab where
  ty : Tr TInfo
  fn : Tr Func
  gl : Nat → Bool
  tag : Nat → Nat
  sy : Nat → Value := fun _ => undef
  sb : BinOp → Nat → CV → CV → Option CV := fun _ _ _ _ => none
  sc : Nat → Nat → CV → Option CV := fun _ _ _ => none
  sl : Builtin → List Nat → List CV → Option CV := fun _ _ _ => none
  sk : Nat → Option IntKind := fun _ => none
/-- A number, a truth, or a value known by its number. -/
def sv (sy : Nat → Value) : CV → Option Value
  | .sym i => some (sy i)
  | .int k n => some (.int k n)
  | .bool b => some (.bool b)
  | _ => none
theorem sv_eq {E : Emb} {c : CV} {u z : Value} (h : VR E c u) (hz : sv E.sy c = some z) : u = z := by
  cases h <;> simp only [sv, Option.some.injEq, reduceCtorEq] at hz <;> exact hz
theorem sv_vr {E : Emb} {c : CV} {z : Value} (hz : sv E.sy c = some z) : VR E c z := by
  unfold sv at hz
  split at hz <;> first | (injection hz with hz; subst hz; constructor) | cases hz
def svs (sy : Nat → Value) : List CV → Option (List Value)
  | [] => some []
  | c :: cs => match sv sy c, svs sy cs with
    | some u, some us => some (u :: us)
    | _, _ => none
theorem svs_eq {E : Emb} : ∀ {cs : List CV} {us zs : List Value}, VRs E cs us → svs E.sy cs = some zs → us = zs
  | [], _, _, .nil, h => by injection h
  | c :: cs, _, _, .cons a b, h => by
    unfold svs at h
    split at h
    · rename_i u us h1 h2
      injection h with h
      rw [← h, sv_eq a h1, svs_eq b h2]
    · cases h
def isSym : CV → Bool
  | .sym _ => true
  | _ => false
/-- What is told of operations is so. -/
structure SymOk (P : Program) (T : Tab) : Prop where
  sb : ∀ op t a b r, T.sb op t a b = some r → ∃ u v z, sv T.sy a = some u ∧ sv T.sy b = some v ∧ sv T.sy r = some z ∧ ∀ X Y w, (do eqGuard op t X Y u v; binOp op t u v : Sem Value).run P w = .ok z w
  sc : ∀ s d a r, T.sc s d a = some r → ∃ u z, sv T.sy a = some u ∧ sv T.sy r = some z ∧ ∀ w, (convert s d u).run P w = .ok z w
  sl : ∀ b ts l r, T.sl b ts l = some r → ∃ us z, svs T.sy l = some us ∧ sv T.sy r = some z ∧ ∀ ty cs w, (builtin b ⟨ts⟩ ty cs us.toArray).run P w = .ok (.value z) w
  sk : ∀ i k, T.sk i = some k → ∃ x, T.sy i = .int k x
structure TabOk (P : Program) (T : Tab) : Prop where
  sym : SymOk P T
  ty : ∀ t i, T.ty.get t = some i → TOk P t i
  fn : ∀ f x, T.fn.get f = some x → P.funcs[f]? = some x ∧ (x.name == "runtime.NumGoroutine") = false
  mixed : P.follows .mixedOrders = true

/-- Where the globals lie. -/
def GlE (T : Tab) (E : Emb) : Prop := (∀ g, T.gl g = true → E.on g ∧ E.adr g = g ∧ E.off g = 0) ∧ E.tag = T.tag ∧ E.sy = T.sy
/-- Deferred calls: they stand behind the frame's temporaries. -/
def isDfr : CV → Bool
  | .dfr _ => true
  | _ => false
def dfOf (env : Tr CV) (N : Nat) : List CV :=
  match env.get N with
  | some (.dfr l) => l
  | _ => []
inductive DfR (E : Emb) : List CV → List Deferred → Prop
  | nil : DfR E [] []
  | cons {f : Nat} {fs cs : List CV} {us vs : List Value} {l : List CV} {ds : List Deferred} : VRs E fs us → VRs E cs vs → DfR E l ds → DfR E (.clo f fs cs :: l) ({ target := .fn (.func f) vs.toArray, args := us.toArray } :: ds)
theorem DfR.le {E E' : Emb} (h : E.le E') : ∀ {l : List CV} {ds : List Deferred}, DfR E l ds → DfR E' l ds
  | _, _, .nil => .nil
  | _, _, .cons a b c => .cons (a.le h) (b.le h) (c.le h)
/-- The temporaries that are known. -/
structure AR (E : Emb) (N : Nat) (env : Tr CV) (a : Act) : Prop where
  size : a.tmps.size = N
  df : DfR E (dfOf env N) a.defers
  get : ∀ t c, env.get t = some c → isDfr c = false → VR E c (a.tmps.getD t undef)
theorem AR.le {E E' : Emb} (h : E.le E') {N : Nat} {env : Tr CV} {a : Act} (k : AR E N env a) : AR E' N env a := ⟨k.size, k.df.le h, fun t c e d => (k.get t c e d).le h⟩
def eput (env : Tr CV) (t : Nat) (c : CV) : Tr CV := env.put (some c) TD t
theorem dfOf_put {env : Tr CV} {d N : Nat} {v : Option CV} (hd : d ≠ N) (hk : d < keyMax) : dfOf (env.put v TD d) N = dfOf env N := by
  unfold dfOf
  rw [Tr.get_put _ TD env d N (by unfold keyMax at hk; omega), if_neg (fun e => hd e.symm)]
theorem AR.put {E : Emb} {N : Nat} {env : Tr CV} {a : Act} (k : AR E N env a) {d : Nat} (hd : d < N) (hk : d < keyMax) {c : CV} {u : Value} (h : VR E c u) : AR E N (eput env d c) (a.put (some d) u) := by
  refine ⟨by simpa [Act.put] using k.size, by unfold eput; rw [dfOf_put (Nat.ne_of_lt hd) hk]; exact k.df, fun t x hx hdf => ?_⟩
  have e : (a.put (some d) u).tmps.getD t undef = if d = t then u else a.tmps.getD t undef := by
    simp only [Act.put, Array.getD_eq_getD_getElem?, Array.getElem?_setIfInBounds]
    by_cases e : d = t
    · subst e
      rw [if_pos rfl, if_pos rfl, if_pos (by rw [k.size]; exact hd)]
      rfl
    · rw [if_neg e, if_neg e]
  rw [e]
  unfold eput at hx
  rw [Tr.get_put _ TD env d t (by unfold keyMax at hk; omega)] at hx
  by_cases q : t = d
  · rw [if_pos q] at hx
    injection hx with hx
    subst hx
    rw [if_pos q.symm]
    exact h
  · rw [if_neg q] at hx
    rw [if_neg (fun a => q a.symm)]
    exact k.get t x hx hdf

def ev (T : Tab) (env : Tr CV) : Operand → Option CV
  | .tmp t => match env.get t with
    | some (.dfr _) => none
    | r => r
  | .const v => cvOf v
  | .global g => match T.gl g with
    | true => some (.ptr g 0)
    | false => none
  | .func f => some (.fn f)
theorem ev_ok {T : Tab} {E : Emb} {N : Nat} {env : Tr CV} {a : Act} (G : GlE T E) (A : AR E N env a) {x : Operand} {c : CV} (h : ev T env x = some c) : VR E c (a.eval x) := by
  unfold ev at h
  split at h
  · split at h
    · cases h
    · rename_i hne
      refine A.get _ _ h ?_
      cases c <;> first | rfl | exact absurd h (hne _)
  · exact cvOf_ok h
  · rename_i g
    split at h
    · rename_i hg
      injection h with h
      subst h
      obtain ⟨g1, g2, g3⟩ := G.1 g hg
      have := VR.ptr (E := E) g 0 g1
      rw [g2, g3] at this
      exact this
    · cases h
  · rename_i f
    injection h with h
    subst h
    exact .fn f
def evs (T : Tab) (env : Tr CV) : List Operand → Option (List CV)
  | [] => some []
  | x :: xs => match ev T env x, evs T env xs with
    | some c, some cs => some (c :: cs)
    | _, _ => none
theorem evs_ok {T : Tab} {E : Emb} {N : Nat} {env : Tr CV} {a : Act} (G : GlE T E) (A : AR E N env a) : ∀ {xs : List Operand} {cs : List CV}, evs T env xs = some cs → VRs E cs (xs.map a.eval)
  | [], _, h => by injection h with h; subst h; exact .nil
  | x :: xs, cs, h => by
    unfold evs at h
    split at h
    · rename_i c cs' h1 h2
      injection h with h
      subst h
      exact .cons (ev_ok G A h1) (evs_ok G A h2)
    · cases h

/-- The machine's own reckoning, where it looks at no world. -/
def semP {α : Type} (P : Program) : Sem α → Option α
  | .pure a => some a
  | .program k => semP P (k P)
  | _ => none
theorem semP_ok {α : Type} {P : Program} : ∀ {s : Sem α} {v : α}, semP P s = some v → ∀ w, s.run P w = .ok v w
  | .pure a, v, h, w => by
    unfold semP at h
    injection h with h
    subst h
    rfl
  | .program k, v, h, w => by
    unfold semP at h
    have := semP_ok h w
    simpa [Sem.run] using this
  | .load .., _, h, _ | .store .., _, h, _ | .new .., _, h, _ | .shape .., _, h, _ | .freeze .., _, h, _ | .frozen .., _, h, _ | .getObj .., _, h, _ | .setObj .., _, h, _ | .choose .., _, h, _ | .sys .., _, h, _ | .mark .., _, h, _ | .halt .., _, h, _ => by
    simp [semP] at h
mutual
/-- A value without places, as the machine has it. -/
def conc : CV → Option Value
  | .int k n => some (.int k n)
  | .bool b => some (.bool b)
  | .str s => some (.string ⟨s.toArray⟩)
  | .nilp => some (.pointer none)
  | .nils => some (.slice none 0 0)
  | .nilf => some .nilFunc
  | .nili => some .nilIface
  | .agg cs => match concs cs with
    | some us => some (.agg us.toArray)
    | none => none
  | _ => none
def concs : List CV → Option (List Value)
  | [] => some []
  | c :: cs => match conc c, concs cs with
    | some u, some us => some (u :: us)
    | _, _ => none
end
mutual
theorem conc_eq {E : Emb} : ∀ {c : CV} {v : Value}, VR E c v → ∀ {u : Value}, conc c = some u → v = u
  | _, _, .int k n, _, h => by simp only [conc, Option.some.injEq] at h; exact h
  | _, _, .bool b, _, h => by simp only [conc, Option.some.injEq] at h; exact h
  | _, _, .str s, _, h => by simp only [conc, Option.some.injEq] at h; exact h
  | _, _, .nilp, _, h => by simp only [conc, Option.some.injEq] at h; exact h
  | _, _, .nils, _, h => by simp only [conc, Option.some.injEq] at h; exact h
  | _, _, .nilf, _, h => by simp only [conc, Option.some.injEq] at h; exact h
  | _, _, .nili, _, h => by simp only [conc, Option.some.injEq] at h; exact h
  | _, _, .agg cs us hs, _, h => by
    simp only [conc] at h
    split at h
    · rename_i vs hv
      injection h with h
      rw [← h, concs_eq hs hv]
    · cases h
  | _, _, .ptr _ _ _, _, h => by simp [conc] at h
  | _, _, .sl _ _ _ _ _, _, h => by simp [conc] at h
  | _, _, .tup _ _ _, _, h => by simp [conc] at h
  | _, _, .fn _, _, h => by simp [conc] at h
  | _, _, .clo _ _ _ _ _ _ _, _, h => by simp [conc] at h
  | _, _, .undef, _, h => by simp [conc] at h
  | _, _, .sym _, _, h => by simp [conc] at h
theorem concs_eq {E : Emb} : ∀ {cs : List CV} {vs : List Value}, VRs E cs vs → ∀ {us : List Value}, concs cs = some us → vs = us
  | _, _, .nil, _, h => by simp only [concs, Option.some.injEq] at h; exact h
  | _, _, .cons a b, _, h => by
    simp only [concs] at h
    split at h
    · rename_i u us h1 h2
      injection h with h
      rw [← h, conc_eq a h1, concs_eq b h2]
    · cases h
end
end Go.Proofs.YthdbddolkfibkaaGreatDoor
