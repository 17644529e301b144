
/- A reckoner for whole calls on known inputs, part 6: comparisons, arithmetic, conversions, slices of slices, lengths. -/
import Derived.Test.YthdbddolkfibkaaGreatDoorEv5
import Derived.Laws.IdiomStrings
set_option linter.unusedSimpArgs false
set_option linter.unusedVariables false
namespace Go.Proofs.YthdbddolkfibkaaGreatDoor
open Go.RowKit
section
variable {P : Program}
def forceNat {α : Type} (m : Nat) (k : Nat → α) : α := Nat.rec (motive := fun _ => α) (k 0) (fun j _ => k (j + 1)) m
theorem forceNat_eq {α : Type} (m : Nat) (k : Nat → α) : forceNat m k = k m := by cases m <;> rfl
/-- A whole number reckoned out before it goes on. -/
def force {α : Type} (c : CV) (k : CV → α) : α :=
  match c with
  | .int q (.ofNat m) => forceNat m fun m => k (.int q (.ofNat m))
  | .int q (.negSucc m) => forceNat m fun m => k (.int q (.negSucc m))
  | .bool true => k (.bool true)
  | .bool false => k (.bool false)
  | c => k c
theorem force_eq {α : Type} (c : CV) (k : CV → α) : force c k = k c := by
  unfold force
  split <;> first | rfl | exact forceNat_eq _ _

def cCmp (T : Tab) (op : BinOp) (t : Nat) (a b : CV) : Option CV :=
  let r (x : Bool) : Option CV := match op with
    | .eql => some (.bool x)
    | .neq => some (.bool (!x))
    | _ => none
  match T.ty.get t with
  | none => none
  | some i => match i.k, a, b with
    | .ptr _, .ptr _ _, .nilp => r false
    | .ptr _, .nilp, .ptr _ _ => r false
    | .ptr e, .ptr g o, .ptr g' o' => match Nat.beq g g', T.ty.get e with
      | true, some ie => match Nat.beq ie.size 0 with
        | false => r (Nat.beq o o')
        | true => none
      | _, _ => none
    | .slice _, .sl _ _ _ _, .nils => r false
    | .slice _, .nils, .sl _ _ _ _ => r false
    | .func, .fn _, .nilf => r false
    | .func, .nilf, .fn _ => r false
    | .func, .clo _ _ _, .nilf => r false
    | .func, .nilf, .clo _ _ _ => r false
    | .slice _, .sle _ _, .nils => r false
    | .map _ _, .map _, .mapnil => r false
    | _, _, _ => none
theorem cmp_run {op : BinOp} {t : Nat} {X Y : Operand} {u v : Value} {x : Bool} {w : World} {r : CV} {E : Emb} (h : (Op.equal t u v).run P w = .ok x w) (hg : ∀ op, (eqGuard op t X Y u v).run P w = .ok () w)
    (hb1 : binOp .eql t u v = do pure (.bool (← Op.equal t u v))) (hb2 : binOp .neq t u v = do pure (.bool (!(← Op.equal t u v))))
    (hr : (match op with | .eql => some (CV.bool x) | .neq => some (.bool (!x)) | _ => none) = some r) :
    ∃ z, (do eqGuard op t X Y u v; binOp op t u v : Sem Value).run P w = .ok z w ∧ VR E r z := by
  cases op <;> simp only [Option.some.injEq, reduceCtorEq] at hr
  · subst hr
    exact ⟨.bool x, by rw [Sem.run_bind, hg]; simp only [Result.andThen_ok, hb1, Sem.run_bind, h, Sem.run_pure], .bool _⟩
  · subst hr
    exact ⟨.bool (!x), by rw [Sem.run_bind, hg]; simp only [Result.andThen_ok, hb2, Sem.run_bind, h, Sem.run_pure], .bool _⟩
theorem guard_any (op : BinOp) (t : Nat) (X Y : Operand) {u v : Value} (hu : (match u with | .nilIface => false | .agg _ => false | _ => true) = true) (w : World) : (eqGuard op t X Y u v).run P w = .ok () w := by
  unfold eqGuard
  cases op <;> cases u <;> simp at hu ⊢
theorem eqIn_ptr_nil {t e : Nat} {w : World} (h : P.underlying t = some (.pointer e)) (a : Addr) (d : Nat) : (Op.equalIn (d + 1) t (.pointer (some a)) (.pointer none)).run P w = .ok false w := by
  unfold Op.equalIn
  rw [Sem.run_bind, run_underlying h w]
  rfl
theorem eqIn_nil_ptr {t e : Nat} {w : World} (h : P.underlying t = some (.pointer e)) (a : Addr) (d : Nat) : (Op.equalIn (d + 1) t (.pointer none) (.pointer (some a))).run P w = .ok false w := by
  unfold Op.equalIn
  rw [Sem.run_bind, run_underlying h w]
  rfl
theorem eqIn_sl_nil {t e : Nat} {w : World} (h : P.underlying t = some (.slice e)) (a : Addr) (n c : Nat) (d : Nat) : (Op.equalIn (d + 1) t (.slice (some a) n c) (.slice none 0 0)).run P w = .ok false w := by
  unfold Op.equalIn
  rw [Sem.run_bind, run_underlying h w]
  rfl
theorem eqIn_nil_sl {t e : Nat} {w : World} (h : P.underlying t = some (.slice e)) (a : Addr) (n c : Nat) (d : Nat) : (Op.equalIn (d + 1) t (.slice none 0 0) (.slice (some a) n c)).run P w = .ok false w := by
  unfold Op.equalIn
  rw [Sem.run_bind, run_underlying h w]
  rfl
theorem eqIn_fn_nil {t : Nat} {x y z} {w : World} (h : P.underlying t = some (.func x y z)) (f : Fn) (p q : Array Value) (d : Nat) : (Op.equalIn (d + 1) t (.func f p q) .nilFunc).run P w = .ok false w := by
  unfold Op.equalIn
  rw [Sem.run_bind, run_underlying h w]
  rfl
theorem eqIn_nil_fn {t : Nat} {x y z} {w : World} (h : P.underlying t = some (.func x y z)) (f : Fn) (p q : Array Value) (d : Nat) : (Op.equalIn (d + 1) t .nilFunc (.func f p q)).run P w = .ok false w := by
  unfold Op.equalIn
  rw [Sem.run_bind, run_underlying h w]
  rfl
theorem eqIn_map_nil {t k e : Nat} {w : World} (h : P.underlying t = some (.map k e)) (m : Nat) (d : Nat) : (Op.equalIn (d + 1) t (.map (some m)) (.map none)).run P w = .ok false w := by
  unfold Op.equalIn
  rw [Sem.run_bind, run_underlying h w]
  rfl
theorem eqIn_ptr {t e n : Nat} {w : World} (h : P.underlying t = some (.pointer e)) (hs : (sizeOf e).run P w = .ok n w) (hn : n ≠ 0) (b o o' : Nat) (d : Nat) : (Op.equalIn (d + 1) t (.pointer (some ⟨b, o, none⟩)) (.pointer (some ⟨b, o', none⟩))).run P w = .ok (Nat.beq o o') w := by
  unfold Op.equalIn
  rw [Sem.run_bind, run_underlying h w]
  simp only [Result.andThen_ok, Sem.run_bind, hs]
  rw [if_pos hn]
  simp only [sameAddr, beq_self_eq_true, if_true]
  show Sem.run P (pure _) w = _
  rw [Sem.run_pure]
  congr 1
  rw [Bool.eq_iff_iff, Nat.beq_eq]
  simp
theorem cCmp_ok {T : Tab} (hT : TabOk P T) {E : Emb} {op : BinOp} {t : Nat} {X Y : Operand} {a b r : CV} (h : cCmp T op t a b = some r) {u v : Value} (hu : VR E a u) (hv : VR E b v) (w : World) :
    ∃ z, (do eqGuard op t X Y u v; binOp op t u v : Sem Value).run P w = .ok z w ∧ VR E r z := by
  unfold cCmp at h
  simp only at h
  split at h
  · cases h
  · rename_i i hi
    obtain ⟨d, n, z', h1, h2, h3, h4, h5, h6, h7, h8⟩ := (hT.ty _ _ hi).ex
    split at h
    · rename_i e g o hk
      cases hu with
      | ptr _ _ hon =>
      cases hv with
      | nilp =>
      obtain rfl := kind_ptr (h3.symm.trans hk)
      exact cmp_run (x := false) (eqIn_ptr_nil h1 _ 9999) (fun op => guard_any op t X Y rfl w) rfl rfl h
    · rename_i e g o hk
      cases hv with
      | ptr _ _ hon =>
      cases hu with
      | nilp =>
      obtain rfl := kind_ptr (h3.symm.trans hk)
      exact cmp_run (x := false) (eqIn_nil_ptr h1 _ 9999) (fun op => guard_any op t X Y rfl w) rfl rfl h
    · rename_i e g o g' o' hk
      split at h
      · rename_i ie hgg hie
        split at h
        · rename_i hz
          have hz' : ie.size ≠ 0 := by
            intro q
            rw [q] at hz
            exact absurd hz (by decide)
          have hgg := Nat.eq_of_beq_eq_true hgg
          subst hgg
          cases hv with
          | ptr _ _ hon' =>
          cases hu with
          | ptr _ _ hon =>
          obtain rfl := kind_ptr (h3.symm.trans hk)
          have e1 := eqIn_ptr (w := w) h1 ((hT.ty _ _ hie).size w) hz' (E.adr g) (E.off g + o) (E.off g + o') 9999
          rw [show Nat.beq (E.off g + o) (E.off g + o') = Nat.beq o o' by rw [Bool.eq_iff_iff, Nat.beq_eq, Nat.beq_eq]; omega] at e1
          exact cmp_run e1 (fun op => guard_any op t X Y rfl w) rfl rfl h
        · cases h
      · cases h
    · rename_i e g o n k hk
      cases hu with
      | sl _ _ _ _ hon =>
      cases hv with
      | nils =>
      obtain rfl := kind_slice (h3.symm.trans hk)
      exact cmp_run (x := false) (eqIn_sl_nil h1 _ _ _ 9999) (fun op => guard_any op t X Y rfl w) rfl rfl h
    · rename_i e g o n k hk
      cases hv with
      | sl _ _ _ _ hon =>
      cases hu with
      | nils =>
      obtain rfl := kind_slice (h3.symm.trans hk)
      exact cmp_run (x := false) (eqIn_nil_sl h1 _ _ _ 9999) (fun op => guard_any op t X Y rfl w) rfl rfl h
    · rename_i f hk
      cases hu with
      | fn =>
      cases hv with
      | nilf =>
      obtain ⟨_, _, _, rfl⟩ := kind_func (h3.symm.trans hk)
      exact cmp_run (x := false) (eqIn_fn_nil h1 _ _ _ 9999) (fun op => guard_any op t X Y rfl w) rfl rfl h
    · rename_i f hk
      cases hv with
      | fn =>
      cases hu with
      | nilf =>
      obtain ⟨_, _, _, rfl⟩ := kind_func (h3.symm.trans hk)
      exact cmp_run (x := false) (eqIn_nil_fn h1 _ _ _ 9999) (fun op => guard_any op t X Y rfl w) rfl rfl h
    · rename_i f fs cs hk
      cases hu with
      | clo =>
      cases hv with
      | nilf =>
      obtain ⟨_, _, _, rfl⟩ := kind_func (h3.symm.trans hk)
      exact cmp_run (x := false) (eqIn_fn_nil h1 _ _ _ 9999) (fun op => guard_any op t X Y rfl w) rfl rfl h
    · rename_i f fs cs hk
      cases hv with
      | clo =>
      cases hu with
      | nilf =>
      obtain ⟨_, _, _, rfl⟩ := kind_func (h3.symm.trans hk)
      exact cmp_run (x := false) (eqIn_nil_fn h1 _ _ _ 9999) (fun op => guard_any op t X Y rfl w) rfl rfl h
    · rename_i e g o hk
      cases hu with
      | sle _ _ hon =>
      cases hv with
      | nils =>
      obtain rfl := kind_slice (h3.symm.trans hk)
      exact cmp_run (x := false) (eqIn_sl_nil h1 _ _ _ 9999) (fun op => guard_any op t X Y rfl w) rfl rfl h
    · rename_i e k g hk
      cases hu with
      | map _ hon =>
      cases hv with
      | mapnil =>
      obtain rfl := kind_map (h3.symm.trans hk)
      exact cmp_run (x := false) (eqIn_map_nil h1 _ 9999) (fun op => guard_any op t X Y rfl w) rfl rfl h
    · cases h
def cBin (P : Program) (T : Tab) (op : BinOp) (t : Nat) (X Y : Operand) (a b : CV) : Option CV :=
  match conc a, conc b with
  | some u, some v => match semP P (do eqGuard op t X Y u v; binOp op t u v) with
    | some r => cvOf r
    | none => none
  | _, _ => match isSym a || isSym b with
    | true => T.sb op t a b
    | false => cCmp T op t a b
theorem cBin_ok {T : Tab} (hT : TabOk P T) {E : Emb} (hy : E.sy = T.sy) {op : BinOp} {t : Nat} {X Y : Operand} {a b r : CV} (h : cBin P T op t X Y a b = some r) {u v : Value} (hu : VR E a u) (hv : VR E b v) (w : World) :
    ∃ z, (do eqGuard op t X Y u v; binOp op t u v : Sem Value).run P w = .ok z w ∧ VR E r z := by
  unfold cBin at h
  split at h
  · rename_i u' v' h1 h2
    have e1 := conc_eq hu h1
    have e2 := conc_eq hv h2
    subst e1 e2
    split at h
    · rename_i z hz
      exact ⟨z, semP_ok hz w, cvOf_ok h⟩
    · cases h
  · split at h
    · obtain ⟨u', v', z, a1, a2, a3, a4⟩ := hT.sym.sb _ _ _ _ _ h
      rw [← hy] at a1 a2 a3
      rw [sv_eq hu a1, sv_eq hv a2]
      exact ⟨z, a4 X Y w, sv_vr a3⟩
    · exact cCmp_ok hT h hu hv w
def cUn (P : Program) (op : UnOp) (a : CV) : Option CV :=
  match conc a with
  | some u => match semP P (Op.unary op u) with
    | some r => cvOf r
    | none => none
  | none => none
theorem cUn_ok {E : Emb} {op : UnOp} {a r : CV} (h : cUn P op a = some r) {u : Value} (hu : VR E a u) (w : World) : ∃ z, (Op.unary op u).run P w = .ok z w ∧ VR E r z := by
  unfold cUn at h
  split at h
  · rename_i u' h1
    have e1 := conc_eq hu h1
    subst e1
    split at h
    · rename_i z hz
      exact ⟨z, semP_ok hz w, cvOf_ok h⟩
    · cases h
  · cases h
/-- Bytes, as a string has them. -/
def bytesOf : List CV → Option (List UInt8)
  | [] => some []
  | .int .u8 (.ofNat n) :: cs => match Nat.ble n 255, bytesOf cs with
    | true, some bs => some (UInt8.ofNat n :: bs)
    | _, _ => none
  | _ => none
theorem bytesOf_ok {E : Emb} : ∀ {cs : List CV} {bs : List UInt8}, bytesOf cs = some bs → ∀ {us : List Value}, VRs E cs us → us = bs.map fun b => .int .u8 (b.toNat : Int)
  | [], _, h, _, .nil => by injection h with h; subst h; rfl
  | c :: cs, bs, h, _, .cons (us := us) a b => by
    unfold bytesOf at h
    split at h
    · rename_i he
      cases he
    · rename_i n cs' he
      injection he with e1 e2
      subst e1 e2
      split at h
      · rename_i bs' h1 h2
        injection h with h
        subst h
        cases a
        rw [List.map_cons, bytesOf_ok h2 b]
        have h1 := Nat.le_of_ble_eq_true h1
        have : (UInt8.ofNat n).toNat = n := by simp; omega
        rw [this]
        rfl
      · cases h
    · cases h
def cConv (P : Program) (T : Tab) (h : Tr (List CV)) (src dst : Nat) (a : CV) : Option CV :=
  match conc a with
  | some u => match semP P (convert src dst u) with
    | some r => cvOf r
    | none => none
  | none => match a, T.ty.get src, T.ty.get dst with
    | .sl g o n k, some ⟨.slice e, _, _, _⟩, some ⟨.str, _, _, _⟩ => match T.ty.get e, hget h g, Nat.beq k 1 with
      | some ⟨.int .u8, _, _, _⟩, some cs, true => match Nat.ble (o + n) cs.length, bytesOf ((cs.drop o).take n) with
        | true, some bs => some (.str bs)
        | _, _ => none
      | _, _, _ => none
    | _, _, _ => none
theorem cConv_ok {T : Tab} (hT : TabOk P T) {E : Emb} {hp : Tr (List CV)} {nx : Nat} {w : World} (W : WR E hp nx w) {src dst : Nat} {a r : CV} (h : cConv P T hp src dst a = some r) {u : Value} (hu : VR E a u) :
    ∃ z, (convert src dst u).run P w = .ok z w ∧ VR E r z := by
  unfold cConv at h
  split at h
  · rename_i u' h1
    have e1 := conc_eq hu h1
    subst e1
    split at h
    · rename_i z hz
      exact ⟨z, semP_ok hz w, cvOf_ok h⟩
    · cases h
  · split at h
    · rename_i g o n k e s1 b1 z1 s2 b2 z2 hs hd _
      split at h
      · rename_i s3 b3 z3 cs he hg hk1
        split at h
        · rename_i bs hl hb
          injection h with h
          subst h
          have hl := Nat.le_of_ble_eq_true hl
          have hk1 := Nat.eq_of_beq_eq_true hk1
          subst hk1
          cases hu with
          | sl _ _ _ _ hon =>
          obtain ⟨d1, n1, y1, a1, a2, a3, _⟩ := (hT.ty _ _ hs).ex
          obtain ⟨d2, n2, y2, c1, c2, c3, _⟩ := (hT.ty _ _ hd).ex
          obtain ⟨d3, n3, y3, f1, f2, f3, _⟩ := (hT.ty _ _ he).ex
          obtain rfl := kind_slice a3.symm
          obtain rfl := kind_str c3.symm
          obtain rfl := kind_int f3.symm
          obtain ⟨us, u1, u2, u3, u4⟩ := W.row hon hg hl
          have hus := bytesOf_ok hb u2
          have hn : n = bs.length := by rw [← u1, hus]; simp
          subst hn
          refine ⟨_, run_convert_bytes_back w src dst e ⟨E.adr g, E.off g + o, none⟩ ((E.cap g - o) / 1) bs a1 f1 c1 (fun j hj => ?_), .str bs⟩
          rw [add_mid']
          refine u4 j _ ?_
          rw [hus, List.getElem?_map, List.getElem?_eq_getElem hj]
          rfl
        · cases h
      · cases h
    · cases h
/-- A slice of a slice, or of a string. -/
def optNat : Option CV → Nat → Option Nat
  | none, d => some d
  | some c, _ => natOf c
inductive OR (E : Emb) : Option CV → Option Value → Prop
  | none : OR E none none
  | some {c : CV} {u : Value} : VR E c u → OR E (some c) (some u)
def cSlice (T : Tab) (h : Tr (List CV)) (t : Nat) (c : CV) (lo hi : Option CV) : Option CV :=
  match T.ty.get t with
  | some ⟨.slice e, _, _, _⟩ => match c with
    | .sl g o n k => match hget h g, optNat lo 0, optNat hi n, T.ty.get e with
      | some cs, some l, some m, some ie => match Nat.ble l m, Nat.ble (o + m * k) cs.length, Nat.ble (o + (l + 1) * k) cs.length, Nat.ble 1 k, Nat.beq ie.size k with
        | true, true, true, true, true => some (.sl g (o + l * k) (m - l) k)
        | _, _, _, _, _ => none
      | _, _, _, _ => none
    | .nils => match optNat lo 0, optNat hi 0, T.ty.get e with
      | some 0, some 0, some _ => some .nils
      | _, _, _ => none
    | _ => none
  | some ⟨.str, _, _, _⟩ => match c with
    | .str s => match optNat lo 0, optNat hi s.length with
      | some l, some m => match Nat.ble l m, Nat.ble m s.length with
        | true, true => some (.str ((s.drop l).take (m - l)))
        | _, _ => none
      | _, _ => none
    | _ => none
  | _ => none
theorem optNat_ok {E : Emb} {c : Option CV} {d n : Nat} (h : optNat c d = some n) {u : Option Value} (hu : OR E c u) : (u = none ∧ n = d) ∨ ∃ k, u = some (.int k n) := by
  cases hu with
  | none =>
    injection h with h
    exact .inl ⟨rfl, h.symm⟩
  | some hv =>
    obtain ⟨k, rfl⟩ := natOf_ok (h : natOf _ = some n) hv
    exact .inr ⟨k, rfl⟩
theorem bounds_ok {isS : Bool} {len cap l m : Nat} {lo hi : Option Value} (h1 : (lo = none ∧ l = 0) ∨ ∃ k, lo = some (.int k l)) (h2 : (hi = none ∧ m = len) ∨ ∃ k, hi = some (.int k m)) (hlm : l ≤ m) (hmc : m ≤ cap) (w : World) :
    (Instr.sliceBounds isS len cap lo hi none).run P w = .ok (l, m, cap) w := by
  unfold Instr.sliceBounds
  rcases h2 with ⟨rfl, rfl⟩ | ⟨k2, rfl⟩ <;> rcases h1 with ⟨rfl, rfl⟩ | ⟨k1, rfl⟩ <;> cases isS <;>
    simp [Instr.sliceBound, asIntOf, Sem.run_bind, Sem.run_pure, hlm, hmc]
theorem cSlice_ok {T : Tab} (hT : TabOk P T) {E : Emb} {hp : Tr (List CV)} {nx : Nat} {w : World} (W : WR E hp nx w) {t : Nat} {c r : CV} {lo hi : Option CV} (h : cSlice T hp t c lo hi = some r) {u : Value} {lo' hi' : Option Value} (hu : VR E c u)
    (hl : OR E lo lo') (hh : OR E hi hi') : ∃ z, (Instr.sliceAt t u lo' hi' none).run P w = .ok z w ∧ VR E r z := by
  unfold cSlice at h
  split at h
  · rename_i e s1 b1 z1 ht
    obtain ⟨d, nn, z', h1, h2, h3, h4, h5, h6, h7⟩ := (hT.ty _ _ ht).ex
    obtain rfl := kind_slice h3.symm
    cases c with
    | sl g o n k =>
      simp only at h
      split at h
      · rename_i cs l m ie hg e1 e2 he
        split at h
        · rename_i q1 q2 q3 q4 q5
          injection h with h
          subst h
          have q1 := Nat.le_of_ble_eq_true q1
          have q2 := Nat.le_of_ble_eq_true q2
          have q3 := Nat.le_of_ble_eq_true q3
          have q4 := Nat.le_of_ble_eq_true q4
          have q5 := Nat.eq_of_beq_eq_true q5
          cases hu with
          | sl _ _ _ _ hon =>
          obtain ⟨cc, TT, fz, b1, b2, b3, b4, b5⟩ := W.bk g cs hon hg
          have c1 := optNat_ok e1 hl
          have c2 := optNat_ok e2 hh
          have hk : 0 < k := q4
          have hcap : o + (l + 1) * k ≤ E.cap g := Nat.le_trans q3 b3
          have hm : m ≤ (E.cap g - o) / k := (Nat.le_div_iff_mul_le hk).2 (by have := Nat.le_trans q2 b3; omega)
          have hl2 : l + 1 ≤ (E.cap g - o) / k := (Nat.le_div_iff_mul_le hk).2 (by omega)
          refine ⟨.slice (some ⟨E.adr g, E.off g + (o + l * k), none⟩) (m - l) ((E.cap g - (o + l * k)) / k), ?_, .sl g (o + l * k) (m - l) k hon⟩
          unfold Instr.sliceAt
          simp only [Sem.run_bind, run_underlying h1 w, Result.andThen_ok]
          unfold Instr.slice
          simp only [Sem.run_bind, run_underlying h1 w, Result.andThen_ok, bounds_ok c1 c2 q1 hm w, Sem.run_pure, (hT.ty _ _ he).size w, q5]
          rw [if_neg (by omega), show (E.cap g - (o + l * k)) / k = (E.cap g - o) / k - l by
            rw [← Nat.sub_sub, Nat.mul_comm l k, Nat.sub_mul_div]
            ]
          simp only [Option.map_some, add_mid', Nat.add_assoc]
        · cases h
      · cases h
    | nils =>
      simp only at h
      split at h
      · rename_i ie e1 e2 he
        injection h with h
        subst h
        cases hu with
        | nils =>
        refine ⟨.slice none 0 0, ?_, .nils⟩
        unfold Instr.sliceAt
        simp only [Sem.run_bind, run_underlying h1 w, Result.andThen_ok]
        unfold Instr.slice
        simp only [Sem.run_bind, run_underlying h1 w, Result.andThen_ok, bounds_ok (optNat_ok e1 hl) (optNat_ok e2 hh) (Nat.le_refl 0) (Nat.le_refl 0) w, Sem.run_pure, (hT.ty _ _ he).size w]
        rfl
      · cases h
    | _ => cases h
  · rename_i s1 b1 z1 ht
    obtain ⟨d, nn, z', h1, h2, h3, h4, h5, h6, h7⟩ := (hT.ty _ _ ht).ex
    obtain rfl := kind_str h3.symm
    cases c with
    | str s =>
      simp only at h
      split at h
      · rename_i l m e1 e2
        split at h
        · rename_i q1 q2
          injection h with h
          subst h
          have q1 := Nat.le_of_ble_eq_true q1
          have q2 := Nat.le_of_ble_eq_true q2
          cases hu with
          | str =>
          have e2' := optNat_ok e2 hh
          have hsz : (⟨s.toArray⟩ : ByteArray).size = s.length := by show s.toArray.size = s.length; simp
          refine ⟨.string ⟨((s.drop l).take (m - l)).toArray⟩, ?_, .str _⟩
          unfold Instr.sliceAt
          simp only [Sem.run_bind, run_underlying h1 w, Result.andThen_ok]
          unfold Instr.slice
          simp only [Sem.run_bind, run_underlying h1 w, Result.andThen_ok, hsz, Option.isSome_none, Bool.false_eq_true, if_false, Sem.run_pure, bounds_ok (optNat_ok e1 hl) e2' q1 q2 w]
          congr 2
          apply ByteArray.ext
          apply Array.ext'
          simp [ByteArray.extract, ByteArray.copySlice, List.extract_eq_take_drop]
        · cases h
      · cases h
    | _ => cases h
  · cases h
/-- A length. -/
def cLen (T : Tab) (t : Nat) (c : CV) : Option CV :=
  match c with
  | .sl _ _ n _ => match T.ty.get t with
    | some ⟨.slice _, _, _, _⟩ => some (.int .i64 (.ofNat n))
    | _ => none
  | .nils => match T.ty.get t with
    | some ⟨.slice _, _, _, _⟩ => some (.int .i64 (.ofNat 0))
    | _ => none
  | .str s => match T.ty.get t with
    | some ⟨.str, _, _, _⟩ => some (.int .i64 (.ofNat s.length))
    | _ => none
  | .agg _ => match T.ty.get t with
    | some ⟨.array n _, _, _, _⟩ => some (.int .i64 (.ofNat n))
    | _ => none
  | _ => none
theorem cLen_ok {T : Tab} (hT : TabOk P T) {E : Emb} {t : Nat} {c r : CV} (h : cLen T t c = some r) {u : Value} (hu : VR E c u) (ty : TypeId) (cs : Array Bool) (w : World) : ∃ z, (builtin .len #[t] ty cs #[u]).run P w = .ok (.value z) w ∧ VR E r z := by
  have key : ∀ n : Nat, (Builtin.len_ #[t] ty #[u]).run P w = .ok (goInt n) w → r = .int .i64 (.ofNat n) → ∃ z, (builtin .len #[t] ty cs #[u]).run P w = .ok (.value z) w ∧ VR E r z := fun n h1 h2 => by
    refine ⟨goInt n, ?_, by rw [h2]; exact .int _ _⟩
    unfold builtin
    simp only [Sem.run_bind, h1, Result.andThen_ok, Sem.run_pure]
  cases c with
  | sl g o n k =>
    simp only [cLen] at h
    split at h
    · rename_i e s1 b1 z1 ht
      obtain ⟨d, nn, z', h1, h2, h3, _⟩ := (hT.ty _ _ ht).ex
      obtain rfl := kind_slice h3.symm
      injection h with h
      cases hu
      refine key n ?_ h.symm
      unfold Builtin.len_
      simp only [List.getElem?_toArray, List.getElem?_cons_zero, Sem.run_bind, run_underlying h1 w, Result.andThen_ok, Sem.run_pure]
    · cases h
  | nils =>
    simp only [cLen] at h
    split at h
    · rename_i e s1 b1 z1 ht
      obtain ⟨d, nn, z', h1, h2, h3, _⟩ := (hT.ty _ _ ht).ex
      obtain rfl := kind_slice h3.symm
      injection h with h
      cases hu
      refine key 0 ?_ h.symm
      unfold Builtin.len_
      simp only [List.getElem?_toArray, List.getElem?_cons_zero, Sem.run_bind, run_underlying h1 w, Result.andThen_ok, Sem.run_pure]
    · cases h
  | str s =>
    simp only [cLen] at h
    split at h
    · rename_i s1 b1 z1 ht
      obtain ⟨d, nn, z', h1, h2, h3, _⟩ := (hT.ty _ _ ht).ex
      obtain rfl := kind_str h3.symm
      injection h with h
      cases hu
      refine key s.length ?_ h.symm
      have hsz : (⟨s.toArray⟩ : ByteArray).size = s.length := by show s.toArray.size = s.length; simp
      unfold Builtin.len_
      simp only [List.getElem?_toArray, List.getElem?_cons_zero, Sem.run_bind, run_underlying h1 w, Result.andThen_ok, Sem.run_pure, hsz]
    · cases h
  | agg cs =>
    simp only [cLen] at h
    split at h
    · rename_i n e s1 b1 z1 ht
      obtain ⟨d, nn, z', h1, h2, h3, _⟩ := (hT.ty _ _ ht).ex
      obtain rfl := kind_array h3.symm
      injection h with h
      cases hu
      refine key n ?_ h.symm
      unfold Builtin.len_
      simp only [List.getElem?_toArray, List.getElem?_cons_zero, Sem.run_bind, run_underlying h1 w, Result.andThen_ok, Sem.run_pure]
    · cases h
  | _ => cases h
end
end Go.Proofs.YthdbddolkfibkaaGreatDoor
