/- A call's own memory as one fact: append on slices of any type; slices of the call's own that are cut or written. A call's own memory as one fact: a struct is loaded, or stored, as a whole. Laws of layer 6, the third part: supers, fields, composite types, declared types, groups; and the way back: what is put is read. Laws of layer 6, the fourth part: what is put is read as it was, whatever stands behind. Laws of layer 7, the first part: opcodes, numbers, blocks, what is caught: put and read. Laws of layer 7, the second part: numbers, lists, blocks, what is caught: put and read. Laws of layer 7, the third part: a block's type: put and read. Laws of layer 7, the fourth part: instructions: put and read. The walk of layer 7: may all instructions of a row stand? Laws of layer 7, the fifth part: instructions and expressions: put and read. The walk of the program's PutVals (layer 6). The walks of layer 7: what is put, its small parts. The walk of layer 7: what of an instruction is put behind its opcode. Made by tools/rest.py. -/
import Derived.Test.YtokneepfknepaaaGreatDoorG2
import Derived.Deep.MidRow
import Derived.Test.YtokneepfknepaaaGreatDoorG1
import Derived.Test.YtokneepfknepaaaGreatDoorG4
set_option linter.unusedSimpArgs false
set_option linter.unusedVariables false
namespace Go.Proofs.YtokneepfknepaaaGreatDoor
open Go.RowKit

/-- What may be appended to. -/
inductive DstT (e : TypeId) (k : Nat) (G : List Res) : Value → Nat → List Value → List Res → Prop
  | own {v : Value} {n : Nat} {xs : List Value} {G' : List Res} : Pick G (.own e k v n xs) G' → DstT e k G v n xs G'
  | lit {g : Nat} {cs : List Value} {G' : List Res} : Pick G (.loc g cs e) G' → cs.length = k → (∀ u ∈ cs, u.oneCell' = true) → DstT e k G (.slice (some ⟨g, 0, none⟩) 1 1) 1 cs G'
  | nil {c : Nat} : c = 0 → DstT e k G (.slice none 0 c) 0 [] G
/-- Where what is appended comes from. -/
inductive SrcT (e : TypeId) (k : Nat) (G : List Res) (w : World) : Value → Nat → List Value → Prop
  | own {v : Value} {n : Nat} {xs : List Value} {G' : List Res} : Pick G (.own e k v n xs) G' → SrcT e k G w v n xs
  | lit {g c : Nat} {cs : List Value} {T : TypeId} {G' : List Res} : Pick G (.loc g cs T) G' → cs.length = k → (∀ u ∈ cs, u.oneCell' = true) → SrcT e k G w (.slice (some ⟨g, 0, none⟩) 1 c) 1 cs
  | arg {v : Value} {n : Nat} {xs : List Value} : Sl [] w k v n xs → SrcT e k G w v n xs
theorem St.dstT {S : List Nat} {w0 w : World} {G G' : List Res} {e : TypeId} {k n : Nat} {v : Value} {xs : List Value} (h : St S w0 w G) (d : DstT e k G v n xs G') : St S w0 w (.own e k v n xs :: G') := by
  cases d with
  | own p => exact h.pick p
  | @lit g cs _ p hk h1 =>
    have h0 := h.pick p
    have hl : Loc w g xs e := h0.head
    have ha := List.pairwise_cons.1 h0.apart
    refine h0.tail.put ?_ (fun b hb => h0.new (.loc g xs e) List.mem_cons_self b (by simpa [Res.blk, Value.blk] using hb)) (fun b hb s hs => ha.1 s hs b (by simpa [Res.blk, Value.blk] using hb))
    exact ⟨by omega, h1, .inr ⟨g, 1, xs.toArray, rfl, by simp, hl, Nat.le_refl _, by decide, by simp; omega, by rw [← hk]; simp⟩⟩
  | nil hc =>
    subst hc
    exact h.put (Own.nil _ _ _ _) (fun b hb => by cases hb) (fun b hb => by cases hb)
theorem SrcT.src {P : Program} {S : List Nat} {w0 w : World} {G : List Res} {e e' tx : TypeId} {k n : Nat} {v : Value} {xs : List Value} (hk : P.underlying tx = some (.slice e')) (h : St S w0 w G) (d : SrcT e k G w v n xs) : Src P k tx v n xs w := by
  cases d with
  | own p => exact (Own.sl (h.own p) (S' := []) (by simp)).src hk
  | @lit g c cs T _ p hl h1 =>
    have hL := h.loc p
    refine Src.ofSlice _ hk _ _ _ _ (by omega) (fun j u hu => ?_) h1
    have hadd : (⟨g, 0, none⟩ : Addr).add j = ⟨g, j, none⟩ := by unfold Addr.add; split <;> simp_all
    rw [hadd, hL.cell]
    exact hu
  | arg hs => exact hs.src hk

theorem st_appT {P : Program} {w : World} {ops : Array Oper} {rest : List Oper} {o : Oper} {a : Act} {Q : Exit → Act → World → Prop} {s x : Operand} {v xv : Value} {t tx e e' : TypeId} {i : TypeInfo} {z : Value} {k bytes : Nat} (hgd : o.guard = none)
    (ho : o.op = .call { callee := .builtin .append, args := #[s, x], argTypes := #[t, tx] }) (hs : a.eval s = v) (hx : a.eval x = xv)
    (ht : P.underlying t = some (.slice e)) (htx : P.underlying tx = some (.slice e')) (hi : P.info? e = some i) (hz : i.zero = some z) (hsize : i.size = k) (hby : i.bytes = bytes) (hzs : z.cells.size = k) (hk : 0 < k) (hbb : bytes ≤ 256)
    (h : ∃ S w0 G G' n xs m news, St S w0 w G ∧ DstT e k G v n xs G' ∧ SrcT e k G w xv m news ∧ n + m ≤ 549755813888 ∧
      ∀ v' w', St S w0 w' (.own e k v' (n + m) (xs ++ news) :: G') → wpList P ops Q rest (a.put o.dst v') w') :
    wpList P ops Q (o :: rest) a w := by
  obtain ⟨S, w0, G, G', n, xs, m, news, hst, hp, hsrc, hb, h⟩ := h
  have hd := hst.dstT hp
  refine wpList_app hgd s x t tx ho e i z k bytes ht hi hz hsize hby hzs hk [] (by simp) v n xs hs hd.head xv m news hx (hsrc.src htx hst) ?_ (by unfold maxLen; omega) fun v' w' ho' hf hb' => h v' w' (hd.app hf ho' hb')
  calc (n + m) * bytes ≤ 549755813888 * 256 := Nat.mul_le_mul hb hbb
    _ ≤ _ := by decide

/-- The first elements of a slice of the call's own. -/
theorem Own.take {S : List Nat} {w : World} {e : TypeId} {k n m : Nat} {a : Option Addr} {c : Nat} {xs : List Value} (h : Own S w e k (.slice a n c) n xs) (hm : m ≤ n) : Own S w e k (.slice a m c) m (xs.take (m * k)) := by
  obtain ⟨h1, h2, h3⟩ := h
  have hle : m * k ≤ n * k := Nat.mul_le_mul_right k hm
  refine ⟨by rw [List.length_take]; omega, fun u hu => h2 u (List.mem_of_mem_take hu), ?_⟩
  rcases h3 with ⟨h3, h4⟩ | ⟨g, cap, cur, h3, hg, hh, h4, h5, h6, h7⟩
  · injection h3 with e1 e2 e3
    subst e1 e3
    obtain rfl : m = 0 := by omega
    exact .inl ⟨rfl, rfl⟩
  · injection h3 with e1 e2 e3
    subst e1 e3
    exact .inr ⟨g, c, cur, rfl, hg, hh, by omega, h5, h6, by rw [← h7, List.take_take]; congr 1; omega⟩
theorem Own.setAt {S : List Nat} {w : World} {e : TypeId} {k n : Nat} {g c : Nat} {xs : List Value} (h : Own S w e k (.slice (some ⟨g, 0, none⟩) n c) n xs) {j : Nat} (hj : j < n * k) {u : Value} (hu : u.oneCell' = true) :
    Own S (w.setCell ⟨g, j, none⟩ u) e k (.slice (some ⟨g, 0, none⟩) n c) n (xs.set j u) := by
  obtain ⟨h1, h2, h3⟩ := h
  refine ⟨by simpa using h1, fun x hx => ?_, ?_⟩
  · rcases List.mem_or_eq_of_mem_set hx with hx | rfl
    · exact h2 x hx
    · exact hu
  · rcases h3 with ⟨h3, h4⟩ | ⟨g', cap, cur, h3, hg, hh, h4, h5, h6, h7⟩
    · cases h3
    · injection h3 with e1 e2 e3
      injection e1 with e1
      injection e1 with e1
      subst e1 e3
      refine .inr ⟨g, c, cur.setIfInBounds j u, rfl, hg, heap_setCell_same w g j cur e u hh, h4, h5, by simpa using h6, ?_⟩
      rw [Array.toList_setIfInBounds, List.take_set, h7]
end Go.Proofs.YtokneepfknepaaaGreatDoor

set_option linter.unusedSimpArgs false
set_option linter.unusedVariables false
namespace Go.Proofs.YtokneepfknepaaaGreatDoor
open Go.RowKit

theorem Loc.range {w : World} {b : Nat} {cs : List Value} {T : TypeId} (h : Loc w b cs T) : w.rangeAt b 0 cs := fun j v hv => by
  rw [Nat.zero_add, h.cell]
  exact hv
theorem Loc.there {w : World} {b : Nat} {cs : List Value} {T : TypeId} (h : Loc w b cs T) : w.there b 0 cs.length := fun j hj => by
  rw [Nat.zero_add, h.cell]
  exact ⟨by simp [hj], h.frz j⟩
theorem Loc.setAll {b : Nat} {T : TypeId} : ∀ (vs done old : List Value) (w : World), Loc w b (done ++ old) T → vs.length = old.length → Loc (w.setCells b done.length vs) b (done ++ vs) T
  | [], done, old, w, h, hl => by
    have : old = [] := List.eq_nil_of_length_eq_zero (by simpa using hl.symm)
    subst this
    exact h
  | v :: r, done, [], w, h, hl => by simp at hl
  | v :: r, done, u :: old, w, h, hl => by
    have h1 := Loc.set h done.length v
    have e : (done ++ u :: old).set done.length v = (done ++ [v]) ++ old := by
      rw [List.set_append]
      simp
    rw [e] at h1
    have h2 := Loc.setAll r (done ++ [v]) old _ h1 (by simpa using hl)
    have e2 : (done ++ [v]).length = done.length + 1 := by simp
    have e3 : (done ++ [v]) ++ r = done ++ v :: r := by simp
    rw [e2, e3] at h2
    rw [World.setCells]
    exact h2
theorem Fr.setCells {b : Nat} : ∀ (vs : List Value) (o : Nat) (w : World), Fr [b] w (w.setCells b o vs)
  | [], _, w => Fr.refl _ _
  | v :: r, o, w => by
    rw [World.setCells]
    exact ((Fr.refl [b] w).setCell (p := ⟨b, o, none⟩) (by simp) v).trans (Fr.setCells r (o + 1) _)
theorem St.setAll {S : List Nat} {w0 w : World} {G G' : List Res} {b : Nat} {cs vs : List Value} {T : TypeId} (h : St S w0 w G) (p : Pick G (.loc b cs T) G') (hl : vs.length = cs.length) : St S w0 (w.setCells b 0 vs) (.loc b vs T :: G') :=
  (h.pick p).turn (S' := []) (r' := .loc b vs T) (by simpa [Res.blk] using Fr.setCells vs 0 w) (by simp) (Loc.setAll vs [] cs w (h.pick p).head hl) (fun c hc => .inl hc)

/-- Where a struct is loaded from. -/
inductive RowAt (G : List Res) (w : World) (b : Nat) : Nat → List Value → Prop
  | loc {cs : List Value} {T : TypeId} {G' : List Res} : Pick G (.loc b cs T) G' → RowAt G w b 0 cs
  | elem {o : Nat} {cs : List Value} : w.rangeAt b o cs → RowAt G w b o cs
theorem RowAt.range {S : List Nat} {w0 w : World} {G : List Res} {b o : Nat} {cs : List Value} (h : St S w0 w G) (r : RowAt G w b o cs) : w.rangeAt b o cs := by
  cases r with
  | loc p => exact (h.loc p).range
  | elem h => exact h
section
variable {P : Program} {w : World} {ops : Array Oper} {rest : List Oper} {o : Oper} {a : Act} {Q : Exit → Act → World → Prop} {K : Act → World → Prop}
theorem st_load {ty : TypeId} {x : Operand} {b n : Nat} {d : TypeDesc} (hgd : o.guard = none) (ho : o.op = .load ty x) (hx : a.eval x = .pointer (some ⟨b, n, none⟩)) (hu : P.underlying ty = some d) (hd : d.isRow = true)
    (h : ∃ S w0 G cs, St S w0 w G ∧ RowAt G w b n cs ∧ (P.info? ty).map (·.size) = some cs.length ∧ wpList P ops Q rest (a.put o.dst (.agg cs.toArray)) w) : wpList P ops Q (o :: rest) a w := by
  obtain ⟨S, w0, G, cs, hst, hr, hi, h⟩ := h
  exact wpList_load_mid hgd ty x ho b n hx cs d (hr.range hst) hu hd hi h
/-- A guarded load, both ways. -/
theorem st_loadB {ty : TypeId} {x : Operand} {b n j : Nat} {d : TypeDesc} {c : Bool} (hgd : o.guard = some (j, true)) (hj : yielded ops a.tmps j = some c) (ho : o.op = .load ty x) (hx : a.eval x = .pointer (some ⟨b, n, none⟩)) (hu : P.underlying ty = some d) (hd : d.isRow = true)
    (h : c = true → ∃ S w0 G cs, St S w0 w G ∧ RowAt G w b n cs ∧ (P.info? ty).map (·.size) = some cs.length ∧ wpList P ops Q rest (a.put o.dst (.agg cs.toArray)) w) (h2 : c = false → wpList P ops Q rest (a.put o.dst undef) w) : wpList P ops Q (o :: rest) a w := by
  have hw : Region.wanted o (yielded ops a.tmps) = c := by simp [Region.wanted, hgd, hj]
  cases c with
  | true =>
    obtain ⟨S, w0, G, cs, hst, hr, hi, h⟩ := h rfl
    exact wpList_step fun K hK => by
      rw [if_pos hw]
      exact wp_load_mid ty x ho b n hx cs d (hr.range hst) hu hd hi (hK _ _ h)
  | false => exact wpList_skip hw (h2 rfl)
theorem st_store {ty : TypeId} {x y : Operand} {b : Nat} {vs : List Value} (hgd : o.guard = none) (ho : o.op = .store ty x y) (hx : a.eval x = .pointer (some ⟨b, 0, none⟩)) (hy : a.eval y = .agg vs.toArray)
    (h : ∃ S w0 G G' cs T, St S w0 w G ∧ Pick G (.loc b cs T) G' ∧ vs.length = cs.length ∧ (P.info? ty).map (·.size) = some vs.length ∧ (∀ v ∈ vs, v.oneCell' = true) ∧ ∀ w', St S w0 w' (.loc b vs T :: G') → wpList P ops Q rest (a.put o.dst undef) w') : wpList P ops Q (o :: rest) a w := by
  obtain ⟨S, w0, G, G', cs, T, hst, hp, hl, hi, h1, h⟩ := h
  refine wpList_store_mid hgd ty x y ho b 0 vs.toArray hx hy ?_ (by simpa using hi) (all_oneCell_toArray h1) ?_
  · have := (hst.loc hp).there
    simpa [hl] using this
  · simpa using h _ (hst.setAll hp hl)
theorem st_storeW {ty : TypeId} {x y : Operand} {b : Nat} {vs : List Value} (ho : o.op = .store ty x y) (hx : a.eval x = .pointer (some ⟨b, 0, none⟩)) (hy : a.eval y = .agg vs.toArray)
    (h : ∃ S w0 G G' cs T, St S w0 w G ∧ Pick G (.loc b cs T) G' ∧ vs.length = cs.length ∧ (P.info? ty).map (·.size) = some vs.length ∧ (∀ v ∈ vs, v.oneCell' = true) ∧ ∀ w', St S w0 w' (.loc b vs T :: G') → K (a.put o.dst undef) w') : o.wp P a w K Q := by
  obtain ⟨S, w0, G, G', cs, T, hst, hp, hl, hi, h1, h⟩ := h
  refine wp_store_mid ty x y ho b 0 vs.toArray hx hy ?_ (by simpa using hi) (all_oneCell_toArray h1) ?_
  · have := (hst.loc hp).there
    simpa [hl] using this
  · simpa using h _ (hst.setAll hp hl)
end
theorem und_ins : Tryz.prog.underlying 44 = some ((Tryz.prog.underlying 44).get (by kernel_rfl)) := by kernel_rfl
theorem size_ins : (Tryz.prog.info? 44).map (·.size) = some 19 := by kernel_rfl
end Go.Proofs.YtokneepfknepaaaGreatDoor

set_option linter.unusedSimpArgs false
set_option linter.unusedVariables false
namespace Go.Proofs.YtokneepfknepaaaGreatDoor

/- Composite types. -/
/- Declared types. -/
/- Groups. -/
end Go.Proofs.YtokneepfknepaaaGreatDoor

set_option linter.unusedSimpArgs false
set_option linter.unusedVariables false
namespace Go.Proofs.YtokneepfknepaaaGreatDoor

/-- A reader stands at the place from which on the bytes are l. -/
structure At (bs : List UInt8) (s : RdS) (l : List UInt8) : Prop where
  ok : s.err = 0
  le : s.at_ ≤ bs.length
  eq : bs.drop s.at_ = l
theorem At.adv {bs : List UInt8} {s : RdS} {b l : List UInt8} (h : At bs s (b ++ l)) : At bs (s.adv b.length) l := by
  have h3 := congrArg List.length h.eq
  simp at h3
  have := h.le
  refine ⟨h.ok, by simp; omega, ?_⟩
  simp only [adv_at, ← List.drop_drop]
  rw [h.eq]; simp
theorem At.head {bs : List UInt8} {s : RdS} {c : UInt8} {l : List UInt8} (h : At bs s (c :: l)) : s.at_ < bs.length ∧ bs.getD s.at_ 0 = c := by
  have h3 := congrArg List.length h.eq
  simp at h3
  have hl : s.at_ < bs.length := by omega
  refine ⟨hl, ?_⟩
  have := congrArg (fun l => l.getD 0 0) h.eq
  simpa [List.getD, List.getElem?_drop] using this

/-- What b says is read as x, whatever stands behind. -/
def RT {α : Type} (F : Pars α) (b : List UInt8) (x : α) : Prop := ∀ bs s l, At bs s (b ++ l) → F bs s = (x, s.adv b.length)

theorem RT.bind {α β : Type} {F : Pars α} {G : Nat → α → Pars β} {b1 b2 : List UInt8} {x : α} {y : β} (hF : RT F b1 x) (hG : ∀ a, RT (G a x) b2 y) : RT (pBind F G) (b1 ++ b2) y := fun bs s l h => by
  have h : At bs s (b1 ++ (b2 ++ l)) := by simpa using h
  unfold pBind
  rw [hF bs s _ h, hG s.at_ bs _ l h.adv, adv_adv, List.length_append]
theorem RT.map {α β : Type} {F : Pars α} {b : List UInt8} {x : α} (h : RT F b x) (m : α → β) : RT (pMap F m) b (m x) := fun bs s l ha => by
  unfold pMap; rw [h bs s l ha]
theorem RT.ret {α : Type} (x : α) : RT (pRet x) [] x := fun _ _ _ _ => rfl
theorem RT.alike {α : Type} {F G : Pars α} {b : List UInt8} {x : α} (h : Alike F G) (hG : RT G b x) : RT F b x := fun bs s l ha => by
  have h1 := h bs s
  have h2 := hG bs s l ha
  refine Prod.ext ?_ ?_
  · rw [h1.2 (by rw [h2]; exact ha.ok), h2]
  · rw [h1.1, h2]

theorem flat_ge {α : Type} (put : α → List UInt8) (l : List α) (h : ∀ x, x ∈ l → 1 ≤ (put x).length) : l.length ≤ (l.flatMap put).length := by
  induction l with
  | nil => simp
  | cons x l ih =>
    have := ih (fun y hy => h y (by simp [hy]))
    have := h x (by simp)
    simp only [List.flatMap_cons, List.length_append, List.length_cons]; omega
theorem pHeap_pos (h : HeapT) (hp : plainHeap h = true) : 1 ≤ (pHeap h).length := by
  unfold pHeap
  split
  · exact putS_pos _
  · rename_i hx
    simp only [plainHeap, Bool.or_eq_true, givenH, indexedH, decide_eq_true_eq] at hp
    have : h.kind = 1 ∨ h.kind = 2 ∨ h.kind = 3 ∨ h.kind = 4 ∨ h.kind = 5 ∨ h.kind = 6 ∨ h.kind = 7 ∨ h.kind = 8 ∨ h.kind = 9 ∨ h.kind = 10 ∨ h.kind = 11 ∨ h.kind = 12 := by omega
    rcases this with e | e | e | e | e | e | e | e | e | e | e | e <;> rw [e] <;> decide
theorem pVal_pos (v : ValT) (hp : plainVal v = true) : 1 ≤ (pVal v).length := by
  unfold pVal
  split
  · simp
  · split
    · simp
    · split
      · simp
      · split
        · simp
        · rename_i h1 h2 _ _
          unfold plainVal at hp
          rw [if_neg (by omega)] at hp
          split at hp
          · exact pHeap_pos _ hp
          · cases hp
end Go.Proofs.YtokneepfknepaaaGreatDoor

set_option linter.unusedSimpArgs false
set_option linter.unusedVariables false
namespace Go.Proofs.YtokneepfknepaaaGreatDoor

/-- A check behind a read: an error at the place where it began. -/
def pBad {α : Type} (c : Bool) (e : Int) (a : Nat) (x : α) : Pars α := fun _ s => (x, if c then s.fail e a else s)
theorem pBad_stuck {α : Type} (c : Bool) (e : Int) (a : Nat) (x : α) : Stuck (pBad c e a x) := fun bs s h => by
  unfold pBad
  split
  · exact fail_stuck h _ _
  · rfl
theorem pBad_fails {α : Type} {c : Bool} (h : c = true) {e : Int} (he : e ≠ 0) (a : Nat) (x : α) : Fails (pBad c e a x) := fun bs s h0 => by
  subst h
  unfold pBad
  rw [if_pos rfl, fail_ok h0 he]
  exact he
theorem pBad_back {α : Type} (c : Bool) {e : Int} (he : e ≠ 0) (a : Nat) (x : α) : Back (pBad c e a x) fun y k => c = false ∧ y = x ∧ k = 0 := by
  cases hc : c
  · exact fun bs s _ ha _ => ⟨0, (adv_zero s).symm, by omega, rfl, rfl, rfl⟩
  · exact (pBad_fails rfl he a x).back _
theorem pBad_cut {α : Type} (c : Bool) {e : Int} (he : e ≠ 0) (a : Nat) (x : α) : Cut (pBad c e a x) := by
  cases hc : c
  · exact pRet_cut x
  · exact (pBad_fails rfl he a x).cut

/- Opcodes. -/
def opsOf (l : List (Int × List UInt8)) : List Int := l.flatMap fun p => (List.range p.2.length).map fun (k : Nat) => p.1 + (k : Int)
theorem findL_mem (op : Int) : ∀ (l : List (Int × List UInt8)) (k : Int), 0 ≤ (findL l op k).1 → op ∈ opsOf l
  | [], _, h => by simp [findL] at h
  | (f, s) :: r, k, h => by
    unfold findL at h
    unfold opsOf
    rw [List.flatMap_cons, List.mem_append]
    by_cases hc : f ≤ op ∧ op - f < s.length
    · left
      rw [if_pos hc] at h
      have e1 : (op - f).toNat < s.length := by omega
      have e2 : f + (((op - f).toNat : Nat) : Int) = op := by omega
      exact List.mem_map.2 ⟨_, List.mem_range.2 e1, e2⟩
    · right
      rw [if_neg hc] at h
      exact findL_mem op r _ h
def opOk (op : Int) : Bool := decide (0 ≤ op) && (decide (op < 251) || decide (op / 256 = 251) || decide (op / 256 = 252)) && !knownP op && decide (shapeP op ≠ 0)
set_option maxRecDepth 100000 in
theorem ops_ok : (opsOf runsL).all opOk = true := by decide +kernel
theorem shape_ok {op : Int} (h : shapeP op ≠ 0) : 0 ≤ op ∧ (op < 251 ∨ op / 256 = 251 ∨ op / 256 = 252) ∧ knownP op = false := by
  have h1 : 0 ≤ (findL runsL op 0).1 := by
    unfold shapeP at h
    split at h
    · exact absurd rfl h
    · omega
  have h2 := List.all_eq_true.1 ops_ok op (findL_mem op runsL 0 h1)
  unfold opOk at h2
  simp only [Bool.and_eq_true, Bool.or_eq_true, decide_eq_true_eq, Bool.not_eq_true'] at h2
  obtain ⟨⟨⟨a, b⟩, c⟩, _⟩ := h2
  exact ⟨a, by omega, c⟩
def pOpEnd (op : Int) (a : Nat) : Pars Int := fun _ s => rOpEnd op a s
theorem pOpEnd_eq (op : Int) (a : Nat) : pOpEnd op a = pBad (knownP op || decide (shapeP op = 0)) (if knownP op then 61 else 60) a op := by
  funext bs s
  unfold pOpEnd pBad rOpEnd
  cases knownP op
  · by_cases h : shapeP op = 0
    · simp [h]
    · simp [h]
  · simp
theorem opErr (op : Int) : (if knownP op then (61 : Int) else 60) ≠ 0 := by split <;> decide
theorem rU32_back : Back (fun bs => rU bs 32) fun x k => (putU x).length ≤ k ∧ x ≤ 4294967295 := (rU_back 32 (by decide) (by decide)).mono fun x k h => ⟨h.1, by have := h.2; omega⟩
def rOpN (a c n : Nat) : Pars Int := fun bs s => if 255 < n then (0, s.fail 60 a) else pOpEnd ((c : Int) * 256 + n) a bs s
def rOpG (a c : Nat) : Pars Int := fun bs s => if c = 251 ∨ c = 252 then pBind (fun bs => rU bs 32) (fun _ n => rOpN a c n) bs s else pOpEnd c a bs s
theorem rOp_bind : rOp = pBind rByte rOpG := by
  funext bs s
  unfold rOp pBind rOpG
  by_cases h : (rByte bs s).1 = 251 ∨ (rByte bs s).1 = 252
  · rw [if_pos h, if_pos h]; rfl
  · rw [if_neg h, if_neg h]; rfl
def OpP (op : Int) (k : Nat) : Prop := shapeP op ≠ 0 ∧ (pOp op).length ≤ k ∧ 1 ≤ k
theorem pOpEnd_back (op : Int) (a : Nat) : Back (pOpEnd op a) fun x k => x = op ∧ shapeP op ≠ 0 ∧ k = 0 := by
  rw [pOpEnd_eq]
  refine (pBad_back _ (opErr op) a op).mono fun x k ⟨h1, h2, h3⟩ => ⟨h2, ?_, h3⟩
  simp only [Bool.or_eq_false_iff, decide_eq_false_iff_not] at h1
  exact h1.2
theorem pOpEnd_cut (op : Int) (a : Nat) : Cut (pOpEnd op a) := by rw [pOpEnd_eq]; exact pBad_cut _ (opErr op) a op
theorem pOpEnd_stuck (op : Int) (a : Nat) : Stuck (pOpEnd op a) := by rw [pOpEnd_eq]; exact pBad_stuck _ _ a op
theorem rOpN_stuck (a c n : Nat) : Stuck (rOpN a c n) := fun bs s h => by
  unfold rOpN
  split
  · exact fail_stuck h _ _
  · exact pOpEnd_stuck _ _ bs s h
theorem rOpN_back (a c n : Nat) : Back (rOpN a c n) fun x k => x = (c : Int) * 256 + n ∧ n ≤ 255 ∧ shapeP x ≠ 0 ∧ k = 0 := by
  by_cases h : 255 < n
  · have : Fails (rOpN a c n) := fun bs s he => by
      unfold rOpN
      rw [if_pos h, fail_ok he (by decide)]
      show (60 : Int) ≠ 0
      decide
    exact this.back _
  · have : rOpN a c n = pOpEnd ((c : Int) * 256 + n) a := by
      funext bs s
      unfold rOpN
      rw [if_neg h]
    rw [this]
    refine (pOpEnd_back _ _).mono fun x k ⟨h1, h2, h3⟩ => ⟨h1, by omega, by rw [h1]; exact h2, h3⟩
theorem rOpN_cut (a c n : Nat) : Cut (rOpN a c n) := by
  by_cases h : 255 < n
  · have : Fails (rOpN a c n) := fun bs s he => by
      unfold rOpN
      rw [if_pos h, fail_ok he (by decide)]
      show (60 : Int) ≠ 0
      decide
    exact this.cut
  · have : rOpN a c n = pOpEnd ((c : Int) * 256 + n) a := by
      funext bs s
      unfold rOpN
      rw [if_neg h]
    rw [this]
    exact pOpEnd_cut _ _
theorem rOpG_back (a c : Nat) (hc : c < 256) : Back (rOpG a c) fun x k => shapeP x ≠ 0 ∧ (pOp x).length ≤ 1 + k := by
  by_cases h : c = 251 ∨ c = 252
  · have : rOpG a c = pBind (fun bs => rU bs 32) (fun _ n => rOpN a c n) := by
      funext bs s
      unfold rOpG
      rw [if_pos h]
    rw [this]
    refine (Back.bind (G := fun _ n => rOpN a c n) (Q := fun n x k => x = (c : Int) * 256 + n ∧ n ≤ 255 ∧ shapeP x ≠ 0 ∧ k = 0) rU32_back (rU_stuck 32) (fun bs s _ => rOpN_stuck a c _) (fun a' n k _ => rOpN_back a c n)).mono ?_
    rintro x k ⟨n, k1, k2, rfl, ⟨h1, hb⟩, h2, h3, h4, h5⟩
    clear hb
    refine ⟨h4, ?_⟩
    subst h2
    unfold pOp
    rw [if_neg (by omega), show (((c : Int) * 256 + n) % 256) = n by omega]
    simp only [List.length_cons, pNum, Int.toNat_natCast]
    omega
  · have : rOpG a c = pOpEnd c a := by
      funext bs s
      unfold rOpG
      rw [if_neg h]
    rw [this]
    refine (pOpEnd_back _ _).mono ?_
    rintro x k ⟨rfl, h2, rfl⟩
    refine ⟨h2, ?_⟩
    unfold pOp
    rw [if_pos (by omega)]
    simp
theorem rOpG_cut (a c : Nat) : Cut (rOpG a c) := by
  by_cases h : c = 251 ∨ c = 252
  · have : rOpG a c = pBind (fun bs => rU bs 32) (fun _ n => rOpN a c n) := by
      funext bs s
      unfold rOpG
      rw [if_pos h]
    rw [this]
    exact Cut.bind (G := fun _ n => rOpN a c n) (Q := fun n x k => x = (c : Int) * 256 + n ∧ n ≤ 255 ∧ shapeP x ≠ 0 ∧ k = 0) rU32_back (rU_cut 32) (fun bs s _ => rOpN_stuck a c _) (fun a' n k _ => rOpN_back a c n) (fun a' n k _ => rOpN_cut a c n)
  · have : rOpG a c = pOpEnd c a := by
      funext bs s
      unfold rOpG
      rw [if_neg h]
    rw [this]
    exact pOpEnd_cut _ _
theorem rOpG_stuck0 (a : Nat) : Stuck (rOpG a 0) := fun bs s h => by
  unfold rOpG
  rw [if_neg (by omega)]
  exact pOpEnd_stuck _ _ bs s h
theorem rOp_stuck : Stuck rOp := fun bs s h => by
  rw [rOp_bind]
  unfold pBind
  have h1 := rByte_stuck bs s h
  have h2 := rByte_errz bs s (by rw [h1]; exact h)
  rw [h2, rOpG_stuck0 _ bs _ (by rw [h1]; exact h), h1]
theorem rOp_back : Back rOp OpP := by
  rw [rOp_bind]
  refine (Back.bind rByte_back rByte_stuck (fun bs s hc => rByteZ rOpG_stuck0 bs s hc) (fun a c k hk => rOpG_back a c hk.2)).mono ?_
  rintro x k ⟨c, k1, k2, rfl, ⟨rfl, _⟩, h1, h2⟩
  exact ⟨h1, by omega, by omega⟩
theorem rOp_cut : Cut rOp := by
  rw [rOp_bind]
  exact Cut.bind rByte_back rByte_cut (fun bs s hc => rByteZ rOpG_stuck0 bs s hc) (fun a c k hk => rOpG_back a c hk.2) (fun a c k _ => rOpG_cut a c)
end Go.Proofs.YtokneepfknepaaaGreatDoor

set_option linter.unusedSimpArgs false
set_option linter.unusedVariables false
namespace Go.Proofs.YtokneepfknepaaaGreatDoor

/-- A parser that stays behind an error, reads what P says, and is refused where it is cut. -/
structure Good {α : Type} (F : Pars α) (P : α → Nat → Prop) : Prop where
  stuck : Stuck F
  back : Back F P
  cut : Cut F
theorem Good.mono {α : Type} {F : Pars α} {P Q : α → Nat → Prop} (h : Good F P) (hq : ∀ x k, P x k → Q x k) : Good F Q := ⟨h.stuck, h.back.mono hq, h.cut⟩
theorem Good.bind {α β : Type} {F : Pars α} {G : Nat → α → Pars β} {P : α → Nat → Prop} {Q : α → β → Nat → Prop} (hF : Good F P) (hS : ∀ a x, Stuck (G a x)) (hG : ∀ a x k, P x k → Good (G a x) (Q x)) :
    Good (pBind F G) (fun y k => ∃ x k1 k2, k = k1 + k2 ∧ P x k1 ∧ Q x y k2) :=
  ⟨fun bs s h => by
      unfold pBind
      have h1 := hF.stuck bs s h
      rw [hS _ _ bs _ (by rw [h1]; exact h), h1],
    Back.bind hF.back hF.stuck (fun _ _ _ => hS _ _) (fun a x k h => (hG a x k h).back),
    Cut.bind hF.back hF.cut (fun _ _ _ => hS _ _) (fun a x k h => (hG a x k h).back) (fun a x k h => (hG a x k h).cut)⟩
theorem Good.map {α β : Type} {F : Pars α} {P : α → Nat → Prop} (h : Good F P) (m : α → β) : Good (pMap F m) (fun y k => ∃ x, y = m x ∧ P x k) :=
  ⟨h.stuck, pMap_back h.back m fun x _ hp => ⟨x, rfl, hp⟩, pMap_cut h.cut m⟩
theorem Good.ret {α : Type} (x : α) : Good (pRet x) (fun y k => y = x ∧ k = 0) := ⟨pRet_stuck x, pRet_back ⟨rfl, rfl⟩, pRet_cut x⟩
theorem Good.bad {α : Type} (c : Bool) {e : Int} (he : e ≠ 0) (a : Nat) (x : α) : Good (pBad c e a x) (fun y k => c = false ∧ y = x ∧ k = 0) := ⟨pBad_stuck c e a x, pBad_back c he a x, pBad_cut c he a x⟩
theorem Good.alike {α : Type} {F G : Pars α} {P : α → Nat → Prop} (h : Alike F G) (hG : Good G P) : Good F P := ⟨h.stuck hG.stuck, h.back hG.back, h.cut hG.cut⟩

theorem rByte_good : Good rByte fun x k => k = 1 ∧ x < 256 := ⟨rByte_stuck, rByte_back, rByte_cut⟩
theorem rU32_good : Good (fun bs => rU bs 32) fun x k => (putU x).length ≤ k ∧ x ≤ 4294967295 := ⟨rU_stuck 32, rU32_back, rU_cut 32⟩
theorem rOp_good : Good rOp OpP := ⟨rOp_stuck, rOp_back, rOp_cut⟩
theorem rHeap_good : Good rHeap HeapP := ⟨rHeap_stuck, rHeap_back, rHeap_cut⟩
theorem rVals_good : Good rVals (ListP plainVal pVal) := ⟨rVals_stuck, rVals_back, rVals_cut⟩

/- Indices. -/
def NumP (n : Int) (k : Nat) : Prop := idx n = true ∧ (pNum n).length ≤ k ∧ 1 ≤ k
theorem idx_iff (n : Int) : idx n = true ↔ 0 ≤ n ∧ n ≤ 4294967295 := by simp [idx]
theorem rNum_eq : rNum = pMap (fun bs => rU bs 32) fun n => (n : Int) := rfl
theorem rNum_good : Good rNum NumP := by
  rw [rNum_eq]
  refine (rU32_good.map _).mono ?_
  rintro y k ⟨x, rfl, h1, h2⟩
  have := putU_pos x
  exact ⟨(idx_iff _).2 (by omega), by simpa [pNum] using h1, by omega⟩
theorem pNum_pos (n : Int) : 1 ≤ (pNum n).length := putU_pos _
theorem pNum_one {n : Int} (h : n < 128) : (pNum n).length = 1 := by
  unfold pNum
  rw [putU_small _ (by omega)]
  rfl

/- Lists. -/
def pListN {α : Type} (F : Pars α) : Pars (List α) := fun bs s => rListN bs (F bs) s
theorem pListN_alike {α : Type} (F : Pars α) : Alike (pListN F) (pListF F) := fun bs s => ⟨rfl, fun h => by
  show _ = RdS.told _ _ _
  unfold RdS.told
  have h : (rMany (F bs) (rCount bs s).1 (rCount bs s).2).2.err = 0 := h
  rw [if_pos h]
  rfl⟩
theorem pListN_good {α : Type} {F : Pars α} {P : α → Nat → Prop} {pl : α → Bool} {put : α → List UInt8} (hF : Good F P) (hP : ∀ x k, P x k → pl x = true ∧ (put x).length ≤ k ∧ 1 ≤ k) : Good (pListN F) (ListP pl put) :=
  Good.alike (pListN_alike F) ⟨pListF_stuck F, pListF_back hF.back hP, pListF_cut hF.back hF.cut fun x k h => (hP x k h).2.2⟩
/- A byte that is not above another one. -/
def pChoice (most : Nat) : Pars Nat := fun bs s => rChoice bs most s
theorem pChoice_bind (most : Nat) : pChoice most = pBind rByte fun a c => pBad (decide (most < c)) 60 a c := by
  funext bs s
  unfold pChoice rChoice pBind pBad
  by_cases h : most < (rByte bs s).1
  · rw [if_pos h]; simp [h]
  · rw [if_neg h]; simp [h]
theorem pChoice_good (most : Nat) : Good (pChoice most) fun x k => x ≤ most ∧ k = 1 := by
  rw [pChoice_bind]
  refine (rByte_good.bind (G := fun a c => pBad (decide (most < c)) 60 a c) (Q := fun c y k => decide (most < c) = false ∧ y = c ∧ k = 0) (fun a c => pBad_stuck _ 60 a c) (fun a c k _ => Good.bad _ (by decide) a c)).mono ?_
  rintro x k ⟨c, k1, k2, rfl, ⟨rfl, _⟩, h1, rfl, rfl⟩
  exact ⟨by simpa using h1, rfl⟩
/- What stands behind a load or a store. -/
theorem rMemX_bind : rMemX = pBind rNum fun a x => pBad (decide (127 < x)) 60 a x := by
  funext bs s
  unfold rMemX pBind pBad
  by_cases h : 127 < (rNum bs s).1
  · rw [if_pos h]; simp [h]
  · rw [if_neg h]; simp [h]
def rMemYG (_ : Nat) (x : Int) : Pars (Int × Int) := if 64 ≤ x then pMap rNum fun y => (x - 64, y) else pRet (x, 0)
theorem rMemY_bind : rMemY = pBind rMemX rMemYG := by
  funext bs s
  unfold rMemY pBind rMemYG
  by_cases h : 64 ≤ (rMemX bs s).1
  · rw [if_pos h, if_pos h]; rfl
  · rw [if_neg h, if_neg h]; rfl
def rMemUG (_ : Nat) (p : Int × Int) : Pars (Int × Int × Nat) := pMap (fun bs => rU bs 64) fun u => (p.1, p.2, u)
def rMem : Pars (Int × Int × Nat) := pBind rMemY rMemUG
theorem rMemX_good : Good rMemX fun x k => 0 ≤ x ∧ x ≤ 127 ∧ 1 ≤ k := by
  rw [rMemX_bind]
  refine (rNum_good.bind (G := fun a x => pBad (decide (127 < x)) 60 a x) (Q := fun c y k => decide (127 < c) = false ∧ y = c ∧ k = 0) (fun a c => pBad_stuck _ 60 a c) (fun a c k _ => Good.bad _ (by decide) a c)).mono ?_
  rintro x k ⟨c, k1, k2, rfl, ⟨h0, _, h2⟩, h1, rfl, rfl⟩
  rw [idx_iff] at h0
  simp only [decide_eq_false_iff_not] at h1
  exact ⟨by omega, by omega, by omega⟩
theorem rMemYG_stuck (a : Nat) (x : Int) : Stuck (rMemYG a x) := by
  unfold rMemYG
  split
  · exact rNum_good.stuck
  · exact pRet_stuck _
def memB (x y : Int) : List UInt8 := if y = 0 then pNum x else pNum (x + 64) ++ pNum y
theorem rMemY_good : Good rMemY fun p k => 0 ≤ p.1 ∧ p.1 < 64 ∧ idx p.2 = true ∧ (memB p.1 p.2).length ≤ k := by
  rw [rMemY_bind]
  refine (rMemX_good.bind rMemYG_stuck (Q := fun x p k => if 64 ≤ x then p.1 = x - 64 ∧ NumP p.2 k else p = (x, 0) ∧ k = 0) (fun a x k _ => ?_)).mono ?_
  · unfold rMemYG
    by_cases h : 64 ≤ x
    · rw [if_pos h]
      refine (rNum_good.map _).mono ?_
      rintro p k ⟨y, rfl, hy⟩
      rw [if_pos h]
      exact ⟨rfl, hy⟩
    · rw [if_neg h]
      refine (Good.ret _).mono ?_
      rintro p k ⟨rfl, rfl⟩
      rw [if_neg h]
      exact ⟨rfl, rfl⟩
  · rintro ⟨p, q⟩ k ⟨x, k1, k2, rfl, ⟨h1, h2, h3⟩, h4⟩
    by_cases h : 64 ≤ x
    · rw [if_pos h] at h4
      obtain ⟨h5, h6, h7, h8⟩ := h4
      dsimp only at h5 h6 h7 ⊢
      subst h5
      refine ⟨by omega, by omega, h6, ?_⟩
      unfold memB
      split
      · rw [pNum_one (by omega)]; omega
      · rw [List.length_append, pNum_one (by omega)]; omega
    · rw [if_neg h] at h4
      obtain ⟨h5, rfl⟩ := h4
      injection h5 with h5 h6
      subst h5 h6
      refine ⟨by omega, by omega, rfl, ?_⟩
      dsimp only
      unfold memB
      rw [if_pos rfl, pNum_one (by omega)]
      omega
theorem rU64_good : Good (fun bs => rU bs 64) fun x k => (putU x).length ≤ k ∧ x < 18446744073709551616 := ⟨rU_stuck 64, (rU_back 64 (by decide) (by decide)).mono fun x k h => ⟨h.1, by have := h.2; omega⟩, rU_cut 64⟩
theorem rMem_good : Good rMem fun p k => 0 ≤ p.1 ∧ p.1 < 64 ∧ idx p.2.1 = true ∧ (memB p.1 p.2.1 ++ putU p.2.2).length ≤ k ∧ p.2.2 < 18446744073709551616 := by
  refine (rMemY_good.bind (G := rMemUG) (fun a x => rU64_good.stuck) (fun a x k _ => rU64_good.map _)).mono ?_
  rintro ⟨p, q, u⟩ k ⟨⟨x, y⟩, k1, k2, rfl, ⟨h1, h2, h3, h4⟩, z, h5, h6, h9⟩
  injection h5 with h5 h7
  injection h7 with h7 h8
  subst h5 h7 h8
  refine ⟨h1, h2, h3, ?_, h9⟩
  rw [List.length_append]
  dsimp only at h4 ⊢
  omega
/- What is caught. -/
def rCatchTG (_ : Nat) (c : Nat) : Pars (Int × Int) := if c < 2 then pMap rNum fun t => ((c : Int), t) else pRet ((c : Int), 0)
theorem rCatchT_bind : rCatchT = pBind (pChoice 3) rCatchTG := by
  funext bs s
  unfold rCatchT pBind rCatchTG pChoice
  by_cases h : (rChoice bs 3 s).1 < 2
  · rw [if_pos h, if_pos h]; rfl
  · rw [if_neg h, if_neg h]; rfl
def rCatchG (_ : Nat) (p : Int × Int) : Pars CatchT := pMap rNum fun l => ⟨p.1, p.2, l⟩
theorem rCatch_bind : rCatch = pBind rCatchT rCatchG := rfl
theorem rCatchTG_stuck (a c : Nat) : Stuck (rCatchTG a c) := by
  unfold rCatchTG
  split
  · exact rNum_good.stuck
  · exact pRet_stuck _
def CatchTP (p : Int × Int) (k : Nat) : Prop := 0 ≤ p.1 ∧ p.1 ≤ 3 ∧ (if p.1 < 2 then idx p.2 = true ∧ 1 + (pNum p.2).length ≤ k else p.2 = 0 ∧ 1 ≤ k)
theorem rCatchT_good : Good rCatchT CatchTP := by
  rw [rCatchT_bind]
  refine ((pChoice_good 3).bind rCatchTG_stuck (Q := fun (c : Nat) (p : Int × Int) k => p.1 = (c : Int) ∧ if c < 2 then NumP p.2 k else p.2 = 0) (fun a c k _ => ?_)).mono ?_
  · unfold rCatchTG
    by_cases h : c < 2
    · rw [if_pos h]
      refine (rNum_good.map _).mono ?_
      rintro p k ⟨y, rfl, hy⟩
      rw [if_pos h]
      exact ⟨rfl, hy⟩
    · rw [if_neg h]
      refine (Good.ret _).mono ?_
      rintro p k ⟨rfl, rfl⟩
      rw [if_neg h]
      exact ⟨rfl, rfl⟩
  · rintro ⟨p, q⟩ k ⟨c, k1, k2, rfl, ⟨h1, rfl⟩, h2, h3⟩
    dsimp only at h2 h3
    subst h2
    refine ⟨by simp, by simp; omega, ?_⟩
    dsimp only
    by_cases h : c < 2
    · rw [if_pos h] at h3
      rw [if_pos (by omega)]
      exact ⟨h3.1, by have := h3.2.1; omega⟩
    · rw [if_neg h] at h3
      rw [if_neg (by omega)]
      exact ⟨h3, by omega⟩
def CatchP (c : CatchT) (k : Nat) : Prop := mayCatch c = true ∧ (pCatch c).length ≤ k ∧ 1 ≤ k
theorem mayCatch_iff (c : CatchT) : mayCatch c = true ↔ 0 ≤ c.kind ∧ c.kind ≤ 3 ∧ idx c.label = true ∧ (if c.kind < 2 then idx c.tag = true else c.tag = 0) := by
  unfold mayCatch
  by_cases h1 : c.kind = 0 ∨ c.kind = 1
  · rw [if_pos h1, if_pos (by omega), Bool.and_eq_true]
    constructor
    · rintro ⟨a, b⟩; exact ⟨by omega, by omega, b, a⟩
    · rintro ⟨_, _, a, b⟩; exact ⟨b, a⟩
  · rw [if_neg h1]
    by_cases h2 : c.kind = 2 ∨ c.kind = 3
    · rw [if_pos h2, if_neg (by omega), Bool.and_eq_true, decide_eq_true_eq]
      constructor
      · rintro ⟨a, b⟩; exact ⟨by omega, by omega, b, a⟩
      · rintro ⟨_, _, a, b⟩; exact ⟨b, a⟩
    · rw [if_neg h2]
      constructor
      · intro h; cases h
      · rintro ⟨a, b, _⟩; omega
theorem rCatch_good : Good rCatch CatchP := by
  rw [rCatch_bind]
  refine (rCatchT_good.bind (G := rCatchG) (fun a x => rNum_good.stuck) (fun a x k _ => rNum_good.map _)).mono ?_
  rintro c k ⟨⟨p, q⟩, k1, k2, rfl, ⟨h1, h2, h3⟩, l, rfl, h4, h5, h6⟩
  dsimp only at h1 h2 h3
  refine ⟨(mayCatch_iff _).2 ⟨h1, h2, h4, ?_⟩, ?_, by omega⟩
  · dsimp only
    split at h3
    · rw [if_pos (by assumption)]; exact h3.1
    · rw [if_neg (by assumption)]; exact h3.1
  · unfold pCatch
    dsimp only
    split at h3
    · rw [if_pos (by assumption), List.length_cons, List.length_append]; omega
    · rw [if_neg (by assumption), List.length_cons, List.nil_append]; omega
theorem pCatch_pos (c : CatchT) : 1 ≤ (pCatch c).length := by simp [pCatch]
end Go.Proofs.YtokneepfknepaaaGreatDoor

set_option linter.unusedSimpArgs false
set_option linter.unusedVariables false
namespace Go.Proofs.YtokneepfknepaaaGreatDoor

def pBlockV (a c : Nat) : Pars BlockT := fun bs s => rBlockV bs c a s
/-- What the byte c alone is, as a value type. -/
def aloneE (c : Nat) : Int := (rVal [UInt8.ofNat c] rOpen).2.err
def aloneV (c : Nat) : ValT := (rVal [UInt8.ofNat c] rOpen).1
def aloneOk (c : Nat) : Bool := (if aloneE c = 0 then plainVal (aloneV c) && decide ((pVal (aloneV c)).length ≤ 1) else true) && (if aloneE c = 10 then decide (c = 99 ∨ c = 100) else true)
set_option maxRecDepth 100000 in
theorem alone_all : (List.range 128).all aloneOk = true := by decide +kernel
theorem alone_ok {c : Nat} (h : c < 128) : (aloneE c = 0 → plainVal (aloneV c) = true ∧ (pVal (aloneV c)).length ≤ 1) ∧ (aloneE c = 10 → c = 99 ∨ c = 100) := by
  have h1 := List.all_eq_true.1 alone_all c (List.mem_range.2 h)
  unfold aloneOk at h1
  rw [Bool.and_eq_true] at h1
  obtain ⟨h1, h2⟩ := h1
  refine ⟨fun h0 => ?_, fun h0 => ?_⟩
  · rw [if_pos h0, Bool.and_eq_true, decide_eq_true_eq] at h1
    exact h1
  · rw [if_pos h0, decide_eq_true_eq] at h2
    exact h2
def BlockP (b : BlockT) (k : Nat) : Prop := mayBlock b = true ∧ (pBlock b).length ≤ 1 + k
theorem mayBlock0 : mayBlock BlockT.zero = true := by decide
theorem mayBlock1 {v : ValT} (h : plainVal v = true) : mayBlock ⟨1, v, 0⟩ = true := by simp [mayBlock, h]
theorem pBlock1 {v : ValT} (h : plainVal v = true) : pBlock ⟨1, v, 0⟩ = pVal v := by simp [pBlock, valB_yes h]
theorem plainHeap_val (n : Bool) (h : HeapT) : plainVal ⟨3, n, h⟩ = plainHeap h := by simp [plainVal, plainHeap]
theorem pVal3 (n : Bool) (h : HeapT) : (pVal ⟨3, n, h⟩).length ≤ 1 + (pHeap h).length := by
  unfold pVal
  simp only
  split
  · omega
  · split
    · omega
    · split
      · simp; omega
      · split
        · simp; omega
        · omega
theorem pBlockV_good (a c : Nat) (hc : c < 128) : Good (pBlockV a c) BlockP := by
  obtain ⟨h0, h10⟩ := alone_ok hc
  by_cases h64 : c = 64
  · have : pBlockV a c = pRet BlockT.zero := by
      funext bs s
      unfold pBlockV rBlockV
      rw [if_pos h64]
      rfl
    rw [this]
    refine (Good.ret _).mono ?_
    rintro x k ⟨rfl, rfl⟩
    exact ⟨mayBlock0, by decide⟩
  · by_cases he : aloneE c = 0
    · have : pBlockV a c = pRet ⟨1, aloneV c, 0⟩ := by
        funext bs s
        unfold pBlockV rBlockV
        unfold aloneE at he
        rw [if_neg h64, if_pos he]
        rfl
      rw [this]
      refine (Good.ret _).mono ?_
      rintro x k ⟨rfl, rfl⟩
      exact ⟨mayBlock1 (h0 he).1, by rw [pBlock1 (h0 he).1]; exact (h0 he).2⟩
    · by_cases he2 : aloneE c = 10
      · have : pBlockV a c = pMap rHeap fun h => ⟨1, ⟨3, c == 99, h⟩, 0⟩ := by
          funext bs s
          unfold pBlockV rBlockV
          unfold aloneE at he he2
          rw [if_neg h64, if_neg he, if_pos he2]
          rfl
        rw [this]
        refine (rHeap_good.map _).mono ?_
        rintro x k ⟨h, rfl, h1, h2, h3⟩
        have hp : plainVal ⟨3, c == 99, h⟩ = true := by rw [plainHeap_val]; exact h1
        refine ⟨mayBlock1 hp, ?_⟩
        rw [pBlock1 hp]
        have := pVal3 (c == 99) h
        omega
      · have : pBlockV a c = pBad true (aloneE c) a BlockT.zero := by
          funext bs s
          unfold pBlockV rBlockV
          unfold aloneE at he he2 ⊢
          rw [if_neg h64, if_neg he, if_neg he2]
          rfl
        rw [this]
        exact (Good.bad true he a BlockT.zero).mono fun x k h => by cases h.1
def rBlockG (a : Nat) (n : Int) : Pars BlockT := fun bs s => if 0 ≤ n then (⟨2, ValT.zero, n⟩, s) else if 1 < s.at_ - a then (BlockT.zero, s.fail 60 a) else rBlockV bs (low7 n) a s
theorem low7_lt (n : Int) : low7 n < 128 := by unfold low7; omega
theorem rBlock_alike : Alike rBlock (pBind (fun bs => rS bs 33) rBlockG) := fun bs s => by
  unfold rBlock pBind rBlockG
  by_cases h : (rS bs 33 s).2.err ≠ 0
  · rw [if_pos h, rS_errz bs 33 s h]
    exact ⟨rfl, fun h2 => absurd h2 h⟩
  · rw [if_neg h]
    exact ⟨rfl, fun _ => rfl⟩
theorem rBlockG_good (a : Nat) (n : Int) (k1 : Nat) (hk : (putS n).length ≤ k1 ∧ n ≤ 4294967295) : Good (rBlockG a n) fun x k => mayBlock x = true ∧ ((pBlock x).length ≤ 1 + k ∨ (pBlock x).length ≤ k1) := by
  by_cases h : 0 ≤ n
  · have : rBlockG a n = pRet ⟨2, ValT.zero, n⟩ := by
      funext bs s
      unfold rBlockG
      rw [if_pos h]
      rfl
    rw [this]
    refine (Good.ret _).mono ?_
    rintro x k ⟨rfl, rfl⟩
    refine ⟨?_, .inr ?_⟩
    · simp [mayBlock, idx, h, hk.2]
    · simpa [pBlock] using hk.1
  · have hV := pBlockV_good a (low7 n) (low7_lt n)
    refine ⟨fun bs s hs => ?_, fun bs s he ha h0 => ?_, fun bs s k he ha hk c hac hc => ?_⟩
    · unfold rBlockG
      rw [if_neg h]
      split
      · exact fail_stuck hs _ _
      · exact hV.stuck bs s hs
    · unfold rBlockG at h0 ⊢
      rw [if_neg h] at h0 ⊢
      by_cases h1 : 1 < s.at_ - a
      · rw [if_pos h1, fail_ok he (by decide)] at h0
        exact absurd h0 (by show (60 : Int) ≠ 0; decide)
      · rw [if_neg h1] at h0 ⊢
        obtain ⟨k, e1, e2, e3⟩ := hV.back bs s he ha h0
        exact ⟨k, e1, e2, e3.1, .inl e3.2⟩
    · by_cases h1 : 1 < s.at_ - a
      · unfold rBlockG at hk
        rw [if_neg h, if_pos h1, fail_ok he (by decide)] at hk
        have := congrArg RdS.err hk
        simp only [adv_err, he] at this
        exact absurd this (by decide)
      · have hE : ∀ bs, rBlockG a n bs s = pBlockV a (low7 n) bs s := fun bs => by
          unfold rBlockG
          rw [if_neg h, if_neg h1]
          rfl
        have := hV.cut bs s k he ha (by rw [← hE]; exact hk) c hac hc
        unfold CutAt at this ⊢
        rw [hE, hE]
        exact this
theorem rBlockG_stuck (a : Nat) (n : Int) : Stuck (rBlockG a n) := fun bs s hs => by
  unfold rBlockG
  split
  · rfl
  · split
    · exact fail_stuck hs _ _
    · exact (pBlockV_good a (low7 n) (low7_lt n)).stuck bs s hs
def BlockQ (b : BlockT) (k : Nat) : Prop := mayBlock b = true ∧ (pBlock b).length ≤ k ∧ 1 ≤ k
theorem rS33_good : Good (fun bs => rS bs 33) fun x k => (putS x).length ≤ k ∧ x ≤ 4294967295 := ⟨rS_stuck 33, (rS_back 33 (by decide) (by decide)).mono fun x k h => ⟨h.1, by have := h.2.2; omega⟩, rS_cut 33⟩
theorem rBlock_good : Good rBlock BlockQ := by
  refine Good.alike rBlock_alike ((rS33_good.bind (G := rBlockG) rBlockG_stuck (Q := fun n x k => mayBlock x = true ∧ ((pBlock x).length ≤ 1 + k ∨ (pBlock x).length ≤ (putS n).length)) (fun a n k hk => rBlockG_good a n (putS n).length ⟨Nat.le_refl _, hk.2⟩)).mono ?_)
  rintro x k ⟨n, k1, k2, rfl, ⟨h1, _⟩, h2, h3⟩
  have := putS_pos n
  exact ⟨h2, by omega, by omega⟩

theorem mayBlock_iff (b : BlockT) : mayBlock b = true ↔ b = BlockT.zero ∨ (b.kind = 1 ∧ plainVal b.val = true ∧ b.n = 0) ∨ (b.kind = 2 ∧ b.val = ValT.zero ∧ idx b.n = true) := by
  unfold mayBlock
  by_cases h0 : b.kind = 0
  · rw [if_pos h0, decide_eq_true_eq]
    constructor
    · exact .inl
    · rintro (h | h | h)
      · exact h
      · omega
      · omega
  · have hz : b ≠ BlockT.zero := fun h => h0 (by rw [h]; rfl)
    rw [if_neg h0]
    by_cases h1 : b.kind = 1
    · rw [if_pos h1, Bool.and_eq_true, decide_eq_true_eq]
      constructor
      · rintro ⟨a, c⟩; exact .inr (.inl ⟨h1, a, c⟩)
      · rintro (h | h | h)
        · exact absurd h hz
        · exact h.2
        · omega
    · rw [if_neg h1]
      by_cases h2 : b.kind = 2
      · rw [if_pos h2, Bool.and_eq_true, decide_eq_true_eq]
        constructor
        · rintro ⟨a, c⟩; exact .inr (.inr ⟨h2, a, c⟩)
        · rintro (h | h | h)
          · exact absurd h hz
          · omega
          · exact h.2
      · rw [if_neg h2]
        constructor
        · intro h; cases h
        · rintro (h | h | h)
          · exact absurd h hz
          · omega
          · omega
end Go.Proofs.YtokneepfknepaaaGreatDoor

set_option linter.unusedSimpArgs false
set_option linter.unusedVariables false
namespace Go.Proofs.YtokneepfknepaaaGreatDoor

def rArgsF (op : Int) : Pars InstrT := fun bs s => rArgs bs op s
theorem args46 {op : Int} (h : shapeP op = 4 ∨ shapeP op = 6) : rArgsF op = pMap rNum fun x => { InstrT.of op with x := x } := by
  funext bs s; unfold rArgsF rArgs; rw [if_pos h]; rfl
theorem args7 {op : Int} (h : shapeP op = 7) : rArgsF op = pBind rNum fun _ x => pMap rNum fun y => { InstrT.of op with x := x, y := y } := by
  funext bs s; unfold rArgsF rArgs; simp [h]; rfl
theorem args5 {op : Int} (h : shapeP op = 5) : rArgsF op = pBind (pListN rNum) fun _ l => pMap rNum fun x => { InstrT.of op with labels := l, x := x } := by
  funext bs s; unfold rArgsF rArgs; simp [h]; rfl
theorem args8 {op : Int} (h : shapeP op = 8) : rArgsF op = pMap rMem fun p => { InstrT.of op with x := p.1, y := p.2.1, u := p.2.2 } := by
  funext bs s; unfold rArgsF rArgs; simp [h]; rfl
theorem args9 {op : Int} (h : shapeP op = 9) : rArgsF op = pMap (fun bs => rS bs 32) fun n => { InstrT.of op with u := (n % 4294967296).toNat } := by
  funext bs s; unfold rArgsF rArgs; simp [h]; rfl
theorem args10 {op : Int} (h : shapeP op = 10) : rArgsF op = pMap (fun bs => rS bs 64) fun n => { InstrT.of op with u := (n % 18446744073709551616).toNat } := by
  funext bs s; unfold rArgsF rArgs; simp [h]; rfl
theorem args11 {op : Int} (h : shapeP op = 11) : rArgsF op = pMap rHeap fun x => { InstrT.of op with heap := x } := by
  funext bs s; unfold rArgsF rArgs; simp [h]; rfl
theorem args12 {op : Int} (h : shapeP op = 12) : rArgsF op = pMap rVals fun x => { InstrT.of op with types := x } := by
  funext bs s; unfold rArgsF rArgs; simp [h]; rfl
theorem args2 {op : Int} (h : shapeP op = 2) : rArgsF op = pMap rBlock fun x => { InstrT.of op with block := x } := by
  funext bs s; unfold rArgsF rArgs; simp [h]; rfl
theorem args3 {op : Int} (h : shapeP op = 3) : rArgsF op = pBind rBlock fun _ b => pMap (pListN rCatch) fun l => { InstrT.of op with block := b, catches := l } := by
  funext bs s; unfold rArgsF rArgs; simp [h]; rfl
def a13b (op : Int) (c : Nat) (x : Int) (a : HeapT) : Pars InstrT := pMap rHeap fun b => { InstrT.of op with null := c % 2 == 1, null2 := c / 2 % 2 == 1, x := x, heap := a, heap2 := b }
def a13a (op : Int) (c : Nat) (x : Int) : Pars InstrT := pBind rHeap fun _ a => a13b op c x a
def a13x (op : Int) (c : Nat) : Pars InstrT := pBind rNum fun _ x => a13a op c x
theorem args13 {op : Int} (h : shapeP op = 13) : rArgsF op = pBind (pChoice 3) fun _ c => a13x op c := by
  funext bs s; unfold rArgsF rArgs; simp [h]; rfl
def shNone (op : Int) : Prop := shapeP op ≠ 4 ∧ shapeP op ≠ 6 ∧ shapeP op ≠ 7 ∧ shapeP op ≠ 5 ∧ shapeP op ≠ 8 ∧ shapeP op ≠ 9 ∧ shapeP op ≠ 10 ∧ shapeP op ≠ 11 ∧ shapeP op ≠ 12 ∧ shapeP op ≠ 2 ∧ shapeP op ≠ 3 ∧ shapeP op ≠ 13
theorem args1 {op : Int} (h : shNone op) : rArgsF op = pRet (InstrT.of op) := by
  obtain ⟨h4, h6, h7, h5, h8, h9, h10, h11, h12, h2, h3, h13⟩ := h
  funext bs s; unfold rArgsF rArgs; simp [h4, h6, h7, h5, h8, h9, h10, h11, h12, h2, h3, h13]; rfl
theorem shape_cases (op : Int) : shNone op ∨ (shapeP op = 4 ∨ shapeP op = 6) ∨ shapeP op = 7 ∨ shapeP op = 5 ∨ shapeP op = 8 ∨ shapeP op = 9 ∨ shapeP op = 10 ∨ shapeP op = 11 ∨ shapeP op = 12 ∨ shapeP op = 2 ∨ shapeP op = 3 ∨ shapeP op = 13 := by
  unfold shNone; omega

/- What of an instruction may be. -/
theorem mayI_eq {i : InstrT} (h : shapeP i.op ≠ 0) : mayI i = ((mayPart i).1 && decide ((mayPart i).2 = InstrT.of i.op)) := by
  unfold mayI; rw [if_neg h]
theorem mayI_shape {i : InstrT} (h : mayI i = true) : shapeP i.op ≠ 0 := by
  intro h0
  unfold mayI at h
  rw [if_pos h0] at h
  cases h
theorem may46 {op x : Int} (h : shapeP op = 4 ∨ shapeP op = 6) : mayI { InstrT.of op with x := x } = idx x := by
  rw [mayI_eq (by show shapeP op ≠ 0; omega)]
  have h' : shapeP (InstrT.of op).op = 4 ∨ shapeP (InstrT.of op).op = 6 := h
  simp only [mayPart, h', if_true]
  simp [InstrT.of]
theorem inv46 {i : InstrT} (h : shapeP i.op = 4 ∨ shapeP i.op = 6) (hm : mayI i = true) : idx i.x = true ∧ i = { InstrT.of i.op with x := i.x } := by
  rw [mayI_eq (by omega)] at hm
  simp only [mayPart, h, if_true, Bool.and_eq_true, decide_eq_true_eq] at hm
  refine ⟨hm.1, ?_⟩
  obtain ⟨op, x, y, u, a, b, c, d, e, f, g, j⟩ := i
  have := hm.2
  simp only [InstrT.of, InstrT.mk.injEq] at this ⊢
  simp [this]
theorem may_of {i : InstrT} {b : Bool} {j : InstrT} (h : shapeP i.op ≠ 0) (hp : mayPart i = (b, j)) : mayI i = (b && decide (j = InstrT.of i.op)) := by
  rw [mayI_eq h, hp]
theorem part7 {i : InstrT} (h : shapeP i.op = 7) : mayPart i = (idx i.x && idx i.y, { i with x := 0, y := 0 }) := by simp [mayPart, h]
theorem part5 {i : InstrT} (h : shapeP i.op = 5) : mayPart i = (idx i.x && i.labels.all idx, { i with x := 0, labels := [] }) := by simp [mayPart, h]
theorem part8 {i : InstrT} (h : shapeP i.op = 8) : mayPart i = (decide (0 ≤ i.x) && decide (i.x < 64) && idx i.y, { i with x := 0, y := 0, u := 0 }) := by simp [mayPart, h]
theorem part9 {i : InstrT} (h : shapeP i.op = 9) : mayPart i = (decide (i.u < 4294967296), { i with u := 0 }) := by simp [mayPart, h]
theorem part10 {i : InstrT} (h : shapeP i.op = 10) : mayPart i = (true, { i with u := 0 }) := by simp [mayPart, h]
theorem part11 {i : InstrT} (h : shapeP i.op = 11) : mayPart i = (plainH i.heap, { i with heap := HeapT.zero }) := by simp [mayPart, h]
theorem part12 {i : InstrT} (h : shapeP i.op = 12) : mayPart i = (i.types.all plainVal, { i with types := [] }) := by simp [mayPart, h]
theorem part2 {i : InstrT} (h : shapeP i.op = 2) : mayPart i = (mayBlock i.block, { i with block := BlockT.zero }) := by simp [mayPart, h]
theorem part3 {i : InstrT} (h : shapeP i.op = 3) : mayPart i = (mayBlock i.block && i.catches.all mayCatch, { i with block := BlockT.zero, catches := [] }) := by simp [mayPart, h]
theorem part13 {i : InstrT} (h : shapeP i.op = 13) : mayPart i = (idx i.x && plainH i.heap && plainH i.heap2, { i with x := 0, null := false, null2 := false, heap := HeapT.zero, heap2 := HeapT.zero }) := by simp [mayPart, h]
theorem part1 {i : InstrT} (h : shNone i.op) : mayPart i = (true, i) := by
  obtain ⟨h4, h6, h7, h5, h8, h9, h10, h11, h12, h2, h3, h13⟩ := h
  simp [mayPart, h4, h6, h7, h5, h8, h9, h10, h11, h12, h2, h3, h13]

/-- What is read of an instruction: it may be, and what is put of it is no longer. -/
def SmallK (i : InstrT) (k : Nat) : Prop := i.u < 18446744073709551616 ∧ i.labels.length ≤ k ∧ i.types.length ≤ k ∧ i.catches.length ≤ k
def InsP (op : Int) (i : InstrT) (k : Nat) : Prop := i.op = op ∧ mayI i = true ∧ (pRest i).length ≤ k ∧ SmallK i k
theorem smallK0 {i : InstrT} (k : Nat) (hu : i.u = 0) (h1 : i.labels = []) (h2 : i.types = []) (h3 : i.catches = []) : SmallK i k := ⟨by omega, by simp [h1], by simp [h2], by simp [h3]⟩
theorem pList_ge {α : Type} {put : α → List UInt8} {l : List α} {k : Nat} (h : ∀ x, x ∈ l → 1 ≤ (put x).length) (hk : (pList put l).length ≤ k) : l.length ≤ k := by
  have := flat_ge put l h
  simp only [pList, List.length_append] at hk
  omega
theorem rest46 {i : InstrT} (h : shapeP i.op = 4 ∨ shapeP i.op = 6) : pRest i = pNum i.x := by unfold pRest; rw [if_neg (by omega), if_pos h]
theorem rest7 {i : InstrT} (h : shapeP i.op = 7) : pRest i = pNum i.x ++ pNum i.y := by simp [pRest, h]
theorem rest5 {i : InstrT} (h : shapeP i.op = 5) : pRest i = pList pNum i.labels ++ pNum i.x := by simp [pRest, h, pList]
theorem rest8 {i : InstrT} (h : shapeP i.op = 8) : pRest i = memB i.x i.y ++ putU i.u := by simp [pRest, h, memB]
theorem rest9 {i : InstrT} (h : shapeP i.op = 9) : pRest i = putS (toI32 i.u) := by simp [pRest, h]
theorem rest10 {i : InstrT} (h : shapeP i.op = 10) : pRest i = putS (toI64 i.u) := by simp [pRest, h]
theorem rest11 {i : InstrT} (h : shapeP i.op = 11) : pRest i = heapB i.heap := by simp [pRest, h]
theorem rest12 {i : InstrT} (h : shapeP i.op = 12) : pRest i = valsB i.types := by simp [pRest, h]
theorem rest2 {i : InstrT} (h : shapeP i.op = 2) : pRest i = pBlock i.block := by simp [pRest, h]
theorem rest3 {i : InstrT} (h : shapeP i.op = 3) : pRest i = pBlock i.block ++ pList pCatch i.catches := by simp [pRest, h, pList]
theorem rest13 {i : InstrT} (h : shapeP i.op = 13) : pRest i = [pNulls i.null i.null2] ++ (pNum i.x ++ (heapB i.heap ++ heapB i.heap2)) := by simp [pRest, h]
theorem rest1 {i : InstrT} (h : shNone i.op) : pRest i = [] := by
  obtain ⟨h4, h6, h7, h5, h8, h9, h10, h11, h12, h2, h3, h13⟩ := h
  simp [pRest, h4, h6, h7, h5, h8, h9, h10, h11, h12, h2, h3, h13]
theorem heapB_len {h : HeapT} (p : plainHeap h = true) : heapB h = pHeap h := heapB_yes (by rw [plainHeap_val]; exact p)
theorem plainH_eq (h : HeapT) : plainH h = plainHeap h := plainHeap_val false h
theorem toI32_back (n : Int) (h1 : -2147483648 ≤ n) (h2 : n < 2147483648) : toI32 (n % 4294967296).toNat = n := by unfold toI32; split <;> omega
theorem toI64_back (n : Int) (h1 : -9223372036854775808 ≤ n) (h2 : n < 9223372036854775808) : toI64 (n % 18446744073709551616).toNat = n := by unfold toI64; split <;> omega
theorem rS32_good : Good (fun bs => rS bs 32) fun x k => (putS x).length ≤ k ∧ -2147483648 ≤ x ∧ x < 2147483648 := ⟨rS_stuck 32, (rS_back 32 (by decide) (by decide)).mono fun x k h => ⟨h.1, by have := h.2.1; omega, by have := h.2.2; omega⟩, rS_cut 32⟩
theorem rS64_good : Good (fun bs => rS bs 64) fun x k => (putS x).length ≤ k ∧ -9223372036854775808 ≤ x ∧ x < 9223372036854775808 := ⟨rS_stuck 64, (rS_back 64 (by decide) (by decide)).mono fun x k h => ⟨h.1, by have := h.2.1; omega, by have := h.2.2; omega⟩, rS_cut 64⟩

theorem rArgs_good {op : Int} (h0 : shapeP op ≠ 0) : Good (rArgsF op) (InsP op) := by
  rcases shape_cases op with h | h | h | h | h | h | h | h | h | h | h | h
  · rw [args1 h]
    refine (Good.ret _).mono ?_
    rintro i k ⟨rfl, rfl⟩
    exact ⟨rfl, by rw [may_of (i := InstrT.of op) h0 (part1 h)]; simp [InstrT.of], by rw [rest1 (i := InstrT.of op) h]; exact Nat.le_refl _, smallK0 _ rfl rfl rfl rfl⟩
  · rw [args46 h]
    refine (rNum_good.map _).mono ?_
    rintro i k ⟨x, rfl, h1, h2, _⟩
    exact ⟨rfl, by rw [may46 h]; exact h1, by rw [rest46 (i := { InstrT.of op with x := x }) h]; exact h2, smallK0 _ rfl rfl rfl rfl⟩
  · rw [args7 h]
    refine (rNum_good.bind (G := fun _ x => pMap rNum fun y => { InstrT.of op with x := x, y := y }) (fun a x => rNum_good.stuck) (fun a x k _ => rNum_good.map _)).mono ?_
    rintro i k ⟨x, k1, k2, rfl, ⟨h1, h2, _⟩, y, rfl, h3, h4, _⟩
    refine ⟨rfl, ?_, ?_, smallK0 _ rfl rfl rfl rfl⟩
    · rw [may_of (i := { InstrT.of op with x := x, y := y }) h0 (part7 h)]; simp [InstrT.of, h1, h3]
    · rw [rest7 (i := { InstrT.of op with x := x, y := y }) h, List.length_append]; simp only; omega
  · rw [args5 h]
    refine ((pListN_good rNum_good (fun _ _ h => h)).bind (G := fun _ l => pMap rNum fun x => { InstrT.of op with labels := l, x := x }) (fun a x => rNum_good.stuck) (fun a x k _ => rNum_good.map _)).mono ?_
    rintro i k ⟨l, k1, k2, rfl, ⟨h1, h2, _⟩, x, rfl, h3, h4, _⟩
    refine ⟨rfl, ?_, ?_, ⟨(by decide : (0 : Nat) < _), Nat.le_trans (pList_ge (fun x _ => pNum_pos x) h2) (Nat.le_add_right _ _), Nat.zero_le _, Nat.zero_le _⟩⟩
    · rw [may_of (i := { InstrT.of op with labels := l, x := x }) h0 (part5 h)]; simp only [h1, h3]; simp [InstrT.of]
    · rw [rest5 (i := { InstrT.of op with labels := l, x := x }) h, List.length_append]; simp only; omega
  · rw [args8 h]
    refine (rMem_good.map _).mono ?_
    rintro i k ⟨⟨x, y, u⟩, rfl, h1, h2, h3, h4, h5⟩
    dsimp only at h1 h2 h3 h4 h5
    refine ⟨rfl, ?_, ?_, ⟨by simpa using h5, Nat.zero_le _, Nat.zero_le _, Nat.zero_le _⟩⟩
    · rw [may_of (i := { InstrT.of op with x := x, y := y, u := u }) h0 (part8 h)]; simp [InstrT.of, h1, h2, h3]
    · rw [rest8 (i := { InstrT.of op with x := x, y := y, u := u }) h]; exact h4
  · rw [args9 h]
    refine (rS32_good.map _).mono ?_
    rintro i k ⟨n, rfl, h1, h2, h3⟩
    refine ⟨rfl, ?_, ?_, ⟨by show (n % 4294967296).toNat < _; omega, Nat.zero_le _, Nat.zero_le _, Nat.zero_le _⟩⟩
    · rw [may_of (i := { InstrT.of op with u := (n % 4294967296).toNat }) h0 (part9 h)]; simp [InstrT.of]; omega
    · rw [rest9 (i := { InstrT.of op with u := (n % 4294967296).toNat }) h]; simp only; rw [toI32_back n h2 h3]; exact h1
  · rw [args10 h]
    refine (rS64_good.map _).mono ?_
    rintro i k ⟨n, rfl, h1, h2, h3⟩
    refine ⟨rfl, ?_, ?_, ⟨by show (n % 18446744073709551616).toNat < _; omega, Nat.zero_le _, Nat.zero_le _, Nat.zero_le _⟩⟩
    · rw [may_of (i := { InstrT.of op with u := (n % 18446744073709551616).toNat }) h0 (part10 h)]; simp [InstrT.of]
    · rw [rest10 (i := { InstrT.of op with u := (n % 18446744073709551616).toNat }) h]; simp only; rw [toI64_back n h2 h3]; exact h1
  · rw [args11 h]
    refine (rHeap_good.map _).mono ?_
    rintro i k ⟨x, rfl, h1, h2, _⟩
    refine ⟨rfl, ?_, ?_, smallK0 _ rfl rfl rfl rfl⟩
    · rw [may_of (i := { InstrT.of op with heap := x }) h0 (part11 h)]; simp [InstrT.of, plainH_eq, h1]
    · rw [rest11 (i := { InstrT.of op with heap := x }) h]; simp only; rw [heapB_len h1]; exact h2
  · rw [args12 h]
    refine (rVals_good.map _).mono ?_
    rintro i k ⟨x, rfl, h1, h2, _⟩
    refine ⟨rfl, ?_, ?_, ⟨(by decide : (0 : Nat) < _), Nat.zero_le _, pList_ge (fun x hx => pVal_pos x (List.all_eq_true.1 h1 x hx)) h2, Nat.zero_le _⟩⟩
    · rw [may_of (i := { InstrT.of op with types := x }) h0 (part12 h)]; simp only [h1]; simp [InstrT.of]
    · rw [rest12 (i := { InstrT.of op with types := x }) h]; simp only; rw [valsB_yes h1]; exact h2
  · rw [args2 h]
    refine (rBlock_good.map _).mono ?_
    rintro i k ⟨x, rfl, h1, h2, _⟩
    refine ⟨rfl, ?_, ?_, smallK0 _ rfl rfl rfl rfl⟩
    · rw [may_of (i := { InstrT.of op with block := x }) h0 (part2 h)]; simp [InstrT.of, h1]
    · rw [rest2 (i := { InstrT.of op with block := x }) h]; exact h2
  · rw [args3 h]
    refine (rBlock_good.bind (G := fun _ b => pMap (pListN rCatch) fun l => ({ InstrT.of op with block := b, catches := l } : InstrT)) (fun a x => (pListN_good rCatch_good (fun _ _ h => h)).stuck) (fun a x k _ => (pListN_good rCatch_good (fun _ _ h => h)).map _)).mono ?_
    rintro i k ⟨b, k1, k2, rfl, ⟨h1, h2, _⟩, l, rfl, h3, h4, _⟩
    refine ⟨rfl, ?_, ?_, ⟨(by decide : (0 : Nat) < _), Nat.zero_le _, Nat.zero_le _, Nat.le_trans (pList_ge (fun x _ => pCatch_pos x) h4) (Nat.le_add_left _ _)⟩⟩
    · rw [may_of (i := { InstrT.of op with block := b, catches := l }) h0 (part3 h)]; simp only [h1, h3]; simp [InstrT.of]
    · rw [rest3 (i := { InstrT.of op with block := b, catches := l }) h, List.length_append]; simp only; omega
  · rw [args13 h]
    have hb : ∀ c x a, Good (a13b op c x a) fun i k => ∃ b, i = { InstrT.of op with null := c % 2 == 1, null2 := c / 2 % 2 == 1, x := x, heap := a, heap2 := b } ∧ HeapP b k := fun c x a => rHeap_good.map _
    have ha : ∀ c x, Good (a13a op c x) fun i k => ∃ a k1 k2, k = k1 + k2 ∧ HeapP a k1 ∧ ∃ b, i = { InstrT.of op with null := c % 2 == 1, null2 := c / 2 % 2 == 1, x := x, heap := a, heap2 := b } ∧ HeapP b k2 := fun c x => rHeap_good.bind (G := fun _ a => a13b op c x a) (fun _ a => (hb c x a).stuck) (fun _ a k _ => hb c x a)
    have hx : ∀ c, Good (a13x op c) fun i k => ∃ x k1 k2, k = k1 + k2 ∧ NumP x k1 ∧ ∃ a k3 k4, k2 = k3 + k4 ∧ HeapP a k3 ∧ ∃ b, i = { InstrT.of op with null := c % 2 == 1, null2 := c / 2 % 2 == 1, x := x, heap := a, heap2 := b } ∧ HeapP b k4 := fun c => rNum_good.bind (G := fun _ x => a13a op c x) (fun _ x => (ha c x).stuck) (fun _ x k _ => ha c x)
    refine ((pChoice_good 3).bind (G := fun _ c => a13x op c) (fun _ c => (hx c).stuck) (fun _ c k _ => hx c)).mono ?_
    rintro i k ⟨c, k0, k9, rfl, ⟨_, rfl⟩, x, k1, k2, rfl, ⟨h1, h2, _⟩, a, k3, k4, rfl, ⟨h3, h4, _⟩, b, rfl, h5, h6, _⟩
    refine ⟨rfl, ?_, ?_, smallK0 _ rfl rfl rfl rfl⟩
    · rw [may_of (i := { InstrT.of op with null := c % 2 == 1, null2 := c / 2 % 2 == 1, x := x, heap := a, heap2 := b }) h0 (part13 h)]; simp [InstrT.of, plainH_eq, h1, h3, h5]
    · rw [rest13 (i := { InstrT.of op with null := c % 2 == 1, null2 := c / 2 % 2 == 1, x := x, heap := a, heap2 := b }) h]; simp only; rw [heapB_len h3, heapB_len h5]; simp only [List.length_append, List.length_cons, List.length_nil]; omega
end Go.Proofs.YtokneepfknepaaaGreatDoor

set_option linter.unusedSimpArgs false
set_option linter.unusedVariables false
namespace Go.Proofs.YtokneepfknepaaaGreatDoor
open Go.RowKit

/-- What a Go value of the type always is. -/
structure WfI (i : InstrT) : Prop where
  op0 : -9223372036854775808 ≤ i.op
  op1 : i.op < 9223372036854775808
  ts : i.types.length ≤ 1099511627776
  ls : i.labels.length ≤ 1099511627776
  cs : i.catches.length ≤ 1099511627776
def MayOk : Prop := ∀ (w : World), Gl7 [] w → ∀ (i : InstrT) (tv lv cv : Value), InsR [] w i tv lv cv → WfI i → Calls Tryz.prog 11 #[.agg (insC i tv lv cv).toArray] w fun e w' => e = .returned (.bool (mayI i)) ∧ Fr [] w w'

set_option maxRecDepth 100000 in
set_option maxHeartbeats 1600000 in
theorem iall_ins (hM : MayOk) (w : World) (hg : Gl7 [] w) (v : Value) (ts : List InstrT) (ds : List Value) (h : Sl [] w 19 v ts.length ds) (hs : InssR [] w ts ds) (hl : ts.length ≤ 1099511627776) (hw : ∀ i, i ∈ ts → WfI i) :
    Calls Tryz.prog 19 #[v, .func (.func 11) #[] #[]] w fun e w' => e = .returned (.bool (ts.all mayI)) ∧ Fr [] w w' := by
  have hh := h
  unfold MayOk at hM
  obtain ⟨_, _, a, cap, rfl, _⟩ := h
  go_enter Tryz.func19, Tryz.ntmps19
  go_wp2
  go_loopw [9] (fun n wr => ∃ (i : Nat), n = .int .i64 i ∧ i ≤ ts.length ∧ Fr [] w wr ∧ Hid (ts.all mayI = (ts.drop i).all mayI)) (fun n _ => ts.length - (intOf n).toNat)
  case atStart => exact ⟨0, rfl, by omega, Fr.refl _ _, Lib.hid rfl⟩
  case round =>
    obtain ⟨i, rfl, hi, hF, hI⟩ := hrel
    by_cases hlt : i < ts.length
    · obtain ⟨t, ht⟩ : ∃ t, ts[i]? = some t := ⟨ts[i], by simp [hlt]⟩
      have hwt := hw t (List.mem_of_getElem? ht)
      obtain ⟨b, off, cap2, tv, lv, cv, hv, hb, hnS, hR, hc⟩ := Sl.ins_elem hh hs i t ht
      injection hv with hv1 hv2 hv3
      subst hv1 hv3
      have hbw : b < wr.heap.size := Nat.lt_of_lt_of_le hb hF.size
      have hd := drop_one ts i t ht
      have hc2 : ∀ r, r < 19 → wr.cell? ⟨b, off + (i * 19 + r), none⟩ = (insC t tv lv cv)[r]? := fun r hr => (hF.cell hb (by simp) _).trans (hc r hr)
      have hR2 := hR.fr hF (fun _ _ h => h)
      have hg2 := hg.fr hF (fun _ _ h => h)
      clear hc hnS
      obtain ⟨ta, tc, rfl⟩ := hR.1.shape
      obtain ⟨la, lc, rfl⟩ := hR.2.1.shape
      obtain ⟨ca, cc, rfl⟩ := hR.2.2.shape
      have hRow : wr.rangeAt b (off + i * 19) (insC t (.slice ta t.types.length tc) (.slice la t.labels.length lc) (.slice ca t.catches.length cc)) := fun r v hv => by
        rw [Nat.add_assoc, hc2 r (List.getElem?_eq_some_iff.1 hv).1]
        exact hv
      have hOne : ∀ v ∈ insC t (.slice ta t.types.length tc) (.slice la t.labels.length lc) (.slice ca t.catches.length cc), v.oneCell' = true := by simp [insC, Value.oneCell']
      have hSt : St [] w wr [] := (St.start [] w).step0 hF
      clear hc2
      cases hp : mayI t
      · have hall : ts.all mayI = false := by rw [hI.out, hd]; simp [hp]
        have Hall := Lib.hid hall
        clear hall
        go_wp2_with first | (refine st_load (ty := 44) rfl rfl rfl und_ins rfl ?_; (repeat (apply Exists.intro)); refine ⟨?_, ?_, ?_, ?_⟩; (· exact zsts1); (· (try simp only [World.size_alloc, World.size_setCell, size_drew, size_drewN]); first | (apply RowAt.loc; (exact zpk1); done) | (apply RowAt.elem; exact hRow)); (· exact size_ins)) | (refine st_store (ty := 44) rfl rfl rfl rfl ?_; (repeat (apply Exists.intro)); refine ⟨?_, ?_, ?_, ?_, ?_, ?_⟩; (· exact zsts1); (· (try simp only [World.size_alloc, World.size_setCell, size_drew, size_drewN]); (exact zpk1)); (· rfl); (· exact size_ins); (· exact hOne); intro wN hS; (try clear hQ); have hQ := St.facts hS; simp only [Facts, Res.fact, List.cons_append, List.nil_append, true_and, and_true] at hQ) | (go_at_call 11; (with_reducible refine (hM _ ?_ t _ _ _ ?_ hwt).mono ?_); (· exact hS.gl7 hg); (· exact hS.ins hR); rintro e w2 ⟨rfl, hF2⟩; rw [hp]; refine st_fr hF2 ?_; (repeat (apply Exists.intro)); refine ⟨?_, ?_⟩; (· exact zsts1); (try simp only [World.size_alloc, World.size_setCell, size_drew, size_drewN]); intro hS; (try clear hQ); have hQ := St.facts hS; simp only [Facts, Res.fact, List.cons_append, List.nil_append, true_and, and_true] at hQ)
        go_ret
        exact ⟨by rw [Hall.out]; rfl, by (first | exact hS.fr | (apply St.fr; (exact zsts1)) | (apply St.fr; (first | exact hS0 | (exact zsts1))))⟩
      · have hall : ts.all mayI = (ts.drop (i + 1)).all mayI := by rw [hI.out, hd]; simp [hp]
        have Hall := Lib.hid hall
        clear hall
        go_wp2_with first | (refine st_load (ty := 44) rfl rfl rfl und_ins rfl ?_; (repeat (apply Exists.intro)); refine ⟨?_, ?_, ?_, ?_⟩; (· exact zsts1); (· (try simp only [World.size_alloc, World.size_setCell, size_drew, size_drewN]); first | (apply RowAt.loc; (exact zpk1); done) | (apply RowAt.elem; exact hRow)); (· exact size_ins)) | (refine st_store (ty := 44) rfl rfl rfl rfl ?_; (repeat (apply Exists.intro)); refine ⟨?_, ?_, ?_, ?_, ?_, ?_⟩; (· exact zsts1); (· (try simp only [World.size_alloc, World.size_setCell, size_drew, size_drewN]); (exact zpk1)); (· rfl); (· exact size_ins); (· exact hOne); intro wN hS; (try clear hQ); have hQ := St.facts hS; simp only [Facts, Res.fact, List.cons_append, List.nil_append, true_and, and_true] at hQ) | (go_at_call 11; (with_reducible refine (hM _ ?_ t _ _ _ ?_ hwt).mono ?_); (· exact hS.gl7 hg); (· exact hS.ins hR); rintro e w2 ⟨rfl, hF2⟩; rw [hp]; refine st_fr hF2 ?_; (repeat (apply Exists.intro)); refine ⟨?_, ?_⟩; (· exact zsts1); (try simp only [World.size_alloc, World.size_setCell, size_drew, size_drewN]); intro hS; (try clear hQ); have hQ := St.facts hS; simp only [Facts, Res.fact, List.cons_append, List.nil_append, true_and, and_true] at hQ)
        go_roundw
        case rel => exact ⟨i + 1, by go_num, by omega, by (first | exact hS.fr | (apply St.fr; (exact zsts1)) | (apply St.fr; (first | exact hS0 | (exact zsts1)))), Hall⟩
        case measure => simp [intOf]; omega
    · have hk : i = ts.length := by omega
      subst hk
      have hall : ts.all mayI = true := by rw [hI.out]; simp
      have Hall := Lib.hid hall
      clear hall
      go_wp2
      go_ret
      exact ⟨by rw [Hall.out]; rfl, hF⟩
end Go.Proofs.YtokneepfknepaaaGreatDoor

set_option linter.unusedSimpArgs false
set_option linter.unusedVariables false
namespace Go.Proofs.YtokneepfknepaaaGreatDoor

def SmallI (i : InstrT) : Prop := SmallK i 4294967295
theorem SmallK.small {i : InstrT} {k : Nat} (h : SmallK i k) (hk : k ≤ 4294967295) : SmallI i := ⟨h.1, Nat.le_trans h.2.1 hk, Nat.le_trans h.2.2.1 hk, Nat.le_trans h.2.2.2 hk⟩

theorem may_inv {i : InstrT} {b : Bool} {j : InstrT} (hm : mayI i = true) (hp : mayPart i = (b, j)) : b = true ∧ j = InstrT.of i.op := by
  rw [may_of (mayI_shape hm) hp, Bool.and_eq_true, decide_eq_true_eq] at hm
  exact hm
theorem RT.to {α : Type} {F : Pars α} {b : List UInt8} {x y : α} (h : RT F b x) (e : y = x) : RT F b y := e ▸ h
theorem RT.bytes {α : Type} {F : Pars α} {b b' : List UInt8} {x : α} (h : RT F b x) (e : b' = b) : RT F b' x := e ▸ h
theorem toI32_lt {u : Nat} (h : u < 4294967296) : -2147483648 ≤ toI32 u ∧ toI32 u < 2147483648 ∧ (toI32 u % 4294967296).toNat = u := by unfold toI32; split <;> omega
theorem toI64_lt {u : Nat} (h : u < 18446744073709551616) : -9223372036854775808 ≤ toI64 u ∧ toI64 u < 9223372036854775808 ∧ (toI64 u % 18446744073709551616).toNat = u := by unfold toI64; split <;> omega
/- An instruction. -/
theorem rArgs_stuck (op : Int) : Stuck (rArgsF op) := by
  by_cases h : shapeP op = 0
  · rw [args1 (by unfold shNone; omega)]
    exact pRet_stuck _
  · exact (rArgs_good h).stuck
theorem rInstr_alike : Alike rInstr (pBind rOp fun _ op => rArgsF op) := fun bs s => by
  unfold rInstr pBind
  by_cases h : (rOp bs s).2.err ≠ 0
  · rw [if_pos h]
    have := rArgs_stuck (rOp bs s).1 bs (rOp bs s).2 h
    exact ⟨this.symm, fun h2 => absurd (by rw [this] at h2; exact h2) h⟩
  · rw [if_neg h]
    exact ⟨rfl, fun _ => rfl⟩
def InstrP (i : InstrT) (k : Nat) : Prop := mayI i = true ∧ (pInstr i).length ≤ k ∧ 1 ≤ k ∧ SmallK i k
theorem rInstr_good : Good rInstr InstrP := by
  refine Good.alike rInstr_alike ((rOp_good.bind (G := fun _ op => rArgsF op) (Q := fun op i k => InsP op i k) (fun _ op => rArgs_stuck op) (fun _ op k h => rArgs_good h.1)).mono ?_)
  rintro i k ⟨op, k1, k2, rfl, ⟨h1, h2, h3⟩, rfl, h4, h5, h6⟩
  refine ⟨h4, ?_, by omega, h6.1, ?_, ?_, ?_⟩
  · unfold pInstr; rw [List.length_append]; omega
  · have := h6.2.1; omega
  · have := h6.2.2.1; omega
  · have := h6.2.2.2; omega
/- An expression. -/
/- The laws of whole expressions. -/
end Go.Proofs.YtokneepfknepaaaGreatDoor

set_option linter.unusedSimpArgs false
set_option linter.unusedVariables false
namespace Go.Proofs.YtokneepfknepaaaGreatDoor
open Go.RowKit
theorem St.ofOut {w w' : World} {v : Value} {xs : List UInt8} (h : Out w' v xs) (hn : New w v) (hf : Fr [] w w') : St [] w w' [.own 5 1 (v) (xs).length ((xs).map B)] :=
  ((St.start [] w).step0 hf).put (r := .own 5 1 (v) (xs).length ((xs).map B)) h (fun b hb => hn b hb) (fun _ _ _ h => by cases h)
theorem Gl.st {S : List Nat} {w0 w : World} {G : List Res} (hg : Gl S w0) (h : St S w0 w G) : Gl S w := h.gl hg

set_option maxRecDepth 100000 in
set_option maxHeartbeats 3200000 in
theorem PutVals_any {w : World} (hg : Gl [] w) (v : Value) (ts : List ValT) (h : Sl [] w 4 v ts.length (ts.flatMap valC)) (hok : ∀ t, t ∈ ts → t.heap.ok) (hl : ts.length ≤ 1048576) :
    Calls Tryz.prog 54 #[v] w fun e w' => ∃ v', e = .returned v' ∧ St [] w w' [.own 5 1 (v') (valsB ts).length ((valsB ts).map B)] := by
  have hh := h
  obtain ⟨_, _, a, cap, rfl, _⟩ := h
  have hS0 := St.start [] w
  have Hok := Lib.hid hok
  clear hok
  have hmf : ∀ (fn : Fn) (first cap : Array Value) (w : World), (Instr.makeFunc fn first cap).run Tryz.prog w = .ok (.func fn first cap) w := fun _ _ _ _ => rfl
  go_enter Tryz.func54, Tryz.ntmps54
  go_wp2
  go_loopw [7] (fun n wr => ∃ (i : Nat), n = .int .i64 i ∧ i ≤ ts.length ∧ St [] w wr [] ∧ Hid ((ts.take i).all plainVal = true)) (fun n _ => ts.length - (intOf n).toNat)
  case atStart => exact ⟨0, rfl, by omega, hS0, Lib.hid rfl⟩
  case round =>
    obtain ⟨i, rfl, hi, hS, hall⟩ := hrel
    by_cases hlt : i < ts.length
    · obtain ⟨x, hx⟩ : ∃ t, ts[i]? = some t := ⟨ts[i], by simp [hlt]⟩
      obtain ⟨b1, o1, p1, hv1, hb1, _, hd1⟩ := Sl.elem (hS.sl hh) (fun _ => rfl) i x hx
      injection hv1 with e1 _ e1c
      subst e1 e1c
      have f10 := hd1 0 (by decide)
      have f11 := hd1 1 (by decide)
      have f12 := hd1 2 (by decide)
      have f13 := hd1 3 (by decide)
      clear hd1
      simp only [Nat.add_zero, ← Nat.add_assoc, valC, List.getElem?_cons_zero, List.getElem?_cons_succ] at f10 f11 f12 f13
      have i1 : (i : Int) < (ts.length : Int) := by omega
      have Hx := Lib.hid hx
      clear hx
      go_wp2_with (go_at_call 29; refine (plainVal_any _ x).mono ?_; rintro e w1 ⟨rfl, hF1⟩; generalize hb1 : plainVal x = b1; have Hb1 := Lib.hid hb1; clear hb1)
      · have hne : ts.all plainVal = false := by
          apply Bool.eq_false_iff.2
          intro hc
          have := List.all_eq_true.1 hc x (List.mem_of_getElem? Hx.out)
          rw [Hb1.out] at this
          simp_all
        go_ret
        refine ⟨_, rfl, ?_⟩
        rw [valsB_no hne]
        exact St.ofOut (Out.nil _) (New.nil _) ((hS.fr.alloc _).trans hF1)
      · go_roundw
        case rel =>
          refine ⟨i + 1, by go_num, by omega, (hS.alloc' _).step0 hF1, Lib.hid ?_⟩
          rw [take_one ts i x Hx.out, List.all_append, hall.out]
          have := Hb1.out
          simp_all
        case measure => simp [intOf]; omega
    · have hk : i = ts.length := by omega
      subst hk
      have hallP : ts.all plainVal = true := by simpa using hall.out
      have HP := Lib.hid hallP
      clear hallP hall
      have i1 : ¬ (ts.length : Int) < (ts.length : Int) := by omega
      have hg1 := hS.gl hg
      have hs1 := hS.sl hh
      have hx : ([] : List UInt8).length + 16 * ts.length + 64 ≤ 70368744177664 := by simp; omega
      go_wp2_with (go_at_call 90; refine (putList_val (.slice none 0 0) hg1 [] _ ts hs1 Hok.out (Out.nil _) hx).mono ?_; rintro e w4 ⟨v4, rfl, ho4, hA4⟩)
      go_ret
      refine ⟨v4, rfl, ?_⟩
      rw [valsB_yes HP.out]
      refine St.ofOut ho4 (fun b hb => ?_) (hS.fr.trans hA4.1)
      rcases hA4.2 b hb with hb | hb
      · cases hb
      · exact Nat.le_trans hS.fr.size hb
end Go.Proofs.YtokneepfknepaaaGreatDoor

set_option linter.unusedSimpArgs false
set_option linter.unusedVariables false
namespace Go.Proofs.YtokneepfknepaaaGreatDoor
open Go.RowKit

theorem pPutU (n : Nat) (w : World) (hn : n < 18446744073709551616) : Calls Tryz.prog 50 #[.int .u64 n] w fun e w' => ∃ v, e = .returned v ∧ St [] w w' [.own 5 1 (v) (putU n).length ((putU n).map B)] :=
  (PutU_any n w hn).mono fun e w' ⟨v, h1, h2, h3, h4⟩ => ⟨v, h1, St.ofOut h2 h3 h4⟩
theorem pPutUw (n : Nat) (w : World) (hn : n < 18446744073709551616) : Calls Tryz.prog 50 #[.int .u64 (IntKind.u64.wrap n)] w fun e w' => ∃ v, e = .returned v ∧ St [] w w' [.own 5 1 (v) (putU n).length ((putU n).map B)] := by
  rw [show IntKind.u64.wrap (n : Int) = (n : Int) from (show (n : Int) % 18446744073709551616 = n by omega)]
  exact pPutU n w hn
theorem pPutS (n : Int) (w : World) (h1 : -9223372036854775808 ≤ n) (h2 : n < 9223372036854775808) : Calls Tryz.prog 51 #[.int .i64 n] w fun e w' => ∃ v, e = .returned v ∧ St [] w w' [.own 5 1 (v) (putS n).length ((putS n).map B)] :=
  (PutS_any n w h1 h2).mono fun e w' ⟨v, h1, h2, h3, h4⟩ => ⟨v, h1, St.ofOut h2 h3 h4⟩
set_option maxRecDepth 100000 in set_option maxHeartbeats 1600000 in
theorem putNumber_st {S : List Nat} {w0 w : World} {G : List Res} {v : Value} {xs : List UInt8} (hS : St S w0 w (.own 5 1 (v) (xs).length ((xs).map B) :: G)) (n : Int) (h0 : 0 ≤ n) (hn : n < 9223372036854775808) (hx : xs.length ≤ 35184372088832) :
    Calls Tryz.prog 49 #[v, .int .i64 n] w fun e w' => ∃ v', e = .returned v' ∧ St S w0 w' (.own 5 1 (v') (xs ++ pNum n).length ((xs ++ pNum n).map B) :: G) := by
  obtain ⟨m, rfl⟩ : ∃ m : Nat, n = m := ⟨n.toNat, by omega⟩
  have hl := putU_len m (by omega)
  show Calls Tryz.prog 49 #[v, .int .i64 m] w fun e w' => ∃ v', e = .returned v' ∧ St S w0 w' (.own 5 1 (v') (xs ++ putU m).length ((xs ++ putU m).map B) :: G)
  have hm : m < 18446744073709551616 := by omega
  go_enter Tryz.func49, Tryz.ntmps49
  go_wp2_with first | (at_builtin; refine st_app rfl rfl rfl rfl ?_; (repeat (apply Exists.intro)); refine ⟨?_, ?_, ?_, ?_, ?_⟩; (· exact zsts1); (· exact zdst1); (· exact zsrc1); (· exact zlen1); intro vN wN hS; (try clear hQ); have hQ := St.facts hS; simp only [Facts, Res.fact, List.cons_append, List.nil_append, true_and, and_true] at hQ) | (go_at_call 50; (first | (with_reducible refine (pPutU m _ hm).mono ?_) | (with_reducible refine (pPutUw m _ hm).mono ?_)); rintro e w4 ⟨v4, rfl, s4⟩; refine st_go s4 ?_; (repeat (apply Exists.intro)); refine ⟨?_, ?_⟩; (· exact zsts1); (try simp only [World.size_alloc, World.size_setCell, size_drew, size_drewN]); intro hS; simp only [List.cons_append, List.nil_append] at hS; (try clear hQ); have hQ := St.facts hS; simp only [Facts, Res.fact, List.cons_append, List.nil_append, true_and, and_true] at hQ)
  go_ret
  exact ⟨_, rfl, hS.sel (by exact zsub1)⟩
/-- A number is put behind what is there. -/
theorem st_num {w : World} {v : Value} {n : Int} {Q : Ending → World → Prop} (h : ∃ S w0 G G' xs, St S w0 w G ∧ Pick G (.own 5 1 (v) (xs).length ((xs).map B)) G' ∧ (0 ≤ n ∧ n < 9223372036854775808) ∧ xs.length ≤ 35184372088832 ∧ ∀ v' w', St S w0 w' (.own 5 1 (v') (xs ++ pNum n).length ((xs ++ pNum n).map B) :: G') → Q (.returned v') w') : Calls Tryz.prog 49 #[v, .int .i64 n] w Q := by
  obtain ⟨S, w0, G, G', xs, h1, h2, h3, h4, h5⟩ := h
  exact (putNumber_st (h1.pick h2) n h3.1 h3.2 h4).mono fun e w' ⟨v', e1, e2⟩ => e1 ▸ h5 v' w' e2

theorem pNum_len (n : Int) (h : n < 9223372036854775808) : (pNum n).length ≤ 10 := putU_len _ (by omega)
theorem i64_and255 (n : Int) : bits .and .i64 n 255 = n % 256 := by
  have h255 : (BitVec.ofInt 64 255).toNat = 2 ^ 8 - 1 := by decide
  have key : (BitVec.ofInt 64 n &&& BitVec.ofInt 64 255).toNat = (n % ((2 ^ 64 : Nat) : Int)).toNat % 2 ^ 8 := by
    rw [BitVec.toNat_and, BitVec.toNat_ofInt, h255, Nat.and_two_pow_sub_one_eq_mod]
  show IntKind.i64.wrap ((BitVec.ofInt 64 n &&& BitVec.ofInt 64 255).toNat : Nat) = n % 256
  rw [key, IntKind.wrap_i64]
  omega
set_option maxRecDepth 100000 in set_option maxHeartbeats 1600000 in
theorem putOp_st {S : List Nat} {w0 w : World} {G : List Res} {v : Value} {xs : List UInt8} (hS : St S w0 w (.own 5 1 (v) (xs).length ((xs).map B) :: G)) (op : Int) (h0 : 0 ≤ op) (hn : op < 65536) (hx : xs.length ≤ 35184372088830) :
    Calls Tryz.prog 21 #[v, .int .i64 op] w fun e w' => ∃ v', e = .returned v' ∧ St S w0 w' (.own 5 1 (v') (xs ++ pOp op).length ((xs ++ pOp op).map B) :: G) := by
  by_cases h : op < 256
  · have e : pOp op = [UInt8.ofNat op.toNat] := by unfold pOp; rw [if_pos h]
    rw [e]
    have hw : op % 256 = op := by omega
    have hb : 0 ≤ op ∧ op < 256 := ⟨h0, h⟩
    clear e
    go_enter Tryz.func21, Tryz.ntmps21
    go_wp2_with first | (at_builtin; refine st_app rfl rfl rfl rfl ?_; (repeat (apply Exists.intro)); refine ⟨?_, ?_, ?_, ?_, ?_⟩; (· exact zsts1); (· exact zdst1); (· exact zsrc1); (· exact zlen1); intro vN wN hS; (try clear hQ); have hQ := St.facts hS; simp only [Facts, Res.fact, List.cons_append, List.nil_append, true_and, and_true] at hQ)
    go_ret
    exact ⟨_, rfl, hS.sel (by exact zsub1)⟩
  · have e : xs ++ pOp op = xs ++ [UInt8.ofNat (op / 256).toNat] ++ pNum (op % 256) := by unfold pOp; rw [if_neg h]; simp
    rw [e]
    have hand := i64_and255 op
    clear e
    go_enter Tryz.func21, Tryz.ntmps21
    go_wp2_with first | (at_builtin; refine st_app rfl rfl rfl rfl ?_; (repeat (apply Exists.intro)); refine ⟨?_, ?_, ?_, ?_, ?_⟩; (· exact zsts1); (· exact zdst1); (· exact zsrc1); (· exact zlen1); intro vN wN hS; (try clear hQ); have hQ := St.facts hS; simp only [Facts, Res.fact, List.cons_append, List.nil_append, true_and, and_true] at hQ) | (go_at_call 49; refine st_num ?_; (repeat (apply Exists.intro)); refine ⟨?_, ?_, ?_, ?_, ?_⟩; (· exact zsts1); (· (try simp only [World.size_alloc, World.size_setCell, size_drew, size_drewN]); (exact zpk1)); (· omega); (· exact zlen1); intro vN wN hS; (try clear hQ); have hQ := St.facts hS; simp only [Facts, Res.fact, List.cons_append, List.nil_append, true_and, and_true] at hQ)
    go_ret
    exact ⟨_, rfl, hS.sel (by exact zsub1)⟩

theorem nulls_any (w : World) (i : InstrT) (tv lv cv : Value) (ht : tv.oneCell' = true) (hl : lv.oneCell' = true) (hc : cv.oneCell' = true) : Calls Tryz.prog 52 #[.agg (insC i tv lv cv).toArray] w fun e w' => e = .returned (.int .u8 (pNulls i.null i.null2).toNat) ∧ Fr [] w w' := by
  obtain ⟨o, x, y, u, h, h2, n1, n2, ts, ls, b, cs⟩ := i
  dsimp only
  unfold insC
  dsimp only
  cases n1 <;> cases n2
  all_goals
    go_enter Tryz.func52, Tryz.ntmps52
    go_wp2
    go_ret
    exact ⟨rfl, by repeat (first | (with_reducible exact Fr.refl _ _) | (with_reducible assumption) | (with_reducible apply Fr.alloc) | (with_reducible apply Fr.drew) | (with_reducible apply Fr.drewN) | (with_reducible refine Fr.setCell ?_ (by first | (left; simp; done) | (right; simp; done) | (right; simp; omega)) _))⟩

theorem pPutVal7 {w : World} (t : ValT) (hg : Gl [] w) (hk : t.heap.ok) : Calls Tryz.prog 92 #[.agg #[.int .i64 t.kind, .bool t.null, .int .i64 t.heap.kind, .int .i64 t.heap.n]] w fun e w' => ∃ v', e = .returned v' ∧ St [] w w' [.own 5 1 (v') (valB t).length ((valB t).map B)] :=
  (PutVal_any hg t hk).mono fun e w' ⟨v, h1, h2, h3, h4⟩ => ⟨v, h1, St.ofOut h2 h3 h4⟩
theorem pPutHeap7 {w : World} (h : HeapT) (hg : Gl [] w) (hk : h.ok) : Calls Tryz.prog 53 #[.agg #[.int .i64 h.kind, .int .i64 h.n]] w fun e w' => ∃ v', e = .returned v' ∧ St [] w w' [.own 5 1 (v') (heapB h).length ((heapB h).map B)] :=
  (PutHeap_any hg h hk).mono fun e w' ⟨v, h1, h2, h3, h4⟩ => ⟨v, h1, St.ofOut h2 h3 h4⟩

set_option maxRecDepth 100000 in set_option maxHeartbeats 1600000 in
theorem putBlock_st {w : World} (hg : Gl [] w) (b : BlockT) (hb : mayBlock b = true) :
    Calls Tryz.prog 55 #[.agg #[.int .i64 b.kind, .int .i64 b.val.kind, .bool b.val.null, .int .i64 b.val.heap.kind, .int .i64 b.val.heap.n, .int .i64 b.n]] w fun e w' => ∃ v', e = .returned v' ∧ St [] w w' [.own 5 1 (v') (pBlock b).length ((pBlock b).map B)] := by
  have hS := St.start [] w
  rcases (mayBlock_iff b).1 hb with rfl | ⟨h1, h2, h3⟩ | ⟨h1, h2, h3⟩
  · show Calls Tryz.prog 55 #[.agg #[.int .i64 0, .int .i64 0, .bool false, .int .i64 0, .int .i64 0, .int .i64 0]] w fun e w' => ∃ v', e = .returned v' ∧ St [] w w' [.own 5 1 (v') ([64]).length (([64]).map B)]
    go_enter Tryz.func55, Tryz.ntmps55
    go_wp2
    go_ret
    refine ⟨_, rfl, ?_⟩
    have h4 := St.dst (((hS.alloc [.int .i64 0, .int .i64 0, .bool false, .int .i64 0, .int .i64 0, .int .i64 0] 41).alloc [.int .u8 64] 5)) (.lit .here (by omega))
    simp only [World.size_alloc] at h4
    exact h4.sel (.cons .here .nil)
  · have e : pBlock b = valB b.val := by unfold pBlock; rw [if_pos h1]
    rw [e]
    have hok := plainVal_ok h2
    obtain ⟨bk, ⟨vk, vn, ⟨wk, wn⟩⟩, bn⟩ := b
    dsimp only at h1 h3 hok ⊢
    subst h1
    clear h2 hb e
    go_enter Tryz.func55, Tryz.ntmps55
    go_wp2_with first | (go_at_call 92; (with_reducible refine (pPutVal7 (⟨vk, vn, ⟨wk, wn⟩⟩ : ValT) ?_ ?_).mono ?_); (· apply St.gl (hs := hg); (exact zsts1)); (· exact hok); rintro e w4 ⟨v4, rfl, s4⟩; refine st_go s4 ?_; (repeat (apply Exists.intro)); refine ⟨?_, ?_⟩; (· exact zsts1); (try simp only [World.size_alloc, World.size_setCell, size_drew, size_drewN]); intro hS; simp only [List.cons_append, List.nil_append] at hS; (try clear hQ); have hQ := St.facts hS; simp only [Facts, Res.fact, List.cons_append, List.nil_append, true_and, and_true] at hQ)
    go_ret
    exact ⟨_, rfl, hS.sel (by exact zsub1)⟩
  · have e : pBlock b = putS b.n := by unfold pBlock; rw [if_neg (by omega), if_pos h1]
    rw [e]
    have hn := (idx_iff _).1 h3
    obtain ⟨bk, ⟨vk, vn, ⟨wk, wn⟩⟩, bn⟩ := b
    dsimp only at h1 hn ⊢
    subst h1
    clear h2 h3 hb e
    obtain ⟨hn1, hn2⟩ := hn
    go_enter Tryz.func55, Tryz.ntmps55
    go_wp2_with first | (go_at_call 51; (with_reducible refine (pPutS bn _ (by omega) (by omega)).mono ?_); rintro e w4 ⟨v4, rfl, s4⟩; refine st_go s4 ?_; (repeat (apply Exists.intro)); refine ⟨?_, ?_⟩; (· exact zsts1); (try simp only [World.size_alloc, World.size_setCell, size_drew, size_drewN]); intro hS; simp only [List.cons_append, List.nil_append] at hS; (try clear hQ); have hQ := St.facts hS; simp only [Facts, Res.fact, List.cons_append, List.nil_append, true_and, and_true] at hQ)
    go_ret
    exact ⟨_, rfl, hS.sel (by exact zsub1)⟩

set_option maxRecDepth 100000 in set_option maxHeartbeats 1600000 in
theorem putCatch_st {S : List Nat} {w0 w : World} {G : List Res} {v : Value} {xs : List UInt8} (hS : St S w0 w (.own 5 1 (v) (xs).length ((xs).map B) :: G)) (c : CatchT) (hc : mayCatch c = true) (hx : xs.length ≤ 35184372088800) :
    Calls Tryz.prog 56 #[v, .agg #[.int .i64 c.kind, .int .i64 c.tag, .int .i64 c.label]] w fun e w' => ∃ v', e = .returned v' ∧ St S w0 w' (.own 5 1 (v') (xs ++ pCatch c).length ((xs ++ pCatch c).map B) :: G) := by
  obtain ⟨h1, h2, h3, h4⟩ := (mayCatch_iff c).1 hc
  have h3' := (idx_iff _).1 h3
  by_cases hk : c.kind < 2
  · rw [if_pos hk] at h4
    have h4' := (idx_iff _).1 h4
    have e : xs ++ pCatch c = xs ++ [UInt8.ofNat c.kind.toNat] ++ pNum c.tag ++ pNum c.label := by unfold pCatch; rw [if_pos hk]; simp
    rw [e]
    have l1 := pNum_len c.tag (by omega)
    have l2 := pNum_len c.label (by omega)
    obtain ⟨ck, ct, cl⟩ := c
    dsimp only at h1 h2 h3' h4' hk l1 l2 ⊢
    clear hc h3 h4 e
    go_enter Tryz.func56, Tryz.ntmps56
    go_wp2_with first | (at_builtin; refine st_app rfl rfl rfl rfl ?_; (repeat (apply Exists.intro)); refine ⟨?_, ?_, ?_, ?_, ?_⟩; (· exact zsts1); (· exact zdst1); (· exact zsrc1); (· exact zlen1); intro vN wN hS; (try clear hQ); have hQ := St.facts hS; simp only [Facts, Res.fact, List.cons_append, List.nil_append, true_and, and_true] at hQ) | (go_at_call 49; refine st_num ?_; (repeat (apply Exists.intro)); refine ⟨?_, ?_, ?_, ?_, ?_⟩; (· exact zsts1); (· (try simp only [World.size_alloc, World.size_setCell, size_drew, size_drewN]); (exact zpk1)); (· omega); (· exact zlen1); intro vN wN hS; (try clear hQ); have hQ := St.facts hS; simp only [Facts, Res.fact, List.cons_append, List.nil_append, true_and, and_true] at hQ)
    go_ret
    exact ⟨_, rfl, hS.sel (by exact zsub1)⟩
  · have e : xs ++ pCatch c = xs ++ [UInt8.ofNat c.kind.toNat] ++ pNum c.label := by unfold pCatch; rw [if_neg hk]; simp
    rw [e]
    have l2 := pNum_len c.label (by omega)
    obtain ⟨ck, ct, cl⟩ := c
    dsimp only at h1 h2 h3' hk l2 ⊢
    clear hc h3 h4 e
    go_enter Tryz.func56, Tryz.ntmps56
    go_wp2_with first | (at_builtin; refine st_app rfl rfl rfl rfl ?_; (repeat (apply Exists.intro)); refine ⟨?_, ?_, ?_, ?_, ?_⟩; (· exact zsts1); (· exact zdst1); (· exact zsrc1); (· exact zlen1); intro vN wN hS; (try clear hQ); have hQ := St.facts hS; simp only [Facts, Res.fact, List.cons_append, List.nil_append, true_and, and_true] at hQ) | (go_at_call 49; refine st_num ?_; (repeat (apply Exists.intro)); refine ⟨?_, ?_, ?_, ?_, ?_⟩; (· exact zsts1); (· (try simp only [World.size_alloc, World.size_setCell, size_drew, size_drewN]); (exact zpk1)); (· omega); (· exact zlen1); intro vN wN hS; (try clear hQ); have hQ := St.facts hS; simp only [Facts, Res.fact, List.cons_append, List.nil_append, true_and, and_true] at hQ)
    go_ret
    exact ⟨_, rfl, hS.sel (by exact zsub1)⟩
end Go.Proofs.YtokneepfknepaaaGreatDoor

set_option linter.unusedSimpArgs false
set_option linter.unusedVariables false
namespace Go.Proofs.YtokneepfknepaaaGreatDoor
open Go.RowKit

theorem st_catch {w : World} {v : Value} {c : CatchT} {Q : Ending → World → Prop} (h : ∃ S w0 G G' xs, St S w0 w G ∧ Pick G (.own 5 1 (v) (xs).length ((xs).map B)) G' ∧ mayCatch c = true ∧ xs.length ≤ 35184372088800 ∧ ∀ v' w', St S w0 w' (.own 5 1 (v') (xs ++ pCatch c).length ((xs ++ pCatch c).map B) :: G') → Q (.returned v') w') : Calls Tryz.prog 56 #[v, .agg #[.int .i64 c.kind, .int .i64 c.tag, .int .i64 c.label]] w Q := by
  obtain ⟨S, w0, G, G', xs, h1, h2, h3, h4, h5⟩ := h
  exact (putCatch_st (h1.pick h2) c h3 h4).mono fun e w' ⟨v', e1, e2⟩ => e1 ▸ h5 v' w' e2
theorem pBlock_len {b : BlockT} (h : mayBlock b = true) : (pBlock b).length ≤ 13 := by
  rcases (mayBlock_iff b).1 h with rfl | ⟨h1, h2, h3⟩ | ⟨h1, h2, h3⟩
  · decide
  · unfold pBlock; rw [if_pos h1, valB_yes h2]; exact pVal_len _ (plainVal_ok h2)
  · have := (idx_iff _).1 h3
    have := putS_len b.n (by omega) (by omega)
    unfold pBlock; rw [if_neg (by omega), if_pos h1]; omega
theorem flat_len7 {α : Type} {f : α → List UInt8} {m : Nat} : ∀ (l : List α), (∀ x, x ∈ l → (f x).length ≤ m) → (l.flatMap f).length ≤ l.length * m
  | [], _ => by simp
  | a :: l, h => by
    have h1 := h a (by simp)
    have h2 := flat_len7 l fun x hx => h x (by simp [hx])
    rw [List.flatMap_cons, List.length_append, List.length_cons, Nat.add_mul, Nat.one_mul]
    omega
theorem toI32_wrap {u : Nat} (h : u < 4294967296) : wrap32 (u : Int) = toI32 u ∧ wrap64 (toI32 u) = toI32 u := by
  unfold wrap32 wrap64 toI32
  split <;> omega
theorem toI64_wrap7 {u : Nat} (h : u < 18446744073709551616) : wrap64 (u : Int) = toI64 u := by
  unfold wrap64 toI64
  split <;> omega
theorem pCatch_len {c : CatchT} (h : mayCatch c = true) : (pCatch c).length ≤ 21 := by
  obtain ⟨h1, h2, h3, h4⟩ := (mayCatch_iff c).1 h
  have h3' := (idx_iff _).1 h3
  have l2 := pNum_len c.label (by omega)
  unfold pCatch
  split
  · rename_i hk
    rw [if_pos hk] at h4
    have h4' := (idx_iff _).1 h4
    have l1 := pNum_len c.tag (by omega)
    simp only [List.length_cons, List.length_append]
    omega
  · simp only [List.length_cons, List.length_append, List.length_nil]
    omega
theorem ls_len (ls : List Int) (h : ls.all idx = true) : (ls.flatMap pNum).length ≤ ls.length * 10 :=
  flat_len7 ls fun n hn => by
    have := (idx_iff _).1 (List.all_eq_true.1 h n hn)
    exact pNum_len n (by omega)
theorem valsB_len (ts : List ValT) (h : ∀ t, t ∈ ts → t.heap.ok) (hn : ts.length ≤ 65536) : (valsB ts).length ≤ 20 + ts.length * 13 := by
  unfold valsB
  split
  · have h1 := flat_len7 ts fun x hx => pVal_len x (h x hx)
    have h2 := putU_len ts.length (by omega)
    unfold pList
    rw [List.length_append]
    omega
  · simp
set_option maxRecDepth 100000 in set_option maxHeartbeats 6400000 in
theorem rest1_st {w0 w : World} {G : List Res} {v : Value} {xs : List UInt8} (hS : St [] w0 w (.own 5 1 (v) (xs).length ((xs).map B) :: G)) (hg : Gl7 [] w0) (o x y : Int) (u : Nat) (hk hn jk jn : Int) (n1 n2 : Bool) (ts : List ValT) (ls : List Int) (bk vk : Int) (vn : Bool) (wk wn bn : Int) (cs : List CatchT) (tv lv cv : Value) (hR : InsR [] w0 (⟨o, x, y, u, ⟨hk, hn⟩, ⟨jk, jn⟩, n1, n2, ts, ls, ⟨bk, ⟨vk, vn, ⟨wk, wn⟩⟩, bn⟩, cs⟩ : InstrT) tv lv cv) (hx : xs.length ≤ 17592186044416) (hm : mayI (⟨o, x, y, u, ⟨hk, hn⟩, ⟨jk, jn⟩, n1, n2, ts, ls, ⟨bk, ⟨vk, vn, ⟨wk, wn⟩⟩, bn⟩, cs⟩ : InstrT) = true) (hl1 : ts.length ≤ 65536) (hl2 : ls.length ≤ 65536) (hl3 : cs.length ≤ 65536) (hu : u < 18446744073709551616) (hsh : shNone o) :
    Calls Tryz.prog 20 #[v, .agg (insC (⟨o, x, y, u, ⟨hk, hn⟩, ⟨jk, jn⟩, n1, n2, ts, ls, ⟨bk, ⟨vk, vn, ⟨wk, wn⟩⟩, bn⟩, cs⟩ : InstrT) tv lv cv).toArray] w fun e w' => ∃ v', e = .returned v' ∧ St [] w0 w' (.own 5 1 (v') (xs ++ pRest (⟨o, x, y, u, ⟨hk, hn⟩, ⟨jk, jn⟩, n1, n2, ts, ls, ⟨bk, ⟨vk, vn, ⟨wk, wn⟩⟩, bn⟩, cs⟩ : InstrT)).length ((xs ++ pRest (⟨o, x, y, u, ⟨hk, hn⟩, ⟨jk, jn⟩, n1, n2, ts, ls, ⟨bk, ⟨vk, vn, ⟨wk, wn⟩⟩, bn⟩, cs⟩ : InstrT)).map B) :: G) := by
  have hb := shape_ok (mayI_shape hm)
  have ho1 : -9223372036854775808 ≤ o := by have := hb.1; dsimp only at this; omega
  have ho2 : o < 9223372036854775808 := by have := hb.1; have := hb.2.1; dsimp only at this; omega
  obtain ⟨tS, lS, cS⟩ := hR
  obtain ⟨ta, tc, rfl⟩ := tS.shape
  obtain ⟨la, lc, rfl⟩ := lS.shape
  obtain ⟨ca, cc, rfl⟩ := cS.shape
  dsimp only at tS lS cS
  have e0 : xs ++ pRest (⟨o, x, y, u, ⟨hk, hn⟩, ⟨jk, jn⟩, n1, n2, ts, ls, ⟨bk, ⟨vk, vn, ⟨wk, wn⟩⟩, bn⟩, cs⟩ : InstrT) = xs := by rw [rest1 (by exact hsh)]; simp
  have E0 := Lib.hid e0
  clear e0
  generalize xs ++ pRest (⟨o, x, y, u, ⟨hk, hn⟩, ⟨jk, jn⟩, n1, n2, ts, ls, ⟨bk, ⟨vk, vn, ⟨wk, wn⟩⟩, bn⟩, cs⟩ : InstrT) = Y at E0 ⊢
  obtain ⟨h4, h6, h7, h5, h8, h9, h10, h11, h12, h2, h3, h13⟩ := hsh
  have HK : Hid (shapeP o = shapeP o) := Lib.hid rfl
  have k4 : (shapeP o == 4) = false := by simpa using h4
  have k6 : (shapeP o == 6) = false := by simpa using h6
  have k7 : (shapeP o == 7) = false := by simpa using h7
  have k5 : (shapeP o == 5) = false := by simpa using h5
  have k8 : (shapeP o == 8) = false := by simpa using h8
  have k9 : (shapeP o == 9) = false := by simpa using h9
  have k10 : (shapeP o == 10) = false := by simpa using h10
  have k11 : (shapeP o == 11) = false := by simpa using h11
  have k12 : (shapeP o == 12) = false := by simpa using h12
  have k2 : (shapeP o == 2) = false := by simpa using h2
  have k3 : (shapeP o == 3) = false := by simpa using h3
  have k13 : (shapeP o == 13) = false := by simpa using h13
  clear h4 h6 h7 h5 h8 h9 h10 h11 h12 h2 h3 h13
  clear hb hm
  unfold insC
  dsimp only
  go_enter Tryz.func20, Tryz.ntmps20
  go_wp2_with first | (go_at_call 24; (with_reducible refine (shape_any ?_ _ ?_ ?_).mono ?_); (· apply St.gl7 (hg := hg); (exact zsts2)); (· omega); (· omega); rintro e w2 ⟨rfl, hF2⟩; refine st_fr hF2 ?_; (repeat (apply Exists.intro)); refine ⟨?_, ?_⟩; (· exact zsts2); (try simp only [World.size_alloc, World.size_setCell, size_drew, size_drewN]); intro hS; (try clear hQ); have hQ := St.facts hS; simp only [Facts, Res.fact, List.cons_append, List.nil_append, true_and, and_true] at hQ; (try rw [HK.out]))
  go_ret
  refine ⟨v, rfl, ?_⟩
  rw [E0.out]
  exact hS.sel (by exact zsub1)
set_option maxRecDepth 100000 in set_option maxHeartbeats 6400000 in
theorem rest4_st {w0 w : World} {G : List Res} {v : Value} {xs : List UInt8} (hS : St [] w0 w (.own 5 1 (v) (xs).length ((xs).map B) :: G)) (hg : Gl7 [] w0) (o x y : Int) (u : Nat) (hk hn jk jn : Int) (n1 n2 : Bool) (ts : List ValT) (ls : List Int) (bk vk : Int) (vn : Bool) (wk wn bn : Int) (cs : List CatchT) (tv lv cv : Value) (hR : InsR [] w0 (⟨o, x, y, u, ⟨hk, hn⟩, ⟨jk, jn⟩, n1, n2, ts, ls, ⟨bk, ⟨vk, vn, ⟨wk, wn⟩⟩, bn⟩, cs⟩ : InstrT) tv lv cv) (hx : xs.length ≤ 17592186044416) (hm : mayI (⟨o, x, y, u, ⟨hk, hn⟩, ⟨jk, jn⟩, n1, n2, ts, ls, ⟨bk, ⟨vk, vn, ⟨wk, wn⟩⟩, bn⟩, cs⟩ : InstrT) = true) (hl1 : ts.length ≤ 65536) (hl2 : ls.length ≤ 65536) (hl3 : cs.length ≤ 65536) (hu : u < 18446744073709551616) (hsh : shapeP o = 4) :
    Calls Tryz.prog 20 #[v, .agg (insC (⟨o, x, y, u, ⟨hk, hn⟩, ⟨jk, jn⟩, n1, n2, ts, ls, ⟨bk, ⟨vk, vn, ⟨wk, wn⟩⟩, bn⟩, cs⟩ : InstrT) tv lv cv).toArray] w fun e w' => ∃ v', e = .returned v' ∧ St [] w0 w' (.own 5 1 (v') (xs ++ pRest (⟨o, x, y, u, ⟨hk, hn⟩, ⟨jk, jn⟩, n1, n2, ts, ls, ⟨bk, ⟨vk, vn, ⟨wk, wn⟩⟩, bn⟩, cs⟩ : InstrT)).length ((xs ++ pRest (⟨o, x, y, u, ⟨hk, hn⟩, ⟨jk, jn⟩, n1, n2, ts, ls, ⟨bk, ⟨vk, vn, ⟨wk, wn⟩⟩, bn⟩, cs⟩ : InstrT)).map B) :: G) := by
  have hb := shape_ok (mayI_shape hm)
  have ho1 : -9223372036854775808 ≤ o := by have := hb.1; dsimp only at this; omega
  have ho2 : o < 9223372036854775808 := by have := hb.1; have := hb.2.1; dsimp only at this; omega
  obtain ⟨tS, lS, cS⟩ := hR
  obtain ⟨ta, tc, rfl⟩ := tS.shape
  obtain ⟨la, lc, rfl⟩ := lS.shape
  obtain ⟨ca, cc, rfl⟩ := cS.shape
  dsimp only at tS lS cS
  have e0 : xs ++ pRest (⟨o, x, y, u, ⟨hk, hn⟩, ⟨jk, jn⟩, n1, n2, ts, ls, ⟨bk, ⟨vk, vn, ⟨wk, wn⟩⟩, bn⟩, cs⟩ : InstrT) = xs ++ pNum x := by rw [rest46 (by dsimp only; omega)]
  have E0 := Lib.hid e0
  clear e0
  generalize xs ++ pRest (⟨o, x, y, u, ⟨hk, hn⟩, ⟨jk, jn⟩, n1, n2, ts, ls, ⟨bk, ⟨vk, vn, ⟨wk, wn⟩⟩, bn⟩, cs⟩ : InstrT) = Y at E0 ⊢
  have hX := (idx_iff _).1 (inv46 (by dsimp only; omega) hm).1
  dsimp only at hX
  have lX := pNum_len x (by omega)
  have HK := Lib.hid hsh
  clear hsh
  clear hb hm
  unfold insC
  dsimp only
  go_enter Tryz.func20, Tryz.ntmps20
  go_wp2_with first | (go_at_call 24; (with_reducible refine (shape_any ?_ _ ?_ ?_).mono ?_); (· apply St.gl7 (hg := hg); (exact zsts2)); (· omega); (· omega); rintro e w2 ⟨rfl, hF2⟩; refine st_fr hF2 ?_; (repeat (apply Exists.intro)); refine ⟨?_, ?_⟩; (· exact zsts2); (try simp only [World.size_alloc, World.size_setCell, size_drew, size_drewN]); intro hS; (try clear hQ); have hQ := St.facts hS; simp only [Facts, Res.fact, List.cons_append, List.nil_append, true_and, and_true] at hQ; (try rw [HK.out])) | (go_at_call 49; (try rw [hwk]); refine st_num ?_; (repeat (apply Exists.intro)); refine ⟨?_, ?_, ?_, ?_, ?_⟩; (· exact zsts2); (· (try simp only [World.size_alloc, World.size_setCell, size_drew, size_drewN]); (exact zpk1)); (· omega); (· exact zlen1); intro vN wN hS; (try clear hQ); have hQ := St.facts hS; simp only [Facts, Res.fact, List.cons_append, List.nil_append, true_and, and_true] at hQ)
  go_ret
  refine ⟨vN, rfl, ?_⟩
  rw [E0.out]
  exact hS.sel (by exact zsub1)
set_option maxRecDepth 100000 in set_option maxHeartbeats 6400000 in
theorem rest6_st {w0 w : World} {G : List Res} {v : Value} {xs : List UInt8} (hS : St [] w0 w (.own 5 1 (v) (xs).length ((xs).map B) :: G)) (hg : Gl7 [] w0) (o x y : Int) (u : Nat) (hk hn jk jn : Int) (n1 n2 : Bool) (ts : List ValT) (ls : List Int) (bk vk : Int) (vn : Bool) (wk wn bn : Int) (cs : List CatchT) (tv lv cv : Value) (hR : InsR [] w0 (⟨o, x, y, u, ⟨hk, hn⟩, ⟨jk, jn⟩, n1, n2, ts, ls, ⟨bk, ⟨vk, vn, ⟨wk, wn⟩⟩, bn⟩, cs⟩ : InstrT) tv lv cv) (hx : xs.length ≤ 17592186044416) (hm : mayI (⟨o, x, y, u, ⟨hk, hn⟩, ⟨jk, jn⟩, n1, n2, ts, ls, ⟨bk, ⟨vk, vn, ⟨wk, wn⟩⟩, bn⟩, cs⟩ : InstrT) = true) (hl1 : ts.length ≤ 65536) (hl2 : ls.length ≤ 65536) (hl3 : cs.length ≤ 65536) (hu : u < 18446744073709551616) (hsh : shapeP o = 6) :
    Calls Tryz.prog 20 #[v, .agg (insC (⟨o, x, y, u, ⟨hk, hn⟩, ⟨jk, jn⟩, n1, n2, ts, ls, ⟨bk, ⟨vk, vn, ⟨wk, wn⟩⟩, bn⟩, cs⟩ : InstrT) tv lv cv).toArray] w fun e w' => ∃ v', e = .returned v' ∧ St [] w0 w' (.own 5 1 (v') (xs ++ pRest (⟨o, x, y, u, ⟨hk, hn⟩, ⟨jk, jn⟩, n1, n2, ts, ls, ⟨bk, ⟨vk, vn, ⟨wk, wn⟩⟩, bn⟩, cs⟩ : InstrT)).length ((xs ++ pRest (⟨o, x, y, u, ⟨hk, hn⟩, ⟨jk, jn⟩, n1, n2, ts, ls, ⟨bk, ⟨vk, vn, ⟨wk, wn⟩⟩, bn⟩, cs⟩ : InstrT)).map B) :: G) := by
  have hb := shape_ok (mayI_shape hm)
  have ho1 : -9223372036854775808 ≤ o := by have := hb.1; dsimp only at this; omega
  have ho2 : o < 9223372036854775808 := by have := hb.1; have := hb.2.1; dsimp only at this; omega
  obtain ⟨tS, lS, cS⟩ := hR
  obtain ⟨ta, tc, rfl⟩ := tS.shape
  obtain ⟨la, lc, rfl⟩ := lS.shape
  obtain ⟨ca, cc, rfl⟩ := cS.shape
  dsimp only at tS lS cS
  have e0 : xs ++ pRest (⟨o, x, y, u, ⟨hk, hn⟩, ⟨jk, jn⟩, n1, n2, ts, ls, ⟨bk, ⟨vk, vn, ⟨wk, wn⟩⟩, bn⟩, cs⟩ : InstrT) = xs ++ pNum x := by rw [rest46 (by dsimp only; omega)]
  have E0 := Lib.hid e0
  clear e0
  generalize xs ++ pRest (⟨o, x, y, u, ⟨hk, hn⟩, ⟨jk, jn⟩, n1, n2, ts, ls, ⟨bk, ⟨vk, vn, ⟨wk, wn⟩⟩, bn⟩, cs⟩ : InstrT) = Y at E0 ⊢
  have hX := (idx_iff _).1 (inv46 (by dsimp only; omega) hm).1
  dsimp only at hX
  have lX := pNum_len x (by omega)
  have HK := Lib.hid hsh
  clear hsh
  clear hb hm
  unfold insC
  dsimp only
  go_enter Tryz.func20, Tryz.ntmps20
  go_wp2_with first | (go_at_call 24; (with_reducible refine (shape_any ?_ _ ?_ ?_).mono ?_); (· apply St.gl7 (hg := hg); (exact zsts2)); (· omega); (· omega); rintro e w2 ⟨rfl, hF2⟩; refine st_fr hF2 ?_; (repeat (apply Exists.intro)); refine ⟨?_, ?_⟩; (· exact zsts2); (try simp only [World.size_alloc, World.size_setCell, size_drew, size_drewN]); intro hS; (try clear hQ); have hQ := St.facts hS; simp only [Facts, Res.fact, List.cons_append, List.nil_append, true_and, and_true] at hQ; (try rw [HK.out])) | (go_at_call 49; (try rw [hwk]); refine st_num ?_; (repeat (apply Exists.intro)); refine ⟨?_, ?_, ?_, ?_, ?_⟩; (· exact zsts2); (· (try simp only [World.size_alloc, World.size_setCell, size_drew, size_drewN]); (exact zpk1)); (· omega); (· exact zlen1); intro vN wN hS; (try clear hQ); have hQ := St.facts hS; simp only [Facts, Res.fact, List.cons_append, List.nil_append, true_and, and_true] at hQ)
  go_ret
  refine ⟨vN, rfl, ?_⟩
  rw [E0.out]
  exact hS.sel (by exact zsub1)
set_option maxRecDepth 100000 in set_option maxHeartbeats 6400000 in
theorem rest7_st {w0 w : World} {G : List Res} {v : Value} {xs : List UInt8} (hS : St [] w0 w (.own 5 1 (v) (xs).length ((xs).map B) :: G)) (hg : Gl7 [] w0) (o x y : Int) (u : Nat) (hk hn jk jn : Int) (n1 n2 : Bool) (ts : List ValT) (ls : List Int) (bk vk : Int) (vn : Bool) (wk wn bn : Int) (cs : List CatchT) (tv lv cv : Value) (hR : InsR [] w0 (⟨o, x, y, u, ⟨hk, hn⟩, ⟨jk, jn⟩, n1, n2, ts, ls, ⟨bk, ⟨vk, vn, ⟨wk, wn⟩⟩, bn⟩, cs⟩ : InstrT) tv lv cv) (hx : xs.length ≤ 17592186044416) (hm : mayI (⟨o, x, y, u, ⟨hk, hn⟩, ⟨jk, jn⟩, n1, n2, ts, ls, ⟨bk, ⟨vk, vn, ⟨wk, wn⟩⟩, bn⟩, cs⟩ : InstrT) = true) (hl1 : ts.length ≤ 65536) (hl2 : ls.length ≤ 65536) (hl3 : cs.length ≤ 65536) (hu : u < 18446744073709551616) (hsh : shapeP o = 7) :
    Calls Tryz.prog 20 #[v, .agg (insC (⟨o, x, y, u, ⟨hk, hn⟩, ⟨jk, jn⟩, n1, n2, ts, ls, ⟨bk, ⟨vk, vn, ⟨wk, wn⟩⟩, bn⟩, cs⟩ : InstrT) tv lv cv).toArray] w fun e w' => ∃ v', e = .returned v' ∧ St [] w0 w' (.own 5 1 (v') (xs ++ pRest (⟨o, x, y, u, ⟨hk, hn⟩, ⟨jk, jn⟩, n1, n2, ts, ls, ⟨bk, ⟨vk, vn, ⟨wk, wn⟩⟩, bn⟩, cs⟩ : InstrT)).length ((xs ++ pRest (⟨o, x, y, u, ⟨hk, hn⟩, ⟨jk, jn⟩, n1, n2, ts, ls, ⟨bk, ⟨vk, vn, ⟨wk, wn⟩⟩, bn⟩, cs⟩ : InstrT)).map B) :: G) := by
  have hb := shape_ok (mayI_shape hm)
  have ho1 : -9223372036854775808 ≤ o := by have := hb.1; dsimp only at this; omega
  have ho2 : o < 9223372036854775808 := by have := hb.1; have := hb.2.1; dsimp only at this; omega
  obtain ⟨tS, lS, cS⟩ := hR
  obtain ⟨ta, tc, rfl⟩ := tS.shape
  obtain ⟨la, lc, rfl⟩ := lS.shape
  obtain ⟨ca, cc, rfl⟩ := cS.shape
  dsimp only at tS lS cS
  have e0 : xs ++ pRest (⟨o, x, y, u, ⟨hk, hn⟩, ⟨jk, jn⟩, n1, n2, ts, ls, ⟨bk, ⟨vk, vn, ⟨wk, wn⟩⟩, bn⟩, cs⟩ : InstrT) = xs ++ pNum x ++ pNum y := by rw [rest7 (by exact hsh)]; simp
  have E0 := Lib.hid e0
  clear e0
  generalize xs ++ pRest (⟨o, x, y, u, ⟨hk, hn⟩, ⟨jk, jn⟩, n1, n2, ts, ls, ⟨bk, ⟨vk, vn, ⟨wk, wn⟩⟩, bn⟩, cs⟩ : InstrT) = Y at E0 ⊢
  have hp := may_inv hm (part7 (i := (⟨o, x, y, u, ⟨hk, hn⟩, ⟨jk, jn⟩, n1, n2, ts, ls, ⟨bk, ⟨vk, vn, ⟨wk, wn⟩⟩, bn⟩, cs⟩ : InstrT)) hsh)
  have hp1 := hp.1
  simp only [Bool.and_eq_true, idx_iff] at hp1
  obtain ⟨hX, hY⟩ := hp1
  have lX := pNum_len x (by omega)
  have lY := pNum_len y (by omega)
  have HK := Lib.hid hsh
  clear hsh hp
  clear hb hm
  unfold insC
  dsimp only
  go_enter Tryz.func20, Tryz.ntmps20
  go_wp2_with first | (go_at_call 24; (with_reducible refine (shape_any ?_ _ ?_ ?_).mono ?_); (· apply St.gl7 (hg := hg); (exact zsts2)); (· omega); (· omega); rintro e w2 ⟨rfl, hF2⟩; refine st_fr hF2 ?_; (repeat (apply Exists.intro)); refine ⟨?_, ?_⟩; (· exact zsts2); (try simp only [World.size_alloc, World.size_setCell, size_drew, size_drewN]); intro hS; (try clear hQ); have hQ := St.facts hS; simp only [Facts, Res.fact, List.cons_append, List.nil_append, true_and, and_true] at hQ; (try rw [HK.out]))
  go_region_held3 (fun w' => w'.cell? ⟨w.heap.size, 1, none⟩ = some (.int .i64 x) ∧ w'.cell? ⟨w.heap.size, 2, none⟩ = some (.int .i64 y))
    (first | (go_keep; done) | (simp [hQ]; done)) (first | (go_at_call 49; (try rw [hwk]); refine st_num ?_; (repeat (apply Exists.intro)); refine ⟨?_, ?_, ?_, ?_, ?_⟩; (· exact zsts2); (· (try simp only [World.size_alloc, World.size_setCell, size_drew, size_drewN]); (exact zpk1)); (· omega); (· exact zlen1); intro vN wN hS; (try clear hQ); have hQ := St.facts hS; simp only [Facts, Res.fact, List.cons_append, List.nil_append, true_and, and_true] at hQ))
  go_wp2
  go_ret
  refine ⟨vN, rfl, ?_⟩
  rw [E0.out]
  exact hS.sel (by exact zsub1)
set_option maxRecDepth 100000 in set_option maxHeartbeats 6400000 in
theorem rest5_st {w0 w : World} {G : List Res} {v : Value} {xs : List UInt8} (hS : St [] w0 w (.own 5 1 (v) (xs).length ((xs).map B) :: G)) (hg : Gl7 [] w0) (o x y : Int) (u : Nat) (hk hn jk jn : Int) (n1 n2 : Bool) (ts : List ValT) (ls : List Int) (bk vk : Int) (vn : Bool) (wk wn bn : Int) (cs : List CatchT) (tv lv cv : Value) (hR : InsR [] w0 (⟨o, x, y, u, ⟨hk, hn⟩, ⟨jk, jn⟩, n1, n2, ts, ls, ⟨bk, ⟨vk, vn, ⟨wk, wn⟩⟩, bn⟩, cs⟩ : InstrT) tv lv cv) (hx : xs.length ≤ 17592186044416) (hm : mayI (⟨o, x, y, u, ⟨hk, hn⟩, ⟨jk, jn⟩, n1, n2, ts, ls, ⟨bk, ⟨vk, vn, ⟨wk, wn⟩⟩, bn⟩, cs⟩ : InstrT) = true) (hl1 : ts.length ≤ 65536) (hl2 : ls.length ≤ 65536) (hl3 : cs.length ≤ 65536) (hu : u < 18446744073709551616) (hsh : shapeP o = 5) :
    Calls Tryz.prog 20 #[v, .agg (insC (⟨o, x, y, u, ⟨hk, hn⟩, ⟨jk, jn⟩, n1, n2, ts, ls, ⟨bk, ⟨vk, vn, ⟨wk, wn⟩⟩, bn⟩, cs⟩ : InstrT) tv lv cv).toArray] w fun e w' => ∃ v', e = .returned v' ∧ St [] w0 w' (.own 5 1 (v') (xs ++ pRest (⟨o, x, y, u, ⟨hk, hn⟩, ⟨jk, jn⟩, n1, n2, ts, ls, ⟨bk, ⟨vk, vn, ⟨wk, wn⟩⟩, bn⟩, cs⟩ : InstrT)).length ((xs ++ pRest (⟨o, x, y, u, ⟨hk, hn⟩, ⟨jk, jn⟩, n1, n2, ts, ls, ⟨bk, ⟨vk, vn, ⟨wk, wn⟩⟩, bn⟩, cs⟩ : InstrT)).map B) :: G) := by
  have hb := shape_ok (mayI_shape hm)
  have ho1 : -9223372036854775808 ≤ o := by have := hb.1; dsimp only at this; omega
  have ho2 : o < 9223372036854775808 := by have := hb.1; have := hb.2.1; dsimp only at this; omega
  obtain ⟨tS, lS, cS⟩ := hR
  obtain ⟨ta, tc, rfl⟩ := tS.shape
  obtain ⟨la, lc, rfl⟩ := lS.shape
  obtain ⟨ca, cc, rfl⟩ := cS.shape
  dsimp only at tS lS cS
  have e0 : xs ++ pRest (⟨o, x, y, u, ⟨hk, hn⟩, ⟨jk, jn⟩, n1, n2, ts, ls, ⟨bk, ⟨vk, vn, ⟨wk, wn⟩⟩, bn⟩, cs⟩ : InstrT) = xs ++ pNum ((ls.length : Nat) : Int) ++ ls.flatMap pNum ++ pNum x := by rw [rest5 (by exact hsh)]; simp [pList, pNum]
  have E0 := Lib.hid e0
  clear e0
  generalize xs ++ pRest (⟨o, x, y, u, ⟨hk, hn⟩, ⟨jk, jn⟩, n1, n2, ts, ls, ⟨bk, ⟨vk, vn, ⟨wk, wn⟩⟩, bn⟩, cs⟩ : InstrT) = Y at E0 ⊢
  have hp := may_inv hm (part5 (i := (⟨o, x, y, u, ⟨hk, hn⟩, ⟨jk, jn⟩, n1, n2, ts, ls, ⟨bk, ⟨vk, vn, ⟨wk, wn⟩⟩, bn⟩, cs⟩ : InstrT)) hsh)
  have hp1 := hp.1
  simp only [Bool.and_eq_true, idx_iff] at hp1
  obtain ⟨hX, hL⟩ := hp1
  have hL := Lib.hid hL
  have lX := pNum_len x (by omega)
  have lN := pNum_len ((ls.length : Nat) : Int) (by omega)
  have HK := Lib.hid hsh
  clear hsh hp
  clear hb hm
  unfold insC
  dsimp only
  go_enter Tryz.func20, Tryz.ntmps20
  go_wp2_with first | (go_at_call 24; (with_reducible refine (shape_any ?_ _ ?_ ?_).mono ?_); (· apply St.gl7 (hg := hg); (exact zsts2)); (· omega); (· omega); rintro e w2 ⟨rfl, hF2⟩; refine st_fr hF2 ?_; (repeat (apply Exists.intro)); refine ⟨?_, ?_⟩; (· exact zsts2); (try simp only [World.size_alloc, World.size_setCell, size_drew, size_drewN]); intro hS; (try clear hQ); have hQ := St.facts hS; simp only [Facts, Res.fact, List.cons_append, List.nil_append, true_and, and_true] at hQ; (try rw [HK.out])) | (go_at_call 49; (try rw [hwk]); refine st_num ?_; (repeat (apply Exists.intro)); refine ⟨?_, ?_, ?_, ?_, ?_⟩; (· exact zsts2); (· (try simp only [World.size_alloc, World.size_setCell, size_drew, size_drewN]); (exact zpk1)); (· omega); (· exact zlen1); intro vN wN hS; (try clear hQ); have hQ := St.facts hS; simp only [Facts, Res.fact, List.cons_append, List.nil_append, true_and, and_true] at hQ)
  go_loopw [0, 43] (fun v n wr => ∃ (k : Nat), n = .int .i64 k ∧ k ≤ ls.length ∧ St [] w0 wr (.own 5 1 (v) (xs ++ pNum ((ls.length : Nat) : Int) ++ (ls.take k).flatMap pNum).length ((xs ++ pNum ((ls.length : Nat) : Int) ++ (ls.take k).flatMap pNum).map B) :: .loc w.heap.size [.int .i64 o, .int .i64 x, .int .i64 y, .int .u64 (u : Int), .int .i64 hk, .int .i64 hn, .int .i64 jk, .int .i64 jn, .bool n1, .bool n2, .slice ta ts.length tc, .slice la ls.length lc, .int .i64 bk, .int .i64 vk, .bool vn, .int .i64 wk, .int .i64 wn, .int .i64 bn, .slice ca cs.length cc] 44 :: G)) (fun _ n _ => ls.length - (intOf n).toNat)
  case atStart =>
    refine ⟨0, rfl, by omega, ?_⟩
    rw [show xs ++ pNum ((ls.length : Nat) : Int) ++ (ls.take 0).flatMap pNum = xs ++ pNum ((ls.length : Nat) : Int) from by simp]
    exact hS.sel (by exact zsub1)
  case round =>
    obtain ⟨k, rfl, hk2, hS⟩ := hrel
    (try clear hQ); have hQ := St.facts hS; simp only [Facts, Res.fact, List.cons_append, List.nil_append, true_and, and_true] at hQ
    have lK : ((ls.take k).flatMap pNum).length ≤ (ls.take k).length * 10 := flat_len7 _ fun n hn => (by
      have := (idx_iff _).1 (List.all_eq_true.1 hL.out n (List.mem_of_mem_take hn))
      exact pNum_len n (by omega))
    rw [List.length_take] at lK
    by_cases hlt : k < ls.length
    · obtain ⟨m, hm⟩ : ∃ t, ls[k]? = some t := ⟨ls[k], by simp [hlt]⟩
      obtain ⟨b, off, cap2, hv, hb, hnS, hc⟩ := Sl.elem lS (fun _ => rfl) k m hm
      injection hv with hv1 hv2 hv3
      subst hv1 hv3
      have hbw : b < wr.heap.size := Nat.lt_of_lt_of_le hb hS.fr.size
      have f0 := (hS.fr.cell hb (by simp) _).trans (hc 0 (by decide))
      simp only [Nat.add_zero, ← Nat.add_assoc, intC, Nat.mul_one, List.getElem?_cons_zero] at f0
      have hm2 := (idx_iff m).1 (List.all_eq_true.1 hL.out m (List.mem_of_getElem? hm))
      have lM := pNum_len m (by omega)
      have e : xs ++ pNum ((ls.length : Nat) : Int) ++ (ls.take (k + 1)).flatMap pNum = xs ++ pNum ((ls.length : Nat) : Int) ++ (ls.take k).flatMap pNum ++ pNum m := by
        rw [List.take_add_one, hm]; simp
      have E := Lib.hid e
      clear e hm
      go_wp2_with first | (go_at_call 49; (try rw [hwk]); refine st_num ?_; (repeat (apply Exists.intro)); refine ⟨?_, ?_, ?_, ?_, ?_⟩; (· exact zsts2); (· (try simp only [World.size_alloc, World.size_setCell, size_drew, size_drewN]); (exact zpk1)); (· omega); (· exact zlen1); intro vN wN hS; (try clear hQ); have hQ := St.facts hS; simp only [Facts, Res.fact, List.cons_append, List.nil_append, true_and, and_true] at hQ)
      go_roundw
      case rel =>
        refine ⟨k + 1, by go_num, by omega, ?_⟩
        rw [E.out]
        exact hS.sel (by exact zsub1)
      case measure => simp [intOf]; omega
    · obtain rfl : k = ls.length := by omega
      rw [List.take_length] at hS lK
      go_wp2_with first | (go_at_call 49; (try rw [hwk]); refine st_num ?_; (repeat (apply Exists.intro)); refine ⟨?_, ?_, ?_, ?_, ?_⟩; (· exact zsts2); (· (try simp only [World.size_alloc, World.size_setCell, size_drew, size_drewN]); (exact zpk1)); (· omega); (· exact zlen1); intro vN wN hS; (try clear hQ); have hQ := St.facts hS; simp only [Facts, Res.fact, List.cons_append, List.nil_append, true_and, and_true] at hQ)
      go_ret
      refine ⟨vN, rfl, ?_⟩
      rw [E0.out]
      exact hS.sel (by exact zsub1)
set_option maxRecDepth 100000 in set_option maxHeartbeats 6400000 in
theorem rest8_st {w0 w : World} {G : List Res} {v : Value} {xs : List UInt8} (hS : St [] w0 w (.own 5 1 (v) (xs).length ((xs).map B) :: G)) (hg : Gl7 [] w0) (o x y : Int) (u : Nat) (hk hn jk jn : Int) (n1 n2 : Bool) (ts : List ValT) (ls : List Int) (bk vk : Int) (vn : Bool) (wk wn bn : Int) (cs : List CatchT) (tv lv cv : Value) (hR : InsR [] w0 (⟨o, x, y, u, ⟨hk, hn⟩, ⟨jk, jn⟩, n1, n2, ts, ls, ⟨bk, ⟨vk, vn, ⟨wk, wn⟩⟩, bn⟩, cs⟩ : InstrT) tv lv cv) (hx : xs.length ≤ 17592186044416) (hm : mayI (⟨o, x, y, u, ⟨hk, hn⟩, ⟨jk, jn⟩, n1, n2, ts, ls, ⟨bk, ⟨vk, vn, ⟨wk, wn⟩⟩, bn⟩, cs⟩ : InstrT) = true) (hl1 : ts.length ≤ 65536) (hl2 : ls.length ≤ 65536) (hl3 : cs.length ≤ 65536) (hu : u < 18446744073709551616) (hsh : shapeP o = 8) :
    Calls Tryz.prog 20 #[v, .agg (insC (⟨o, x, y, u, ⟨hk, hn⟩, ⟨jk, jn⟩, n1, n2, ts, ls, ⟨bk, ⟨vk, vn, ⟨wk, wn⟩⟩, bn⟩, cs⟩ : InstrT) tv lv cv).toArray] w fun e w' => ∃ v', e = .returned v' ∧ St [] w0 w' (.own 5 1 (v') (xs ++ pRest (⟨o, x, y, u, ⟨hk, hn⟩, ⟨jk, jn⟩, n1, n2, ts, ls, ⟨bk, ⟨vk, vn, ⟨wk, wn⟩⟩, bn⟩, cs⟩ : InstrT)).length ((xs ++ pRest (⟨o, x, y, u, ⟨hk, hn⟩, ⟨jk, jn⟩, n1, n2, ts, ls, ⟨bk, ⟨vk, vn, ⟨wk, wn⟩⟩, bn⟩, cs⟩ : InstrT)).map B) :: G) := by
  have hb := shape_ok (mayI_shape hm)
  have ho1 : -9223372036854775808 ≤ o := by have := hb.1; dsimp only at this; omega
  have ho2 : o < 9223372036854775808 := by have := hb.1; have := hb.2.1; dsimp only at this; omega
  obtain ⟨tS, lS, cS⟩ := hR
  obtain ⟨ta, tc, rfl⟩ := tS.shape
  obtain ⟨la, lc, rfl⟩ := lS.shape
  obtain ⟨ca, cc, rfl⟩ := cS.shape
  dsimp only at tS lS cS
  have e0 : xs ++ pRest (⟨o, x, y, u, ⟨hk, hn⟩, ⟨jk, jn⟩, n1, n2, ts, ls, ⟨bk, ⟨vk, vn, ⟨wk, wn⟩⟩, bn⟩, cs⟩ : InstrT) = xs ++ memB x y ++ putU u := by rw [rest8 (by exact hsh)]; simp
  have E0 := Lib.hid e0
  clear e0
  generalize xs ++ pRest (⟨o, x, y, u, ⟨hk, hn⟩, ⟨jk, jn⟩, n1, n2, ts, ls, ⟨bk, ⟨vk, vn, ⟨wk, wn⟩⟩, bn⟩, cs⟩ : InstrT) = Y at E0 ⊢
  have hp := may_inv hm (part8 (i := (⟨o, x, y, u, ⟨hk, hn⟩, ⟨jk, jn⟩, n1, n2, ts, ls, ⟨bk, ⟨vk, vn, ⟨wk, wn⟩⟩, bn⟩, cs⟩ : InstrT)) hsh)
  have hp1 := hp.1
  simp only [Bool.and_eq_true, idx_iff, decide_eq_true_eq] at hp1
  obtain ⟨⟨hx1, hx2⟩, hY⟩ := hp1
  have lX := pNum_len x (by omega)
  have lZ := pNum_len (x + 64) (by omega)
  have lY := pNum_len y (by omega)
  have lU := putU_len u hu
  have hw := IntWalk.wrap64_in (x + 64) (by omega)
  have hwk : IntKind.i64.wrap (x + 64) = x + 64 := by rw [IntKind.wrap_i64]; omega
  have HK := Lib.hid hsh
  clear hsh hp
  clear hb hm
  unfold insC
  dsimp only
  unfold memB at E0
  by_cases hy : y = 0
  · rw [if_pos hy] at E0
    have q : (y != 0) = false := by simp [hy]
    clear hy
    go_enter Tryz.func20, Tryz.ntmps20
    go_wp2_with first | (go_at_call 24; (with_reducible refine (shape_any ?_ _ ?_ ?_).mono ?_); (· apply St.gl7 (hg := hg); (exact zsts2)); (· omega); (· omega); rintro e w2 ⟨rfl, hF2⟩; refine st_fr hF2 ?_; (repeat (apply Exists.intro)); refine ⟨?_, ?_⟩; (· exact zsts2); (try simp only [World.size_alloc, World.size_setCell, size_drew, size_drewN]); intro hS; (try clear hQ); have hQ := St.facts hS; simp only [Facts, Res.fact, List.cons_append, List.nil_append, true_and, and_true] at hQ; (try rw [HK.out])) | (at_builtin; refine st_app rfl rfl rfl rfl ?_; (repeat (apply Exists.intro)); refine ⟨?_, ?_, ?_, ?_, ?_⟩; (· exact zsts2); (· exact zdst1); (· exact zsrc1); (· exact zlen1); intro vN wN hS; (try clear hQ); have hQ := St.facts hS; simp only [Facts, Res.fact, List.cons_append, List.nil_append, true_and, and_true] at hQ) | (go_at_call 49; (try rw [hwk]); refine st_num ?_; (repeat (apply Exists.intro)); refine ⟨?_, ?_, ?_, ?_, ?_⟩; (· exact zsts2); (· (try simp only [World.size_alloc, World.size_setCell, size_drew, size_drewN]); (exact zpk1)); (· omega); (· exact zlen1); intro vN wN hS; (try clear hQ); have hQ := St.facts hS; simp only [Facts, Res.fact, List.cons_append, List.nil_append, true_and, and_true] at hQ) | (go_at_call 50; (first | (with_reducible refine (pPutU u _ (by omega)).mono ?_) | (with_reducible refine (pPutUw u _ (by omega)).mono ?_)); rintro e w4 ⟨v4, rfl, s4⟩; refine st_go s4 ?_; (repeat (apply Exists.intro)); refine ⟨?_, ?_⟩; (· exact zsts2); (try simp only [World.size_alloc, World.size_setCell, size_drew, size_drewN]); intro hS; simp only [List.cons_append, List.nil_append] at hS; (try clear hQ); have hQ := St.facts hS; simp only [Facts, Res.fact, List.cons_append, List.nil_append, true_and, and_true] at hQ)
    go_ret
    refine ⟨vN, rfl, ?_⟩
    rw [E0.out]
    exact hS.sel (by exact zsub1)
  · have q : (y != 0) = true := by simp [hy]
    rw [if_neg hy, ← List.append_assoc] at E0
    clear hy
    go_enter Tryz.func20, Tryz.ntmps20
    go_wp2_with first | (go_at_call 24; (with_reducible refine (shape_any ?_ _ ?_ ?_).mono ?_); (· apply St.gl7 (hg := hg); (exact zsts2)); (· omega); (· omega); rintro e w2 ⟨rfl, hF2⟩; refine st_fr hF2 ?_; (repeat (apply Exists.intro)); refine ⟨?_, ?_⟩; (· exact zsts2); (try simp only [World.size_alloc, World.size_setCell, size_drew, size_drewN]); intro hS; (try clear hQ); have hQ := St.facts hS; simp only [Facts, Res.fact, List.cons_append, List.nil_append, true_and, and_true] at hQ; (try rw [HK.out]))
    go_region_held3 (fun w' => w'.cell? ⟨w.heap.size, 1, none⟩ = some (.int .i64 x) ∧ w'.cell? ⟨w.heap.size, 2, none⟩ = some (.int .i64 y))
      (first | (go_keep; done) | (simp [hQ]; done)) (first | (go_at_call 49; (try rw [hwk]); refine st_num ?_; (repeat (apply Exists.intro)); refine ⟨?_, ?_, ?_, ?_, ?_⟩; (· exact zsts2); (· (try simp only [World.size_alloc, World.size_setCell, size_drew, size_drewN]); (exact zpk1)); (· omega); (· exact zlen1); intro vN wN hS; (try clear hQ); have hQ := St.facts hS; simp only [Facts, Res.fact, List.cons_append, List.nil_append, true_and, and_true] at hQ))
    go_wp2_with first | (at_builtin; refine st_app rfl rfl rfl rfl ?_; (repeat (apply Exists.intro)); refine ⟨?_, ?_, ?_, ?_, ?_⟩; (· exact zsts2); (· exact zdst1); (· exact zsrc1); (· exact zlen1); intro vN wN hS; (try clear hQ); have hQ := St.facts hS; simp only [Facts, Res.fact, List.cons_append, List.nil_append, true_and, and_true] at hQ) | (go_at_call 50; (first | (with_reducible refine (pPutU u _ (by omega)).mono ?_) | (with_reducible refine (pPutUw u _ (by omega)).mono ?_)); rintro e w4 ⟨v4, rfl, s4⟩; refine st_go s4 ?_; (repeat (apply Exists.intro)); refine ⟨?_, ?_⟩; (· exact zsts2); (try simp only [World.size_alloc, World.size_setCell, size_drew, size_drewN]); intro hS; simp only [List.cons_append, List.nil_append] at hS; (try clear hQ); have hQ := St.facts hS; simp only [Facts, Res.fact, List.cons_append, List.nil_append, true_and, and_true] at hQ)
    go_ret
    refine ⟨vN, rfl, ?_⟩
    rw [E0.out]
    exact hS.sel (by exact zsub1)
set_option maxRecDepth 100000 in set_option maxHeartbeats 6400000 in
theorem rest9_st {w0 w : World} {G : List Res} {v : Value} {xs : List UInt8} (hS : St [] w0 w (.own 5 1 (v) (xs).length ((xs).map B) :: G)) (hg : Gl7 [] w0) (o x y : Int) (u : Nat) (hk hn jk jn : Int) (n1 n2 : Bool) (ts : List ValT) (ls : List Int) (bk vk : Int) (vn : Bool) (wk wn bn : Int) (cs : List CatchT) (tv lv cv : Value) (hR : InsR [] w0 (⟨o, x, y, u, ⟨hk, hn⟩, ⟨jk, jn⟩, n1, n2, ts, ls, ⟨bk, ⟨vk, vn, ⟨wk, wn⟩⟩, bn⟩, cs⟩ : InstrT) tv lv cv) (hx : xs.length ≤ 17592186044416) (hm : mayI (⟨o, x, y, u, ⟨hk, hn⟩, ⟨jk, jn⟩, n1, n2, ts, ls, ⟨bk, ⟨vk, vn, ⟨wk, wn⟩⟩, bn⟩, cs⟩ : InstrT) = true) (hl1 : ts.length ≤ 65536) (hl2 : ls.length ≤ 65536) (hl3 : cs.length ≤ 65536) (hu : u < 18446744073709551616) (hsh : shapeP o = 9) :
    Calls Tryz.prog 20 #[v, .agg (insC (⟨o, x, y, u, ⟨hk, hn⟩, ⟨jk, jn⟩, n1, n2, ts, ls, ⟨bk, ⟨vk, vn, ⟨wk, wn⟩⟩, bn⟩, cs⟩ : InstrT) tv lv cv).toArray] w fun e w' => ∃ v', e = .returned v' ∧ St [] w0 w' (.own 5 1 (v') (xs ++ pRest (⟨o, x, y, u, ⟨hk, hn⟩, ⟨jk, jn⟩, n1, n2, ts, ls, ⟨bk, ⟨vk, vn, ⟨wk, wn⟩⟩, bn⟩, cs⟩ : InstrT)).length ((xs ++ pRest (⟨o, x, y, u, ⟨hk, hn⟩, ⟨jk, jn⟩, n1, n2, ts, ls, ⟨bk, ⟨vk, vn, ⟨wk, wn⟩⟩, bn⟩, cs⟩ : InstrT)).map B) :: G) := by
  have hb := shape_ok (mayI_shape hm)
  have ho1 : -9223372036854775808 ≤ o := by have := hb.1; dsimp only at this; omega
  have ho2 : o < 9223372036854775808 := by have := hb.1; have := hb.2.1; dsimp only at this; omega
  obtain ⟨tS, lS, cS⟩ := hR
  obtain ⟨ta, tc, rfl⟩ := tS.shape
  obtain ⟨la, lc, rfl⟩ := lS.shape
  obtain ⟨ca, cc, rfl⟩ := cS.shape
  dsimp only at tS lS cS
  have e0 : xs ++ pRest (⟨o, x, y, u, ⟨hk, hn⟩, ⟨jk, jn⟩, n1, n2, ts, ls, ⟨bk, ⟨vk, vn, ⟨wk, wn⟩⟩, bn⟩, cs⟩ : InstrT) = xs ++ putS (toI32 u) := by rw [rest9 (by exact hsh)]
  have E0 := Lib.hid e0
  clear e0
  generalize xs ++ pRest (⟨o, x, y, u, ⟨hk, hn⟩, ⟨jk, jn⟩, n1, n2, ts, ls, ⟨bk, ⟨vk, vn, ⟨wk, wn⟩⟩, bn⟩, cs⟩ : InstrT) = Y at E0 ⊢
  have hp := may_inv hm (part9 (i := (⟨o, x, y, u, ⟨hk, hn⟩, ⟨jk, jn⟩, n1, n2, ts, ls, ⟨bk, ⟨vk, vn, ⟨wk, wn⟩⟩, bn⟩, cs⟩ : InstrT)) hsh)
  have hp1 := hp.1
  simp only [decide_eq_true_eq] at hp1
  obtain ⟨t1, t2, _⟩ := toI32_lt hp1
  have lX := putS_len (toI32 u) (by omega) (by omega)
  obtain ⟨hw1, hw2⟩ := toI32_wrap hp1
  have HK := Lib.hid hsh
  clear hsh hp
  clear hb hm
  unfold insC
  dsimp only
  go_enter Tryz.func20, Tryz.ntmps20
  go_wp2_with first | (go_at_call 24; (with_reducible refine (shape_any ?_ _ ?_ ?_).mono ?_); (· apply St.gl7 (hg := hg); (exact zsts2)); (· omega); (· omega); rintro e w2 ⟨rfl, hF2⟩; refine st_fr hF2 ?_; (repeat (apply Exists.intro)); refine ⟨?_, ?_⟩; (· exact zsts2); (try simp only [World.size_alloc, World.size_setCell, size_drew, size_drewN]); intro hS; (try clear hQ); have hQ := St.facts hS; simp only [Facts, Res.fact, List.cons_append, List.nil_append, true_and, and_true] at hQ; (try rw [HK.out])) | (at_builtin; refine st_app rfl rfl rfl rfl ?_; (repeat (apply Exists.intro)); refine ⟨?_, ?_, ?_, ?_, ?_⟩; (· exact zsts2); (· exact zdst1); (· exact zsrc1); (· exact zlen1); intro vN wN hS; (try clear hQ); have hQ := St.facts hS; simp only [Facts, Res.fact, List.cons_append, List.nil_append, true_and, and_true] at hQ) | (go_at_call 51; (with_reducible refine (pPutS (toI32 u) _ (by omega) (by omega)).mono ?_); rintro e w4 ⟨v4, rfl, s4⟩; refine st_go s4 ?_; (repeat (apply Exists.intro)); refine ⟨?_, ?_⟩; (· exact zsts2); (try simp only [World.size_alloc, World.size_setCell, size_drew, size_drewN]); intro hS; simp only [List.cons_append, List.nil_append] at hS; (try clear hQ); have hQ := St.facts hS; simp only [Facts, Res.fact, List.cons_append, List.nil_append, true_and, and_true] at hQ)
  go_ret
  refine ⟨vN, rfl, ?_⟩
  rw [E0.out]
  exact hS.sel (by exact zsub1)
end Go.Proofs.YtokneepfknepaaaGreatDoor
