/- A call's own memory as one fact: append on slices of any type; slices of the call's own that are cut or written. A call's own memory as one fact: a struct is loaded, or stored, as a whole. Laws of layer 6, the third part: supers, fields, composite types, declared types, groups; and the way back: what is put is read. Laws of layer 6, the fourth part: what is put is read as it was, whatever stands behind. Laws of layer 7, the first part: opcodes, numbers, blocks, what is caught: put and read. Laws of layer 7, the second part: numbers, lists, blocks, what is caught: put and read. Laws of layer 7, the third part: a block's type: put and read. Laws of layer 7, the fourth part: instructions: put and read. The walk of layer 7: may all instructions of a row stand? Laws of layer 7, the fifth part: instructions and expressions: put and read. The walk of the program's PutVals (layer 6). -/
import Derived.Test.YtokneepfknepaaaDoorG3
import Derived.Deep.MidRow
import Derived.Test.YtokneepfknepaaaDoorG2
import Derived.Test.YtokneepfknepaaaDoorG5
set_option linter.unusedSimpArgs false
set_option linter.unusedVariables false
namespace Go.Proofs.YtokneepfknepaaaDoor
open Go.RowKit

/-- What may be appended to. -/
inductive DstT (e : TypeId) (k : Nat) (G : List Res) : Value → Nat → List Value → List Res → Prop
  | own {v : Value} {n : Nat} {xs : List Value} {G' : List Res} : Pick G (.own e k v n xs) G' → DstT e k G v n xs G'
  | lit {g : Nat} {cs : List Value} {G' : List Res} : Pick G (.loc g cs e) G' → cs.length = k → (∀ u ∈ cs, u.oneCell' = true) → DstT e k G (.slice (some ⟨g, 0, none⟩) 1 1) 1 cs G'
  | nil {c : Nat} : c = 0 → DstT e k G (.slice none 0 c) 0 [] G
/-- Where what is appended comes from. -/
inductive SrcT (e : TypeId) (k : Nat) (G : List Res) (w : World) : Value → Nat → List Value → Prop
  | own {v : Value} {n : Nat} {xs : List Value} {G' : List Res} : Pick G (.own e k v n xs) G' → SrcT e k G w v n xs
  | lit {g c : Nat} {cs : List Value} {T : TypeId} {G' : List Res} : Pick G (.loc g cs T) G' → cs.length = k → (∀ u ∈ cs, u.oneCell' = true) → SrcT e k G w (.slice (some ⟨g, 0, none⟩) 1 c) 1 cs
  | arg {v : Value} {n : Nat} {xs : List Value} : Sl [] w k v n xs → SrcT e k G w v n xs
theorem St.dstT {S : List Nat} {w0 w : World} {G G' : List Res} {e : TypeId} {k n : Nat} {v : Value} {xs : List Value} (h : St S w0 w G) (d : DstT e k G v n xs G') : St S w0 w (.own e k v n xs :: G') := by
  cases d with
  | own p => exact h.pick p
  | @lit g cs _ p hk h1 =>
    have h0 := h.pick p
    have hl : Loc w g xs e := h0.head
    have ha := List.pairwise_cons.1 h0.apart
    refine h0.tail.put ?_ (fun b hb => h0.new (.loc g xs e) List.mem_cons_self b (by simpa [Res.blk, Value.blk] using hb)) (fun b hb s hs => ha.1 s hs b (by simpa [Res.blk, Value.blk] using hb))
    exact ⟨by omega, h1, .inr ⟨g, 1, xs.toArray, rfl, by simp, hl, Nat.le_refl _, by decide, by simp; omega, by rw [← hk]; simp⟩⟩
  | nil hc =>
    subst hc
    exact h.put (Own.nil _ _ _ _) (fun b hb => by cases hb) (fun b hb => by cases hb)
theorem SrcT.src {P : Program} {S : List Nat} {w0 w : World} {G : List Res} {e e' tx : TypeId} {k n : Nat} {v : Value} {xs : List Value} (hk : P.underlying tx = some (.slice e')) (h : St S w0 w G) (d : SrcT e k G w v n xs) : Src P k tx v n xs w := by
  cases d with
  | own p => exact (Own.sl (h.own p) (S' := []) (by simp)).src hk
  | @lit g c cs T _ p hl h1 =>
    have hL := h.loc p
    refine Src.ofSlice _ hk _ _ _ _ (by omega) (fun j u hu => ?_) h1
    have hadd : (⟨g, 0, none⟩ : Addr).add j = ⟨g, j, none⟩ := by unfold Addr.add; split <;> simp_all
    rw [hadd, hL.cell]
    exact hu
  | arg hs => exact hs.src hk

theorem st_appT {P : Program} {w : World} {ops : Array Oper} {rest : List Oper} {o : Oper} {a : Act} {Q : Exit → Act → World → Prop} {s x : Operand} {v xv : Value} {t tx e e' : TypeId} {i : TypeInfo} {z : Value} {k bytes : Nat} (hgd : o.guard = none)
    (ho : o.op = .call { callee := .builtin .append, args := #[s, x], argTypes := #[t, tx] }) (hs : a.eval s = v) (hx : a.eval x = xv)
    (ht : P.underlying t = some (.slice e)) (htx : P.underlying tx = some (.slice e')) (hi : P.info? e = some i) (hz : i.zero = some z) (hsize : i.size = k) (hby : i.bytes = bytes) (hzs : z.cells.size = k) (hk : 0 < k) (hbb : bytes ≤ 256)
    (h : ∃ S w0 G G' n xs m news, St S w0 w G ∧ DstT e k G v n xs G' ∧ SrcT e k G w xv m news ∧ n + m ≤ 549755813888 ∧
      ∀ v' w', St S w0 w' (.own e k v' (n + m) (xs ++ news) :: G') → wpList P ops Q rest (a.put o.dst v') w') :
    wpList P ops Q (o :: rest) a w := by
  obtain ⟨S, w0, G, G', n, xs, m, news, hst, hp, hsrc, hb, h⟩ := h
  have hd := hst.dstT hp
  refine wpList_app hgd s x t tx ho e i z k bytes ht hi hz hsize hby hzs hk [] (by simp) v n xs hs hd.head xv m news hx (hsrc.src htx hst) ?_ (by unfold maxLen; omega) fun v' w' ho' hf hb' => h v' w' (hd.app hf ho' hb')
  calc (n + m) * bytes ≤ 549755813888 * 256 := Nat.mul_le_mul hb hbb
    _ ≤ _ := by decide

/-- The first elements of a slice of the call's own. -/
theorem Own.take {S : List Nat} {w : World} {e : TypeId} {k n m : Nat} {a : Option Addr} {c : Nat} {xs : List Value} (h : Own S w e k (.slice a n c) n xs) (hm : m ≤ n) : Own S w e k (.slice a m c) m (xs.take (m * k)) := by
  obtain ⟨h1, h2, h3⟩ := h
  have hle : m * k ≤ n * k := Nat.mul_le_mul_right k hm
  refine ⟨by rw [List.length_take]; omega, fun u hu => h2 u (List.mem_of_mem_take hu), ?_⟩
  rcases h3 with ⟨h3, h4⟩ | ⟨g, cap, cur, h3, hg, hh, h4, h5, h6, h7⟩
  · injection h3 with e1 e2 e3
    subst e1 e3
    obtain rfl : m = 0 := by omega
    exact .inl ⟨rfl, rfl⟩
  · injection h3 with e1 e2 e3
    subst e1 e3
    exact .inr ⟨g, c, cur, rfl, hg, hh, by omega, h5, h6, by rw [← h7, List.take_take]; congr 1; omega⟩
theorem Own.setAt {S : List Nat} {w : World} {e : TypeId} {k n : Nat} {g c : Nat} {xs : List Value} (h : Own S w e k (.slice (some ⟨g, 0, none⟩) n c) n xs) {j : Nat} (hj : j < n * k) {u : Value} (hu : u.oneCell' = true) :
    Own S (w.setCell ⟨g, j, none⟩ u) e k (.slice (some ⟨g, 0, none⟩) n c) n (xs.set j u) := by
  obtain ⟨h1, h2, h3⟩ := h
  refine ⟨by simpa using h1, fun x hx => ?_, ?_⟩
  · rcases List.mem_or_eq_of_mem_set hx with hx | rfl
    · exact h2 x hx
    · exact hu
  · rcases h3 with ⟨h3, h4⟩ | ⟨g', cap, cur, h3, hg, hh, h4, h5, h6, h7⟩
    · cases h3
    · injection h3 with e1 e2 e3
      injection e1 with e1
      injection e1 with e1
      subst e1 e3
      refine .inr ⟨g, c, cur.setIfInBounds j u, rfl, hg, heap_setCell_same w g j cur e u hh, h4, h5, by simpa using h6, ?_⟩
      rw [Array.toList_setIfInBounds, List.take_set, h7]
end Go.Proofs.YtokneepfknepaaaDoor

set_option linter.unusedSimpArgs false
set_option linter.unusedVariables false
namespace Go.Proofs.YtokneepfknepaaaDoor
open Go.RowKit

theorem Loc.range {w : World} {b : Nat} {cs : List Value} {T : TypeId} (h : Loc w b cs T) : w.rangeAt b 0 cs := fun j v hv => by
  rw [Nat.zero_add, h.cell]
  exact hv
theorem Loc.there {w : World} {b : Nat} {cs : List Value} {T : TypeId} (h : Loc w b cs T) : w.there b 0 cs.length := fun j hj => by
  rw [Nat.zero_add, h.cell]
  exact ⟨by simp [hj], h.frz j⟩
theorem Loc.setAll {b : Nat} {T : TypeId} : ∀ (vs done old : List Value) (w : World), Loc w b (done ++ old) T → vs.length = old.length → Loc (w.setCells b done.length vs) b (done ++ vs) T
  | [], done, old, w, h, hl => by
    have : old = [] := List.eq_nil_of_length_eq_zero (by simpa using hl.symm)
    subst this
    exact h
  | v :: r, done, [], w, h, hl => by simp at hl
  | v :: r, done, u :: old, w, h, hl => by
    have h1 := Loc.set h done.length v
    have e : (done ++ u :: old).set done.length v = (done ++ [v]) ++ old := by
      rw [List.set_append]
      simp
    rw [e] at h1
    have h2 := Loc.setAll r (done ++ [v]) old _ h1 (by simpa using hl)
    have e2 : (done ++ [v]).length = done.length + 1 := by simp
    have e3 : (done ++ [v]) ++ r = done ++ v :: r := by simp
    rw [e2, e3] at h2
    rw [World.setCells]
    exact h2
theorem Fr.setCells {b : Nat} : ∀ (vs : List Value) (o : Nat) (w : World), Fr [b] w (w.setCells b o vs)
  | [], _, w => Fr.refl _ _
  | v :: r, o, w => by
    rw [World.setCells]
    exact ((Fr.refl [b] w).setCell (p := ⟨b, o, none⟩) (by simp) v).trans (Fr.setCells r (o + 1) _)
theorem St.setAll {S : List Nat} {w0 w : World} {G G' : List Res} {b : Nat} {cs vs : List Value} {T : TypeId} (h : St S w0 w G) (p : Pick G (.loc b cs T) G') (hl : vs.length = cs.length) : St S w0 (w.setCells b 0 vs) (.loc b vs T :: G') :=
  (h.pick p).turn (S' := []) (r' := .loc b vs T) (by simpa [Res.blk] using Fr.setCells vs 0 w) (by simp) (Loc.setAll vs [] cs w (h.pick p).head hl) (fun c hc => .inl hc)

/-- Where a struct is loaded from. -/
inductive RowAt (G : List Res) (w : World) (b : Nat) : Nat → List Value → Prop
  | loc {cs : List Value} {T : TypeId} {G' : List Res} : Pick G (.loc b cs T) G' → RowAt G w b 0 cs
  | elem {o : Nat} {cs : List Value} : w.rangeAt b o cs → RowAt G w b o cs
theorem RowAt.range {S : List Nat} {w0 w : World} {G : List Res} {b o : Nat} {cs : List Value} (h : St S w0 w G) (r : RowAt G w b o cs) : w.rangeAt b o cs := by
  cases r with
  | loc p => exact (h.loc p).range
  | elem h => exact h
section
variable {P : Program} {w : World} {ops : Array Oper} {rest : List Oper} {o : Oper} {a : Act} {Q : Exit → Act → World → Prop} {K : Act → World → Prop}
theorem st_load {ty : TypeId} {x : Operand} {b n : Nat} {d : TypeDesc} (hgd : o.guard = none) (ho : o.op = .load ty x) (hx : a.eval x = .pointer (some ⟨b, n, none⟩)) (hu : P.underlying ty = some d) (hd : d.isRow = true)
    (h : ∃ S w0 G cs, St S w0 w G ∧ RowAt G w b n cs ∧ (P.info? ty).map (·.size) = some cs.length ∧ wpList P ops Q rest (a.put o.dst (.agg cs.toArray)) w) : wpList P ops Q (o :: rest) a w := by
  obtain ⟨S, w0, G, cs, hst, hr, hi, h⟩ := h
  exact wpList_load_mid hgd ty x ho b n hx cs d (hr.range hst) hu hd hi h
/-- A guarded load, both ways. -/
theorem st_loadB {ty : TypeId} {x : Operand} {b n j : Nat} {d : TypeDesc} {c : Bool} (hgd : o.guard = some (j, true)) (hj : yielded ops a.tmps j = some c) (ho : o.op = .load ty x) (hx : a.eval x = .pointer (some ⟨b, n, none⟩)) (hu : P.underlying ty = some d) (hd : d.isRow = true)
    (h : c = true → ∃ S w0 G cs, St S w0 w G ∧ RowAt G w b n cs ∧ (P.info? ty).map (·.size) = some cs.length ∧ wpList P ops Q rest (a.put o.dst (.agg cs.toArray)) w) (h2 : c = false → wpList P ops Q rest (a.put o.dst undef) w) : wpList P ops Q (o :: rest) a w := by
  have hw : Region.wanted o (yielded ops a.tmps) = c := by simp [Region.wanted, hgd, hj]
  cases c with
  | true =>
    obtain ⟨S, w0, G, cs, hst, hr, hi, h⟩ := h rfl
    exact wpList_step fun K hK => by
      rw [if_pos hw]
      exact wp_load_mid ty x ho b n hx cs d (hr.range hst) hu hd hi (hK _ _ h)
  | false => exact wpList_skip hw (h2 rfl)
theorem st_store {ty : TypeId} {x y : Operand} {b : Nat} {vs : List Value} (hgd : o.guard = none) (ho : o.op = .store ty x y) (hx : a.eval x = .pointer (some ⟨b, 0, none⟩)) (hy : a.eval y = .agg vs.toArray)
    (h : ∃ S w0 G G' cs T, St S w0 w G ∧ Pick G (.loc b cs T) G' ∧ vs.length = cs.length ∧ (P.info? ty).map (·.size) = some vs.length ∧ (∀ v ∈ vs, v.oneCell' = true) ∧ ∀ w', St S w0 w' (.loc b vs T :: G') → wpList P ops Q rest (a.put o.dst undef) w') : wpList P ops Q (o :: rest) a w := by
  obtain ⟨S, w0, G, G', cs, T, hst, hp, hl, hi, h1, h⟩ := h
  refine wpList_store_mid hgd ty x y ho b 0 vs.toArray hx hy ?_ (by simpa using hi) (all_oneCell_toArray h1) ?_
  · have := (hst.loc hp).there
    simpa [hl] using this
  · simpa using h _ (hst.setAll hp hl)
theorem st_storeW {ty : TypeId} {x y : Operand} {b : Nat} {vs : List Value} (ho : o.op = .store ty x y) (hx : a.eval x = .pointer (some ⟨b, 0, none⟩)) (hy : a.eval y = .agg vs.toArray)
    (h : ∃ S w0 G G' cs T, St S w0 w G ∧ Pick G (.loc b cs T) G' ∧ vs.length = cs.length ∧ (P.info? ty).map (·.size) = some vs.length ∧ (∀ v ∈ vs, v.oneCell' = true) ∧ ∀ w', St S w0 w' (.loc b vs T :: G') → K (a.put o.dst undef) w') : o.wp P a w K Q := by
  obtain ⟨S, w0, G, G', cs, T, hst, hp, hl, hi, h1, h⟩ := h
  refine wp_store_mid ty x y ho b 0 vs.toArray hx hy ?_ (by simpa using hi) (all_oneCell_toArray h1) ?_
  · have := (hst.loc hp).there
    simpa [hl] using this
  · simpa using h _ (hst.setAll hp hl)
end
theorem und_ins : Tryd.prog.underlying 81 = some ((Tryd.prog.underlying 81).get (by kernel_rfl)) := by kernel_rfl
theorem size_ins : (Tryd.prog.info? 81).map (·.size) = some 19 := by kernel_rfl
end Go.Proofs.YtokneepfknepaaaDoor

set_option linter.unusedSimpArgs false
set_option linter.unusedVariables false
namespace Go.Proofs.YtokneepfknepaaaDoor

theorem cut_val {α : Type} {F : Pars α} {bs : List UInt8} {s : RdS} {k c : Nat} (h : CutAt F bs s k c) (h1 : s.at_ + k ≤ c) : F (bs.take c) s = F bs s := h.1 h1

def SuperP (h : HeapT) (k : Nat) : Prop := indexedH h = true ∧ (pSuper h).length ≤ k ∧ 1 ≤ k
theorem rSuper_eq : rSuper = pMap (fun bs => rU bs 32) fun n => (⟨13, n⟩ : HeapT) := rfl
theorem rSuper_back : Back rSuper SuperP := by
  rw [rSuper_eq]
  refine pMap_back (rU_back 32 (by decide) (by decide)) _ fun n k ⟨h1, h2⟩ => ⟨?_, ?_, ?_⟩
  · have h2 : n < 4294967296 := by simpa using h2
    simp [indexedH]; omega
  · simpa [pSuper] using h1
  · have := putU_pos n; omega
theorem rSuper_cut : Cut rSuper := by rw [rSuper_eq]; exact pMap_cut (rU_cut 32) _

def StoreP (x : Int × ValT) (k : Nat) : Prop :=
  (if x.1 = 0 then plainVal x.2 else if x.1 = 8 ∨ x.1 = 16 then decide (x.2 = ⟨1, false, ⟨0, 0⟩⟩) else false) = true ∧ (if x.1 = 8 then [120] else if x.1 = 16 then [119] else pVal x.2 : List UInt8).length ≤ k
theorem rStore_stuck : Stuck rStore := fun bs s h => by
  unfold rStore
  rw [peek_stuck bs h, if_neg (by decide), if_neg (by decide)]
  exact rVal_stuck bs s h
theorem rStore_back : Back rStore StoreP := fun bs s he ha h0 => by
  unfold rStore at h0 ⊢
  split at h0
  · rename_i h1
    have := peek_pos (s := s) (bs := bs) (by rw [h1]; decide)
    simp only [if_pos h1]
    exact ⟨1, rfl, by omega, by simp [StoreP]⟩
  · rename_i h1
    split at h0
    · rename_i h2
      have := peek_pos (s := s) (bs := bs) (by rw [h2]; decide)
      simp only [if_neg h1, if_pos h2]
      exact ⟨1, rfl, by omega, by simp [StoreP]⟩
    · rename_i h2
      simp only [if_neg h1, if_neg h2]
      obtain ⟨k, e, l, p1, p2, _⟩ := rVal_back bs s he ha h0
      exact ⟨k, e, l, by simpa using p1, by simpa using p2⟩
theorem rStore_cut : Cut rStore := fun bs s k he ha hk c hac hc => by
  rcases Nat.lt_or_ge s.at_ c with hlt | hge
  · have hp := peek_cut hlt hc
    unfold rStore at hk
    split at hk
    · rename_i h1
      have hk1 : k = 1 := (adv_inj (a := 1) hk).symm
      subst hk1
      unfold CutAt rStore
      rw [hp, if_pos h1, if_pos h1]
      exact ⟨fun _ => rfl, fun h => by omega⟩
    · rename_i h1
      split at hk
      · rename_i h2
        have hk1 : k = 1 := (adv_inj (a := 1) hk).symm
        subst hk1
        unfold CutAt rStore
        rw [hp, if_neg h1, if_pos h2, if_neg h1, if_pos h2]
        exact ⟨fun _ => rfl, fun h => by omega⟩
      · rename_i h2
        obtain ⟨a, b⟩ := rVal_cut bs s k he ha hk c hac hc
        unfold CutAt rStore
        rw [hp, if_neg h1, if_neg h2, if_neg h1, if_neg h2]
        exact ⟨fun h => by rw [a h], fun h => b h⟩
  · have hce : c = s.at_ := by omega
    subst hce
    have hp : rPeek (bs.take s.at_) s = 0 := peek_end (by omega)
    have hE : Early (rVal (bs.take s.at_) s).2 s.at_ := by
      have h1 : ¬ s.at_ < (bs.take s.at_).length := by simp; omega
      have h2 : rByte (bs.take s.at_) s = (0, { s with err := 10, errAt := s.at_ }) := by
        unfold rByte; rw [if_neg (fun h => h1 h.2), fail_ok he (by decide)]
      rw [rVal_bind]; unfold pBind; rw [h2]
      rw [rValG_stuck0 _ _ _ (by simp)]
      exact ⟨rfl, by simp, by simp⟩
    have hk0 : k ≠ 0 := by
      rintro rfl
      obtain ⟨k', e, l, p⟩ := rStore_back bs s he ha (by rw [hk]; exact he)
      have hk' := adv_inj (hk.symm.trans e)
      subst hk'
      unfold rStore at hk
      split at hk
      · exact absurd (adv_inj (a := 1) hk) (by decide)
      · split at hk
        · exact absurd (adv_inj (a := 1) hk) (by decide)
        · obtain ⟨k2, e2, l2, p2⟩ := rVal_back bs s he ha (by simp only at hk; rw [hk]; exact he)
          have := adv_inj (hk.symm.trans e2)
          have := p2.2.2
          omega
    unfold CutAt rStore
    rw [hp, if_neg (by decide), if_neg (by decide)]
    exact ⟨fun h => by omega, fun h => hE⟩

def rBitG (a c : Nat) : Pars Bool := fun _ s => (c == 1, if 1 < c then s.form a else s)
theorem rBit_bind : rBit = pBind rByte rBitG := rfl
theorem rBitG_back (a c : Nat) : Back (rBitG a c) fun _ k => k = 0 ∧ c ≤ 1 := fun bs s he ha h0 => by
  unfold rBitG at h0 ⊢
  split at h0
  · rw [form_err he] at h0; cases h0
  · rename_i h1
    simp only [if_neg h1]
    exact ⟨0, rfl, by omega, rfl, by omega⟩
theorem rBitG_cut (a c : Nat) : Cut (rBitG a c) := by
  unfold rBitG
  by_cases h : 1 < c
  · simp only [if_pos h]
    exact Fails.cut fun bs s he => by show (s.form a).err ≠ 0; rw [form_err he]; decide
  · simp only [if_neg h]
    exact pRet_cut _
theorem rBitG_stuck0 (a : Nat) : Stuck (rBitG a 0) := fun bs s h => by simp [rBitG]
theorem rBit_stuck : Stuck rBit := fun bs s h => by
  rw [rBit_bind]; unfold pBind
  have h1 := rByte_stuck bs s h
  have h2 : (rByte bs s).1 = 0 := rByte_errz bs s (by rw [h1]; exact h)
  rw [h1, h2]; exact rBitG_stuck0 _ bs s h
theorem rBit_back : Back rBit fun _ k => k = 1 := by
  rw [rBit_bind]
  refine (Back.bind rByte_back rByte_stuck (rByteZ rBitG_stuck0) (fun a x _ _ => rBitG_back a x)).mono ?_
  rintro v k ⟨x, k1, k2, rfl, ⟨rfl, _⟩, rfl, _⟩
  rfl
theorem rBit_cut : Cut rBit := by
  rw [rBit_bind]
  exact Cut.bind rByte_back rByte_cut (rByteZ rBitG_stuck0) (fun a x _ _ => rBitG_back a x) (fun a x _ _ => rBitG_cut a x)

def FieldP (f : FieldT) (k : Nat) : Prop := plainField f = true ∧ (pField f).length ≤ k ∧ 1 ≤ k
def rFieldG (_ : Nat) (x : Int × ValT) : Pars FieldT := pMap rBit fun b => ⟨x.1, x.2, b⟩
theorem rField_bind : rField = pBind rStore rFieldG := rfl
theorem rFieldG_back (a : Nat) (x : Int × ValT) : Back (rFieldG a x) fun f k => f.pack = x.1 ∧ f.val = x.2 ∧ k = 1 :=
  pMap_back rBit_back _ fun _ _ h => ⟨rfl, rfl, h⟩
theorem rField_stuck : Stuck rField := fun bs s h => by
  rw [rField_bind]; unfold pBind
  rw [rStore_stuck bs s h]; exact rBit_stuck bs s h
theorem rField_back : Back rField FieldP := by
  rw [rField_bind]
  refine (Back.bind rStore_back rStore_stuck (fun _ _ _ => rBit_stuck) (fun a x _ _ => rFieldG_back a x)).mono ?_
  rintro f k ⟨x, k1, k2, rfl, ⟨p1, p2⟩, e1, e2, rfl⟩
  refine ⟨?_, ?_, by omega⟩
  · unfold plainField; rw [e1, e2]; exact p1
  · unfold pField; rw [e1, e2]; simp only [List.length_append, List.length_cons, List.length_nil]; omega
theorem rField_cut : Cut rField := by
  rw [rField_bind]
  exact Cut.bind rStore_back rStore_cut (fun _ _ _ => rBit_stuck) (fun a x _ _ => rFieldG_back a x) (fun a x _ _ => pMap_cut rBit_cut _)

/- Composite types. -/
def plainComp (c : CompT) : Bool :=
  (c.params.all plainVal && c.results.all plainVal && c.fields.all plainField) &&
  (if c.kind = 1 then c.fields.length == 0
   else if c.kind = 2 then c.params.length + c.results.length == 0
   else if c.kind = 3 then c.params.length + c.results.length == 0 && c.fields.length == 1
   else false)
def pComp (c : CompT) : List UInt8 :=
  if c.kind = 1 then 96 :: (pList pVal c.params ++ pList pVal c.results)
  else if c.kind = 2 then 95 :: pList pField c.fields
  else 94 :: c.fields.head?.elim [] pField
def CompP (c : CompT) (k : Nat) : Prop := plainComp c = true ∧ (pComp c).length ≤ k ∧ 1 ≤ k
def rFuncG (_ : Nat) (x : List ValT) : Pars CompT := pMap rVals fun y => ⟨1, x, y, []⟩
def rCompG (a c : Nat) : Pars CompT :=
  if c = 96 then pBind rVals rFuncG
  else if c = 95 then pMap (pListF rField) fun l => ⟨2, [], [], l⟩
  else if c = 94 then pMap rField fun f => ⟨3, [], [], [f]⟩
  else fun _ s => (CompT.zero, s.form a)
theorem rComp_bind : rComp = pBind rByte rCompG := by
  funext bs s
  unfold rComp pBind rCompG
  generalize (rByte bs s).1 = c
  generalize (rByte bs s).2 = s'
  split
  · rfl
  · split
    · rfl
    · split <;> rfl
theorem rFuncG_back (a : Nat) (x : List ValT) : Back (rFuncG a x) fun c k => c.kind = 1 ∧ c.params = x ∧ c.fields = [] ∧ ListP plainVal pVal c.results k :=
  pMap_back rVals_back _ fun _ _ h => ⟨rfl, rfl, rfl, h⟩
theorem rFunc_back : Back (pBind rVals rFuncG) fun c k => c.kind = 1 ∧ c.fields = [] ∧ ∃ k1 k2, k = k1 + k2 ∧ ListP plainVal pVal c.params k1 ∧ ListP plainVal pVal c.results k2 := by
  refine (Back.bind rVals_back rVals_stuck (fun _ _ _ => rVals_stuck) (fun a x _ _ => rFuncG_back a x)).mono ?_
  rintro c k ⟨x, k1, k2, rfl, p1, e1, e2, e3, p2⟩
  subst e2
  exact ⟨e1, e3, k1, k2, rfl, p1, p2⟩
theorem rFields_back : Back (pListF rField) (ListP plainField pField) := pListF_back rField_back fun _ _ h => h
theorem rFields_cut : Cut (pListF rField) := pListF_cut rField_back rField_cut fun _ _ h => h.2.2
theorem rCompG_back (a c : Nat) : Back (rCompG a c) fun x k => plainComp x = true ∧ (pComp x).length ≤ 1 + k := by
  unfold rCompG
  split
  · refine rFunc_back.mono ?_
    rintro x k ⟨e1, e2, k1, k2, rfl, ⟨p1, p2, _⟩, ⟨q1, q2, _⟩⟩
    refine ⟨by simp only [plainComp, p1, q1, e1, e2]; rfl, ?_⟩
    simp only [pComp, e1, if_true, List.length_cons, List.length_append]
    omega
  · split
    · refine pMap_back rFields_back _ fun l k ⟨p1, p2, _⟩ => ⟨by simp only [plainComp, p1]; rfl, ?_⟩
      simp [pComp]; omega
    · split
      · refine pMap_back rField_back _ fun f k ⟨p1, p2, _⟩ => ⟨by simp [plainComp, p1], ?_⟩
        simp [pComp]; omega
      · exact Fails.back (fun bs s he => by show (s.form a).err ≠ 0; rw [form_err he]; decide) _
theorem rCompG_cut (a c : Nat) : Cut (rCompG a c) := by
  unfold rCompG
  split
  · exact Cut.bind rVals_back rVals_cut (fun _ _ _ => rVals_stuck) (fun a x _ _ => rFuncG_back a x) (fun a x _ _ => pMap_cut rVals_cut _)
  · split
    · exact pMap_cut rFields_cut _
    · split
      · exact pMap_cut rField_cut _
      · exact Fails.cut (fun bs s he => by show (s.form a).err ≠ 0; rw [form_err he]; decide)
theorem rCompG_stuck0 (a : Nat) : Stuck (rCompG a 0) := fun bs s h => by simp [rCompG, form_stuck h]
theorem rComp_stuck : Stuck rComp := fun bs s h => by
  rw [rComp_bind]; unfold pBind
  have h1 := rByte_stuck bs s h
  have h2 : (rByte bs s).1 = 0 := rByte_errz bs s (by rw [h1]; exact h)
  rw [h1, h2]; exact rCompG_stuck0 _ bs s h
theorem rComp_back : Back rComp CompP := by
  rw [rComp_bind]
  refine (Back.bind rByte_back rByte_stuck (rByteZ rCompG_stuck0) (fun a x _ _ => rCompG_back a x)).mono ?_
  rintro v k ⟨x, k1, k2, rfl, ⟨rfl, _⟩, h1, h2⟩
  exact ⟨h1, h2, by omega⟩
theorem rComp_cut : Cut rComp := by
  rw [rComp_bind]
  exact Cut.bind rByte_back rByte_cut (rByteZ rCompG_stuck0) (fun a x _ _ => rCompG_back a x) (fun a x _ _ => rCompG_cut a x)

/- Declared types. -/
def pHead (f : Bool) (l : List HeapT) : List UInt8 :=
  if f = false then 80 :: pList pSuper l else if 0 < l.length then 79 :: pList pSuper l else []
def HeadP (x : Bool × List HeapT) (k : Nat) : Prop := x.2.all indexedH = true ∧ (pHead x.1 x.2).length ≤ k
theorem rSupers_back : Back (pListF rSuper) (ListP indexedH pSuper) := pListF_back rSuper_back fun _ _ h => h
theorem rSupers_cut : Cut (pListF rSuper) := pListF_cut rSuper_back rSuper_cut fun _ _ h => h.2.2
theorem rHead_stuck : Stuck rHead := fun bs s h => by simp [rHead, peek_stuck bs h]
theorem rHead_back : Back rHead HeadP := fun bs s he ha h0 => by
  unfold rHead at h0 ⊢
  split at h0
  · rename_i h1
    have hp := peek_pos (s := s) (bs := bs) (by omega)
    simp only [if_pos h1]
    obtain ⟨k, e, l, p1, p2, _⟩ := rSupers_back bs (s.adv 1) he (by simp; omega) h0
    have e' : (rList bs (rSuper bs) s.next).2 = (s.adv 1).adv k := e
    simp at l
    refine ⟨1 + k, by rw [e', adv_adv], by omega, p1, ?_⟩
    have p2 : (pList pSuper (rList bs (rSuper bs) s.next).1).length ≤ k := p2
    simp only [pHead]
    split
    · simp only [List.length_cons]; omega
    · split
      · simp only [List.length_cons]; omega
      · simp
  · rename_i h1
    simp only [if_neg h1]
    exact ⟨0, rfl, by omega, rfl, by simp [pHead]⟩
theorem rHead_cut1 : Cut1 rHead := fun bs s k he ha hk c hac hc => by
  have hp := peek_cut hac hc
  unfold rHead at hk
  split at hk
  · rename_i h1
    have hpos := peek_pos (s := s) (bs := bs) (by omega)
    obtain ⟨k', e, l, _⟩ := rSupers_back bs (s.adv 1) he (by simp; omega) (by
      show (rList bs (rSuper bs) s.next).2.err = 0
      simp only at hk; rw [hk]; exact he)
    have e' : (rList bs (rSuper bs) s.next).2 = (s.adv 1).adv k' := e
    have hkk : k = 1 + k' := by
      simp only at hk
      rw [hk, adv_adv] at e'; exact adv_inj e'
    subst hkk
    obtain ⟨a, b⟩ := rSupers_cut bs (s.adv 1) k' he (by simp; omega) e c (by simp; omega) hc
    simp only [adv_at] at a b
    unfold CutAt rHead
    rw [hp, if_pos h1, if_pos h1]
    refine ⟨fun h => ?_, fun h => ?_⟩
    · have a := a (by omega)
      have a : rList (bs.take c) (rSuper (bs.take c)) s.next = rList bs (rSuper bs) s.next := a
      rw [a]
    · exact b (by omega)
  · rename_i h1
    have hk1 : k = 0 := (adv_inj (a := 0) hk).symm
    subst hk1
    unfold CutAt rHead
    rw [hp, if_neg h1, if_neg h1]
    exact ⟨fun _ => rfl, fun h => by omega⟩

def SubP (x : SubT) (k : Nat) : Prop := plainSub x = true ∧ (pSub x).length ≤ k ∧ 1 ≤ k
def rSubG (_ : Nat) (x : Bool × List HeapT) : Pars SubT := pMap rComp fun c => ⟨x.1, x.2, c⟩
theorem rSub_alike : Alike rSub (pBind rHead rSubG) := fun bs s => ⟨rfl, fun h => by
  have h : (rComp bs (rHead bs s).2).2.err = 0 := h
  simp [rSub, RdS.told, h, pBind, rSubG, pMap]⟩
theorem rSubG_back (a : Nat) (x : Bool × List HeapT) : Back (rSubG a x) fun t k => t.final_ = x.1 ∧ t.supers = x.2 ∧ CompP t.comp k :=
  pMap_back rComp_back _ fun _ _ h => ⟨rfl, rfl, h⟩
theorem plainSub_eq (s : SubT) : plainSub s = (s.supers.all indexedH && plainComp s.comp) := by simp [plainSub, plainComp, Bool.and_assoc]
theorem pSub_eq (s : SubT) : pSub s = pHead s.final_ s.supers ++ pComp s.comp := rfl
theorem rSub_stuck : Stuck rSub := fun bs s h => by
  show (rComp bs (rHead bs s).2).2 = s
  rw [rHead_stuck bs s h, rComp_stuck bs s h]
theorem rSub_back : Back rSub SubP := by
  refine rSub_alike.back ((Back.bind rHead_back rHead_stuck (fun _ _ _ => rComp_stuck) (fun a x _ _ => rSubG_back a x)).mono ?_)
  rintro t k ⟨x, k1, k2, rfl, ⟨p1, p2⟩, e1, e2, q1, q2, q3⟩
  refine ⟨?_, ?_, by omega⟩
  · rw [plainSub_eq, e2, p1, q1]; rfl
  · rw [pSub_eq, e1, e2, List.length_append]; omega
theorem rComp_end {bs : List UInt8} {s : RdS} (he : s.err = 0) (h : bs.length ≤ s.at_) : Early (rComp bs s).2 s.at_ := by
  have h2 : rByte bs s = (0, { s with err := 10, errAt := s.at_ }) := by
    unfold rByte; rw [if_neg (fun h => by omega), fail_ok he (by decide)]
  rw [rComp_bind]; unfold pBind; rw [h2]
  rw [rCompG_stuck0 _ _ _ (by simp)]
  exact ⟨rfl, by simp, by simp⟩
theorem rSub_end {bs : List UInt8} {s : RdS} (he : s.err = 0) (h : bs.length ≤ s.at_) : Early (rSub bs s).2 s.at_ := by
  have hp : rPeek bs s = 0 := by unfold rPeek; rw [if_neg (fun h => by omega)]
  have hh : rHead bs s = ((true, []), s) := by unfold rHead; rw [hp]; simp
  show Early (rComp bs (rHead bs s).2).2 s.at_
  rw [hh]; exact rComp_end he h
theorem rSub_cut : Cut rSub := fun bs s k he ha hk c hac hc => by
  rcases Nat.lt_or_ge s.at_ c with hlt | hge
  · have h := Cut1.bind rHead_back rHead_cut1 (fun _ _ _ => rComp_stuck) (fun a x _ _ => rSubG_back a x) (fun a x _ _ => pMap_cut rComp_cut _)
    have h1 := rSub_alike bs s
    have hk' := hk
    rw [h1.1] at hk
    obtain ⟨a, b⟩ := h bs s k he ha hk c hlt hc
    have h2 := rSub_alike (bs.take c) s
    refine ⟨fun hh => ?_, fun hh => by rw [h2.1]; exact b hh⟩
    have e := a hh
    have h0 : (pBind rHead rSubG bs s).2.err = 0 := by rw [hk]; exact he
    refine Prod.ext ?_ ?_
    · rw [h2.2 (by rw [e]; exact h0), h1.2 h0, e]
    · rw [h2.1, h1.1, e]
  · obtain ⟨k', e, l, p⟩ := rSub_back bs s he ha (by rw [hk]; exact he)
    have hkk := adv_inj (hk.symm.trans e)
    subst hkk
    have := p.2.2
    have hce : c = s.at_ := by omega
    subst hce
    exact ⟨fun h => by omega, fun _ => rSub_end he (by simp; omega)⟩

/- Groups. -/
def pRecB (l : List SubT) : List UInt8 := match l with
  | [] => []
  | [s] => pSub s
  | l => 78 :: pList pSub l
theorem pRec_eq (l : List SubT) : pRec l = if l.all plainSub then pRecB l else [] := rfl
def RecP (l : List SubT) (k : Nat) : Prop := l.all plainSub = true ∧ (pRecB l).length ≤ k ∧ 1 ≤ k
theorem rSubs_back : Back (pListF rSub) (ListP plainSub pSub) := pListF_back rSub_back fun _ _ h => h
theorem rSubs_cut : Cut (pListF rSub) := pListF_cut rSub_back rSub_cut fun _ _ h => h.2.2
theorem pList_len1 (s : SubT) : (pSub s).length < (pList pSub [s]).length := by simp [pList]; have := putU_pos 1; omega
theorem rRec_back : Back rRec RecP := fun bs s he ha h0 => by
  unfold rRec at h0 ⊢
  split at h0
  · rename_i h1
    have hp := peek_pos (s := s) (bs := bs) (by omega)
    simp only [if_pos h1]
    obtain ⟨k, e, l, p1, p2, p3⟩ := rSubs_back bs (s.adv 1) he (by simp; omega) h0
    have e' : (rList bs (rSub bs) s.next).2 = (s.adv 1).adv k := e
    simp at l
    refine ⟨1 + k, by rw [e', adv_adv], by omega, p1, ?_, by omega⟩
    have p2 : (pList pSub (rList bs (rSub bs) s.next).1).length ≤ k := p2
    generalize (rList bs (rSub bs) s.next).1 = x at p2
    match x, p2 with
    | [], _ => simp [pRecB]
    | [t], p2 => have := pList_len1 t; simp only [pRecB]; omega
    | a :: b :: r, p2 => simp only [pRecB, List.length_cons] at p2 ⊢; omega
  · rename_i h1
    simp only [if_neg h1]
    obtain ⟨k, e, l, p1, p2, p3⟩ := rSub_back bs s he ha h0
    have h0' : (rSub bs s).2.err = 0 := h0
    refine ⟨k, e, l, ?_⟩
    simp only [RdS.told, if_pos h0']
    exact ⟨by simpa using p1, by simpa [pRecB] using p2, p3⟩
theorem rRec_errz (bs : List UInt8) (s : RdS) (h : (rRec bs s).2.err ≠ 0) : (rRec bs s).1 = [] := by
  unfold rRec at h ⊢
  split
  · rename_i h1
    rw [if_pos h1] at h
    unfold rList at h ⊢
    simp at h
    simp [RdS.told, h]
  · rename_i h1
    rw [if_neg h1] at h
    simp at h
    simp [RdS.told, h]
theorem rRec_cut : Cut rRec := fun bs s k he ha hk c hac hc => by
  rcases Nat.lt_or_ge s.at_ c with hlt | hge
  · have hp := peek_cut hlt hc
    unfold rRec at hk
    split at hk
    · rename_i h1
      have hpos := peek_pos (s := s) (bs := bs) (by omega)
      obtain ⟨k', e, l, _⟩ := rSubs_back bs (s.adv 1) he (by simp; omega) (by
        show (rList bs (rSub bs) s.next).2.err = 0
        rw [hk]; exact he)
      have e' : (rList bs (rSub bs) s.next).2 = (s.adv 1).adv k' := e
      have hkk : k = 1 + k' := by rw [hk, adv_adv] at e'; exact adv_inj e'
      subst hkk
      obtain ⟨a, b⟩ := rSubs_cut bs (s.adv 1) k' he (by simp; omega) e c (by simp; omega) hc
      simp only [adv_at] at a b
      unfold CutAt rRec
      rw [hp, if_pos h1, if_pos h1]
      exact ⟨fun h => a (by omega), fun h => b (by omega)⟩
    · rename_i h1
      obtain ⟨a, b⟩ := rSub_cut bs s k he ha hk c hac hc
      unfold CutAt rRec
      rw [hp, if_neg h1, if_neg h1]
      exact ⟨fun h => by rw [a h], fun h => b h⟩
  · obtain ⟨k', e, l, p⟩ := rRec_back bs s he ha (by rw [hk]; exact he)
    have hkk := adv_inj (hk.symm.trans e)
    subst hkk
    have := p.2.2
    have hce : c = s.at_ := by omega
    subst hce
    refine ⟨fun h => by omega, fun _ => ?_⟩
    unfold rRec
    rw [peek_end (by omega), if_neg (by decide)]
    exact rSub_end he (by simp; omega)

end Go.Proofs.YtokneepfknepaaaDoor

set_option linter.unusedSimpArgs false
set_option linter.unusedVariables false
namespace Go.Proofs.YtokneepfknepaaaDoor

/-- A reader stands at the place from which on the bytes are l. -/
structure At (bs : List UInt8) (s : RdS) (l : List UInt8) : Prop where
  ok : s.err = 0
  le : s.at_ ≤ bs.length
  eq : bs.drop s.at_ = l
theorem At.adv {bs : List UInt8} {s : RdS} {b l : List UInt8} (h : At bs s (b ++ l)) : At bs (s.adv b.length) l := by
  have h3 := congrArg List.length h.eq
  simp at h3
  have := h.le
  refine ⟨h.ok, by simp; omega, ?_⟩
  simp only [adv_at, ← List.drop_drop]
  rw [h.eq]; simp
theorem At.head {bs : List UInt8} {s : RdS} {c : UInt8} {l : List UInt8} (h : At bs s (c :: l)) : s.at_ < bs.length ∧ bs.getD s.at_ 0 = c := by
  have h3 := congrArg List.length h.eq
  simp at h3
  have hl : s.at_ < bs.length := by omega
  refine ⟨hl, ?_⟩
  have := congrArg (fun l => l.getD 0 0) h.eq
  simpa [List.getD, List.getElem?_drop] using this

/-- What b says is read as x, whatever stands behind. -/
def RT {α : Type} (F : Pars α) (b : List UInt8) (x : α) : Prop := ∀ bs s l, At bs s (b ++ l) → F bs s = (x, s.adv b.length)

theorem rByte_rt (c : UInt8) : RT rByte [c] c.toNat := fun bs s l h => by
  have := At.head (c := c) (l := l) (by simpa using h)
  unfold rByte
  rw [if_pos ⟨h.ok, this.1⟩, this.2]; rfl
theorem rPeek_rt {bs : List UInt8} {s : RdS} {c : UInt8} {l : List UInt8} (h : At bs s (c :: l)) : rPeek bs s = c.toNat := by
  have := At.head h
  unfold rPeek
  rw [if_pos ⟨h.ok, this.1⟩, this.2]
theorem rU_rt (bits n : Nat) (h1 : 1 ≤ bits) (hb : bits ≤ 64) (hn : n < 2 ^ bits) : RT (fun bs => rU bs bits) (putU n) n := fun bs s l h => by
  have hr : lebRead bs s.at_ bits false = (n, s.at_ + (putU n).length, 0) := by
    rw [lebRead_eq h.le, h.eq, lebGo_putU bits hb n n (Nat.le_refl n) l s.at_ 0 0 (by omega) (by simp) (by simpa using hn)]
    simp
  simp [rU, h.ok, hr, RdS.adv]
theorem rS_rt (bits : Nat) (n : Int) (h1 : 1 ≤ bits) (hb : bits ≤ 64) (hlo : -(2 ^ (bits - 1)) ≤ n) (hhi : n < 2 ^ (bits - 1)) : RT (fun bs => rS bs bits) (putS n) n := fun bs s l h => by
  obtain ⟨v, h2, h3⟩ := lebGo_putS bits hb n.natAbs n (Nat.le_refl _) l s.at_ 0 0 (by omega) (by simp) (by simp) (by simpa using hlo) (by simpa using hhi)
  have hr : lebRead bs s.at_ bits true = (v, s.at_ + (putS n).length, 0) := by
    rw [lebRead_eq h.le, h.eq, h2]
  simp at h3
  simp [rS, h.ok, hr, RdS.adv, h3]

theorem RT.bind {α β : Type} {F : Pars α} {G : Nat → α → Pars β} {b1 b2 : List UInt8} {x : α} {y : β} (hF : RT F b1 x) (hG : ∀ a, RT (G a x) b2 y) : RT (pBind F G) (b1 ++ b2) y := fun bs s l h => by
  have h : At bs s (b1 ++ (b2 ++ l)) := by simpa using h
  unfold pBind
  rw [hF bs s _ h, hG s.at_ bs _ l h.adv, adv_adv, List.length_append]
theorem RT.map {α β : Type} {F : Pars α} {b : List UInt8} {x : α} (h : RT F b x) (m : α → β) : RT (pMap F m) b (m x) := fun bs s l ha => by
  unfold pMap; rw [h bs s l ha]
theorem RT.ret {α : Type} (x : α) : RT (pRet x) [] x := fun _ _ _ _ => rfl
theorem RT.alike {α : Type} {F G : Pars α} {b : List UInt8} {x : α} (h : Alike F G) (hG : RT G b x) : RT F b x := fun bs s l ha => by
  have h1 := h bs s
  have h2 := hG bs s l ha
  refine Prod.ext ?_ ?_
  · rw [h1.2 (by rw [h2]; exact ha.ok), h2]
  · rw [h1.1, h2]

theorem rHeap_rt (h : HeapT) (hp : plainHeap h = true) : RT rHeap (pHeap h) h := fun bs s l ha => by
  simp only [plainHeap, Bool.or_eq_true, givenH, indexedH, decide_eq_true_eq] at hp
  obtain ⟨k, n⟩ := h
  simp only at hp
  rcases hp with ⟨h1, h2, rfl⟩ | ⟨rfl, h2, h3⟩
  · have hb : ∃ c : UInt8, heapByte k = [c] ∧ givenK c.toNat = k := by
      have : k = 1 ∨ k = 2 ∨ k = 3 ∨ k = 4 ∨ k = 5 ∨ k = 6 ∨ k = 7 ∨ k = 8 ∨ k = 9 ∨ k = 10 ∨ k = 11 ∨ k = 12 := by omega
      rcases this with rfl | rfl | rfl | rfl | rfl | rfl | rfl | rfl | rfl | rfl | rfl | rfl
      · exact ⟨110, by decide, by decide⟩
      · exact ⟨109, by decide, by decide⟩
      · exact ⟨108, by decide, by decide⟩
      · exact ⟨107, by decide, by decide⟩
      · exact ⟨106, by decide, by decide⟩
      · exact ⟨113, by decide, by decide⟩
      · exact ⟨112, by decide, by decide⟩
      · exact ⟨115, by decide, by decide⟩
      · exact ⟨111, by decide, by decide⟩
      · exact ⟨114, by decide, by decide⟩
      · exact ⟨105, by decide, by decide⟩
      · exact ⟨116, by decide, by decide⟩
    obtain ⟨c, e1, e2⟩ := hb
    simp only [pHeap] at ha ⊢
    rw [if_neg (by omega), e1] at ha ⊢
    have hpk := rPeek_rt (c := c) (l := l) (by simpa using ha)
    unfold rHeap
    rw [hpk, e2, if_neg (by omega)]
    rfl
  · simp only [pHeap, if_true] at ha ⊢
    have hS := rS_rt 33 n (by decide) (by decide) (by omega) (by omega) bs s l ha
    simp only at hS
    have hg : givenK (rPeek bs s) = 0 := by
      obtain ⟨c, r, e, hc⟩ : ∃ (c : UInt8) (r : List UInt8), putS n = c :: r ∧ givenK c.toNat = 0 := by
        by_cases hs : n < 64
        · refine ⟨_, [], putS_small n (by omega) hs, ?_⟩
          rw [u8_ofNat _ (by omega)]
          unfold givenK; rw [if_pos (by omega)]
        · refine ⟨_, _, putS_big n (by omega), ?_⟩
          rw [u8_ofNat _ (by omega)]
          unfold givenK; rw [if_pos (by omega)]
      rw [e] at ha
      rw [rPeek_rt (c := c) (l := r ++ l) (by simpa using ha)]; exact hc
    unfold rHeap
    rw [if_pos hg, hS]
    simp [RdS.told, ha.ok, show ¬ n < 0 by omega]

theorem rVal_rt (v : ValT) (hp : plainVal v = true) : RT rVal (pVal v) v := by
  obtain ⟨k, nl, h⟩ := v
  simp only [plainVal] at hp
  rw [rVal_bind]
  simp only [pVal]
  split at hp
  · rename_i hk
    simp at hp
    obtain ⟨rfl, rfl⟩ := hp
    rcases hk with rfl | rfl
    · exact RT.bind (b1 := [127]) (b2 := []) (rByte_rt 127) fun a => by simp only [rValG]; exact RT.ret _
    · exact RT.bind (b1 := [126]) (b2 := []) (rByte_rt 126) fun a => by simp only [rValG]; exact RT.ret _
  · rename_i hk
    split at hp
    · rename_i h3
      subst h3
      have hp : plainHeap h = true := hp
      rw [if_neg (by decide), if_neg (by decide)]
      cases nl with
      | false =>
        rw [if_pos rfl]
        refine RT.bind (b1 := [100]) (b2 := pHeap h) (rByte_rt 100) fun a => ?_
        have : rValG a (100 : UInt8).toNat = pTold rHeap ValT.zero fun h => ⟨3, false, h⟩ := by simp [rValG]
        rw [this]
        exact RT.alike (pTold_alike _ _ _) ((rHeap_rt h hp).map _)
      | true =>
        rw [if_neg (by decide)]
        by_cases hx : h.kind = 13
        · rw [if_pos hx]
          refine RT.bind (b1 := [99]) (b2 := pHeap h) (rByte_rt 99) fun a => ?_
          have : rValG a (99 : UInt8).toNat = pTold rHeap ValT.zero fun h => ⟨3, true, h⟩ := by simp [rValG]
          rw [this]
          exact RT.alike (pTold_alike _ _ _) ((rHeap_rt h hp).map _)
        · rw [if_neg hx]
          obtain ⟨k, n⟩ := h
          simp only at hx
          simp only [plainHeap, Bool.or_eq_true, givenH, indexedH, decide_eq_true_eq] at hp
          rcases hp with ⟨h1, h2, rfl⟩ | ⟨rfl, _⟩
          · have hb : ∃ c : UInt8, heapByte k = [c] ∧ givenK c.toNat = k ∧ 105 ≤ c.toNat ∧ c.toNat ≤ 116 := by
              have : k = 1 ∨ k = 2 ∨ k = 3 ∨ k = 4 ∨ k = 5 ∨ k = 6 ∨ k = 7 ∨ k = 8 ∨ k = 9 ∨ k = 10 ∨ k = 11 ∨ k = 12 := by omega
              rcases this with rfl | rfl | rfl | rfl | rfl | rfl | rfl | rfl | rfl | rfl | rfl | rfl
              · exact ⟨110, by decide, by decide, by decide, by decide⟩
              · exact ⟨109, by decide, by decide, by decide, by decide⟩
              · exact ⟨108, by decide, by decide, by decide, by decide⟩
              · exact ⟨107, by decide, by decide, by decide, by decide⟩
              · exact ⟨106, by decide, by decide, by decide, by decide⟩
              · exact ⟨113, by decide, by decide, by decide, by decide⟩
              · exact ⟨112, by decide, by decide, by decide, by decide⟩
              · exact ⟨115, by decide, by decide, by decide, by decide⟩
              · exact ⟨111, by decide, by decide, by decide, by decide⟩
              · exact ⟨114, by decide, by decide, by decide, by decide⟩
              · exact ⟨105, by decide, by decide, by decide, by decide⟩
              · exact ⟨116, by decide, by decide, by decide, by decide⟩
            obtain ⟨c, e1, e2, e3, e4⟩ := hb
            simp only [pHeap]
            rw [if_neg hx, e1]
            refine RT.bind (b1 := [c]) (b2 := []) (rByte_rt c) fun a => ?_
            unfold rValG
            rw [if_neg (by omega), if_neg (by omega), if_neg (by omega), if_neg (by omega), if_neg (by omega), e2]
            exact RT.ret _
          · exact absurd rfl hx
    · cases hp

theorem rMany_rt {α : Type} {F : Pars α} {put : α → List UInt8} : ∀ (l : List α), (∀ x, x ∈ l → RT F (put x) x) → RT (fun bs s => rMany (F bs) l.length s) (l.flatMap put) l := by
  intro l
  induction l with
  | nil => intro _ bs s r h; rfl
  | cons x l ih =>
    intro hx bs s r h
    have h : At bs s (put x ++ (l.flatMap put ++ r)) := by simpa using h
    have h1 := hx x (by simp) bs s _ h
    have h2 := ih (fun y hy => hx y (by simp [hy])) bs _ r h.adv
    simp only at h2
    simp only [List.length_cons, rMany, if_pos h.ok, h1, h2, adv_adv]
    simp
theorem flat_ge {α : Type} (put : α → List UInt8) (l : List α) (h : ∀ x, x ∈ l → 1 ≤ (put x).length) : l.length ≤ (l.flatMap put).length := by
  induction l with
  | nil => simp
  | cons x l ih =>
    have := ih (fun y hy => h y (by simp [hy]))
    have := h x (by simp)
    simp only [List.flatMap_cons, List.length_append, List.length_cons]; omega
theorem pListF_rt {α : Type} {F : Pars α} {put : α → List UInt8} (l : List α) (hn : l.length < 4294967296) (h : ∀ x, x ∈ l → RT F (put x) x ∧ 1 ≤ (put x).length) : RT (pListF F) (pList put l) l := fun bs s r ha => by
  have hge := flat_ge put l (fun x hx => (h x hx).2)
  unfold pList at ha ⊢
  have ha : At bs s (putU l.length ++ (l.flatMap put ++ r)) := by simpa using ha
  have h1 := rU_rt 32 l.length (by decide) (by decide) (by simpa using hn) bs s _ ha
  simp only at h1
  have h2 := rMany_rt l (fun x hx => (h x hx).1) bs _ r ha.adv
  simp only at h2
  have h3 : rCount bs s = (l.length, s.adv (putU l.length).length) := by
    have hl := congrArg List.length ha.adv.eq
    simp only [List.length_drop, List.length_append, adv_at] at hl
    unfold rCount
    rw [h1, if_neg]
    simp only [adv_at]
    omega
  unfold pListF rList
  rw [h3]
  simp only [h2, adv_adv, RdS.told, if_pos (show (s.adv ((putU l.length).length + (l.flatMap put).length)).err = 0 from ha.ok), List.length_append]

theorem pHeap_pos (h : HeapT) (hp : plainHeap h = true) : 1 ≤ (pHeap h).length := by
  unfold pHeap
  split
  · exact putS_pos _
  · rename_i hx
    simp only [plainHeap, Bool.or_eq_true, givenH, indexedH, decide_eq_true_eq] at hp
    have : h.kind = 1 ∨ h.kind = 2 ∨ h.kind = 3 ∨ h.kind = 4 ∨ h.kind = 5 ∨ h.kind = 6 ∨ h.kind = 7 ∨ h.kind = 8 ∨ h.kind = 9 ∨ h.kind = 10 ∨ h.kind = 11 ∨ h.kind = 12 := by omega
    rcases this with e | e | e | e | e | e | e | e | e | e | e | e <;> rw [e] <;> decide
theorem pVal_pos (v : ValT) (hp : plainVal v = true) : 1 ≤ (pVal v).length := by
  unfold pVal
  split
  · simp
  · split
    · simp
    · split
      · simp
      · split
        · simp
        · rename_i h1 h2 _ _
          unfold plainVal at hp
          rw [if_neg (by omega)] at hp
          split at hp
          · exact pHeap_pos _ hp
          · cases hp
theorem rVals_rt (l : List ValT) (hn : l.length < 4294967296) (hp : l.all plainVal = true) : RT rVals (pList pVal l) l :=
  pListF_rt l hn fun x hx => by
    have := List.all_eq_true.1 hp x hx
    exact ⟨rVal_rt x this, pVal_pos x this⟩
theorem rSuper_rt (h : HeapT) (hp : indexedH h = true) : RT rSuper (pSuper h) h := by
  simp only [indexedH, decide_eq_true_eq] at hp
  obtain ⟨k, n⟩ := h
  simp only at hp
  obtain ⟨rfl, h1, h2⟩ := hp
  have := (rU_rt 32 n.toNat (by decide) (by decide) (by omega)).map (fun n => (⟨13, n⟩ : HeapT))
  rw [Int.toNat_of_nonneg h1] at this
  exact this
theorem rBit_rt (b : Bool) : RT rBit [if b then 1 else 0] b := by
  rw [rBit_bind]
  cases b
  · exact RT.bind (b1 := [0]) (b2 := []) (rByte_rt 0) fun a => by intro bs s l h; rfl
  · exact RT.bind (b1 := [1]) (b2 := []) (rByte_rt 1) fun a => by intro bs s l h; rfl
theorem rStore_rt (p : Int) (v : ValT) (h : (if p = 0 then plainVal v else if p = 8 ∨ p = 16 then decide (v = ⟨1, false, ⟨0, 0⟩⟩) else false) = true) :
    RT rStore (if p = 8 then [120] else if p = 16 then [119] else pVal v) (p, v) := fun bs s l ha => by
  split at h
  · rename_i h0
    subst h0
    rw [if_neg (by decide), if_neg (by decide)] at ha ⊢
    have hb : ∃ (c : UInt8) (r : List UInt8), pVal v = c :: r ∧ c.toNat ≠ 120 ∧ c.toNat ≠ 119 := by
      have h1 := rVal_rt v h bs s l ha
      have h2 := pVal_pos v h
      obtain ⟨c, r, e⟩ := List.exists_cons_of_length_pos h2
      refine ⟨c, r, e, ?_⟩
      rw [e] at ha
      have h3 := rByte_rt c bs s (r ++ l) (by simpa using ha)
      rw [rVal_bind] at h1
      unfold pBind at h1
      rw [h3] at h1
      constructor <;>
      · intro hc
        rw [hc] at h1
        have h4 := congrArg (fun x => x.2.err) h1
        simp [rValG, givenK, RdS.form, RdS.refuse, RdS.fail, ha.ok] at h4
    obtain ⟨c, r, e, c1, c2⟩ := hb
    have hpk : rPeek bs s = c.toNat := by
      rw [e] at ha
      exact rPeek_rt (c := c) (l := r ++ l) (by simpa using ha)
    unfold rStore
    rw [hpk, if_neg c1, if_neg c2, rVal_rt v h bs s l ha]
  · rename_i h0
    split at h
    · rename_i h1
      have hv : v = ⟨1, false, ⟨0, 0⟩⟩ := by simpa using h
      subst hv
      rcases h1 with rfl | rfl
      · rw [if_pos rfl] at ha ⊢
        have hpk := rPeek_rt (c := 120) (l := l) (by simpa using ha)
        unfold rStore
        rw [hpk]; rfl
      · rw [if_neg (by decide), if_pos rfl] at ha ⊢
        have hpk := rPeek_rt (c := 119) (l := l) (by simpa using ha)
        unfold rStore
        rw [hpk]; rfl
    · cases h
theorem rField_rt (f : FieldT) (hp : plainField f = true) : RT rField (pField f) f := by
  rw [rField_bind]
  exact RT.bind (rStore_rt f.pack f.val hp) fun a => (rBit_rt f.mut_).map _
theorem pField_pos (f : FieldT) : 1 ≤ (pField f).length := by simp [pField]
theorem rComp_rt (c : CompT) (hp : plainComp c = true) (h1 : c.params.length < 4294967296) (h2 : c.results.length < 4294967296) (h3 : c.fields.length < 4294967296) : RT rComp (pComp c) c := by
  obtain ⟨k, ps, rs, fs⟩ := c
  simp only [plainComp, Bool.and_eq_true] at hp
  obtain ⟨⟨⟨p1, p2⟩, p3⟩, p4⟩ := hp
  rw [rComp_bind]
  simp only [pComp]
  split at p4
  · rename_i hk
    subst hk
    have : fs = [] := by simpa using p4
    subst this
    rw [if_pos rfl]
    refine RT.bind (b1 := [96]) (b2 := pList pVal ps ++ pList pVal rs) (rByte_rt 96) fun a => ?_
    have : rCompG a (96 : UInt8).toNat = pBind rVals rFuncG := by simp [rCompG]
    rw [this]
    exact RT.bind (rVals_rt ps h1 p1) fun a => (rVals_rt rs h2 p2).map _
  · rename_i hk
    split at p4
    · rename_i hk2
      subst hk2
      have hpr : ps = [] ∧ rs = [] := by simpa using p4
      obtain ⟨rfl, rfl⟩ := hpr
      rw [if_neg (by decide), if_pos rfl]
      refine RT.bind (b1 := [95]) (b2 := pList pField fs) (rByte_rt 95) fun a => ?_
      have : rCompG a (95 : UInt8).toNat = pMap (pListF rField) fun l => ⟨2, [], [], l⟩ := by simp [rCompG]
      rw [this]
      exact (pListF_rt fs h3 fun x hx => ⟨rField_rt x (List.all_eq_true.1 p3 x hx), pField_pos x⟩).map _
    · rename_i hk2
      split at p4
      · rename_i hk3
        subst hk3
        simp only [Bool.and_eq_true, beq_iff_eq] at p4
        have hpr : ps = [] ∧ rs = [] := by simpa using p4.1
        obtain ⟨rfl, rfl⟩ := hpr
        obtain ⟨f, rfl⟩ := List.length_eq_one_iff.1 p4.2
        rw [if_neg (by decide), if_neg (by decide)]
        refine RT.bind (b1 := [94]) (b2 := pField f) (rByte_rt 94) fun a => ?_
        have : rCompG a (94 : UInt8).toNat = pMap rField fun f => ⟨3, [], [], [f]⟩ := by simp [rCompG]
        rw [this]
        exact (rField_rt f (by simpa using p3)).map _
      · cases p4
theorem pComp_head (c : CompT) : ∃ (b : UInt8) (r : List UInt8), pComp c = b :: r ∧ b.toNat ≠ 80 ∧ b.toNat ≠ 79 ∧ b.toNat ≠ 78 := by
  unfold pComp
  split
  · exact ⟨96, _, rfl, by decide, by decide, by decide⟩
  · split
    · exact ⟨95, _, rfl, by decide, by decide, by decide⟩
    · exact ⟨94, _, rfl, by decide, by decide, by decide⟩

/-- Lists that are no longer than any number of 32 bits. -/
structure SmallSub (s : SubT) : Prop where
  supers : s.supers.length < 4294967296
  params : s.comp.params.length < 4294967296
  results : s.comp.results.length < 4294967296
  fields : s.comp.fields.length < 4294967296
theorem rSupers_rt (l : List HeapT) (hn : l.length < 4294967296) (hp : l.all indexedH = true) : RT (pListF rSuper) (pList pSuper l) l :=
  pListF_rt l hn fun x hx => ⟨rSuper_rt x (List.all_eq_true.1 hp x hx), putU_pos _⟩
theorem pSub_head (s : SubT) : ∃ (b : UInt8) (r : List UInt8), pSub s = b :: r ∧ b.toNat ≠ 78 := by
  rw [pSub_eq]
  unfold pHead
  split
  · exact ⟨80, _, rfl, by decide⟩
  · split
    · exact ⟨79, _, rfl, by decide⟩
    · obtain ⟨b, r, e, _, _, h⟩ := pComp_head s.comp
      exact ⟨b, r, by simpa using e, h⟩
theorem rSub_rt (t : SubT) (hp : plainSub t = true) (hs : SmallSub t) : RT rSub (pSub t) t := fun bs s l ha => by
  rw [plainSub_eq, Bool.and_eq_true] at hp
  rw [pSub_eq] at ha ⊢
  have hc := rComp_rt t.comp hp.2 hs.params hs.results hs.fields
  obtain ⟨b, r, e, n1, n2, _⟩ := pComp_head t.comp
  have hH : rHead bs s = ((t.final_, t.supers), s.adv (pHead t.final_ t.supers).length) := by
    unfold pHead at ha ⊢
    unfold rHead
    split at ha
    · rename_i hf
      rw [if_pos hf]
      have hpk := rPeek_rt (c := 80) (l := pList pSuper t.supers ++ (pComp t.comp ++ l)) (by simpa using ha)
      have ha1 : At bs (s.adv 1) (pList pSuper t.supers ++ (pComp t.comp ++ l)) := At.adv (b := [80]) (by simpa using ha)
      have hl := rSupers_rt t.supers hs.supers hp.1 bs _ _ ha1
      have hl : rList bs (rSuper bs) s.next = (t.supers, (s.adv 1).adv (pList pSuper t.supers).length) := hl
      rw [hpk, if_pos (by decide), hl, adv_adv, hf]
      simp [Nat.add_comm]
    · rename_i hf
      rw [if_neg hf]
      have hf : t.final_ = true := by simpa using hf
      split at ha
      · rename_i hn
        rw [if_pos hn]
        have hpk := rPeek_rt (c := 79) (l := pList pSuper t.supers ++ (pComp t.comp ++ l)) (by simpa using ha)
        have ha1 : At bs (s.adv 1) (pList pSuper t.supers ++ (pComp t.comp ++ l)) := At.adv (b := [79]) (by simpa using ha)
        have hl := rSupers_rt t.supers hs.supers hp.1 bs _ _ ha1
        have hl : rList bs (rSuper bs) s.next = (t.supers, (s.adv 1).adv (pList pSuper t.supers).length) := hl
        rw [hpk, if_pos (by decide), hl, adv_adv, hf]
        simp [Nat.add_comm]
      · rename_i hn
        rw [if_neg hn]
        have hse : t.supers = [] := by simpa using hn
        rw [e] at ha
        have hpk := rPeek_rt (c := b) (l := r ++ l) (by simpa using ha)
        rw [hpk, if_neg (by omega), hf, hse]
        rfl
  have ha2 : At bs (s.adv (pHead t.final_ t.supers).length) (pComp t.comp ++ l) := At.adv (by simpa using ha)
  unfold rSub
  rw [hH]
  simp only
  rw [hc bs _ l ha2]
  simp [RdS.told, ha.ok, adv_adv]

theorem pRecB_big (a b : SubT) (l : List SubT) : pRecB (a :: b :: l) = 78 :: pList pSub (a :: b :: l) := rfl
theorem rRec_rt (l : List SubT) (hp : l.all plainSub = true) (hn : l ≠ []) (hl : l.length < 4294967296) (hs : ∀ t, t ∈ l → SmallSub t) : RT rRec (pRecB l) l := fun bs s r ha => by
  match l, hn with
  | [t], _ =>
    simp only [pRecB] at ha ⊢
    obtain ⟨b, q, e, n1⟩ := pSub_head t
    have hpk : rPeek bs s = b.toNat := by
      rw [e] at ha
      exact rPeek_rt (c := b) (l := q ++ r) (by simpa using ha)
    unfold rRec
    rw [hpk, if_neg n1, rSub_rt t (by simpa using hp) (hs t (by simp)) bs s r ha]
    simp [RdS.told, ha.ok]
  | x :: y :: q, _ =>
    rw [pRecB_big] at ha ⊢
    have hpk := rPeek_rt (c := 78) (l := pList pSub (x :: y :: q) ++ r) (by simpa using ha)
    have ha1 : At bs (s.adv 1) (pList pSub (x :: y :: q) ++ r) := At.adv (b := [78]) (by simpa using ha)
    have h1 := pListF_rt (F := rSub) (put := pSub) (x :: y :: q) hl (fun t ht => ⟨rSub_rt t (List.all_eq_true.1 hp t ht) (hs t ht), by
      obtain ⟨b, q, e, _⟩ := pSub_head t; rw [e]; simp⟩) bs _ r ha1
    have h1 : rList bs (rSub bs) s.next = (x :: y :: q, (s.adv 1).adv (pList pSub (x :: y :: q)).length) := h1
    unfold rRec
    rw [hpk, if_pos (by decide), h1, adv_adv]
    simp [Nat.add_comm]

end Go.Proofs.YtokneepfknepaaaDoor

set_option linter.unusedSimpArgs false
set_option linter.unusedVariables false
namespace Go.Proofs.YtokneepfknepaaaDoor

/-- A check behind a read: an error at the place where it began. -/
def pBad {α : Type} (c : Bool) (e : Int) (a : Nat) (x : α) : Pars α := fun _ s => (x, if c then s.fail e a else s)
theorem pBad_stuck {α : Type} (c : Bool) (e : Int) (a : Nat) (x : α) : Stuck (pBad c e a x) := fun bs s h => by
  unfold pBad
  split
  · exact fail_stuck h _ _
  · rfl
theorem pBad_rt {α : Type} {c : Bool} (h : c = false) (e : Int) (a : Nat) (x : α) : RT (pBad c e a x) [] x := fun bs s l _ => by
  subst h
  rfl
theorem pBad_fails {α : Type} {c : Bool} (h : c = true) {e : Int} (he : e ≠ 0) (a : Nat) (x : α) : Fails (pBad c e a x) := fun bs s h0 => by
  subst h
  unfold pBad
  rw [if_pos rfl, fail_ok h0 he]
  exact he
theorem pBad_back {α : Type} (c : Bool) {e : Int} (he : e ≠ 0) (a : Nat) (x : α) : Back (pBad c e a x) fun y k => c = false ∧ y = x ∧ k = 0 := by
  cases hc : c
  · exact fun bs s _ ha _ => ⟨0, (adv_zero s).symm, by omega, rfl, rfl, rfl⟩
  · exact (pBad_fails rfl he a x).back _
theorem pBad_cut {α : Type} (c : Bool) {e : Int} (he : e ≠ 0) (a : Nat) (x : α) : Cut (pBad c e a x) := by
  cases hc : c
  · exact pRet_cut x
  · exact (pBad_fails rfl he a x).cut

/- Opcodes. -/
def opsOf (l : List (Int × List UInt8)) : List Int := l.flatMap fun p => (List.range p.2.length).map fun (k : Nat) => p.1 + (k : Int)
theorem findL_mem (op : Int) : ∀ (l : List (Int × List UInt8)) (k : Int), 0 ≤ (findL l op k).1 → op ∈ opsOf l
  | [], _, h => by simp [findL] at h
  | (f, s) :: r, k, h => by
    unfold findL at h
    unfold opsOf
    rw [List.flatMap_cons, List.mem_append]
    by_cases hc : f ≤ op ∧ op - f < s.length
    · left
      rw [if_pos hc] at h
      have e1 : (op - f).toNat < s.length := by omega
      have e2 : f + (((op - f).toNat : Nat) : Int) = op := by omega
      exact List.mem_map.2 ⟨_, List.mem_range.2 e1, e2⟩
    · right
      rw [if_neg hc] at h
      exact findL_mem op r _ h
def opOk (op : Int) : Bool := decide (0 ≤ op) && (decide (op < 251) || decide (op / 256 = 251) || decide (op / 256 = 252)) && !knownP op && decide (shapeP op ≠ 0)
set_option maxRecDepth 100000 in
theorem ops_ok : (opsOf runsL).all opOk = true := by decide +kernel
theorem shape_ok {op : Int} (h : shapeP op ≠ 0) : 0 ≤ op ∧ (op < 251 ∨ op / 256 = 251 ∨ op / 256 = 252) ∧ knownP op = false := by
  have h1 : 0 ≤ (findL runsL op 0).1 := by
    unfold shapeP at h
    split at h
    · exact absurd rfl h
    · omega
  have h2 := List.all_eq_true.1 ops_ok op (findL_mem op runsL 0 h1)
  unfold opOk at h2
  simp only [Bool.and_eq_true, Bool.or_eq_true, decide_eq_true_eq, Bool.not_eq_true'] at h2
  obtain ⟨⟨⟨a, b⟩, c⟩, _⟩ := h2
  exact ⟨a, by omega, c⟩
theorem opEnd_ok {op : Int} (h : shapeP op ≠ 0) (a : Nat) (s : RdS) : rOpEnd op a s = (op, s) := by
  unfold rOpEnd
  rw [(shape_ok h).2.2, if_neg h]
  rfl
def pOpEnd (op : Int) (a : Nat) : Pars Int := fun _ s => rOpEnd op a s
theorem pOpEnd_eq (op : Int) (a : Nat) : pOpEnd op a = pBad (knownP op || decide (shapeP op = 0)) (if knownP op then 61 else 60) a op := by
  funext bs s
  unfold pOpEnd pBad rOpEnd
  cases knownP op
  · by_cases h : shapeP op = 0
    · simp [h]
    · simp [h]
  · simp
theorem opErr (op : Int) : (if knownP op then (61 : Int) else 60) ≠ 0 := by split <;> decide
theorem rU32_back : Back (fun bs => rU bs 32) fun x k => (putU x).length ≤ k ∧ x ≤ 4294967295 := (rU_back 32 (by decide) (by decide)).mono fun x k h => ⟨h.1, by have := h.2; omega⟩
def rOpN (a c n : Nat) : Pars Int := fun bs s => if 255 < n then (0, s.fail 60 a) else pOpEnd ((c : Int) * 256 + n) a bs s
def rOpG (a c : Nat) : Pars Int := fun bs s => if c = 251 ∨ c = 252 then pBind (fun bs => rU bs 32) (fun _ n => rOpN a c n) bs s else pOpEnd c a bs s
theorem rOp_bind : rOp = pBind rByte rOpG := by
  funext bs s
  unfold rOp pBind rOpG
  by_cases h : (rByte bs s).1 = 251 ∨ (rByte bs s).1 = 252
  · rw [if_pos h, if_pos h]; rfl
  · rw [if_neg h, if_neg h]; rfl
theorem rOp_rt {op : Int} (h : shapeP op ≠ 0) : RT rOp (pOp op) op := by
  obtain ⟨h0, h1, h2⟩ := shape_ok h
  rw [rOp_bind]
  unfold pOp
  by_cases hs : op < 256
  · have hb : op < 251 := by omega
    rw [if_pos hs]
    have e : (UInt8.ofNat op.toNat).toNat = op.toNat := u8_ofNat _ (by omega)
    have := RT.bind (rByte_rt (UInt8.ofNat op.toNat)) (G := rOpG) (b2 := []) (y := op) (fun a bs s l _ => by
      unfold rOpG
      rw [e, if_neg (by omega)]
      show rOpEnd _ a s = _
      rw [show ((op.toNat : Nat) : Int) = op by omega, opEnd_ok h]
      rfl)
    simpa using this
  · rw [if_neg hs]
    have e : (UInt8.ofNat (op / 256).toNat).toNat = (op / 256).toNat := u8_ofNat _ (by omega)
    refine RT.bind (rByte_rt (UInt8.ofNat (op / 256).toNat)) (G := rOpG) (b2 := pNum (op % 256)) (y := op) (fun a bs s l hl => ?_)
    unfold rOpG
    rw [e, if_pos (by omega)]
    have := RT.bind (rU_rt 32 (op % 256).toNat (by decide) (by decide) (by omega)) (G := fun _ n => rOpN a (op / 256).toNat n) (b2 := []) (y := op) (fun a' bs s l _ => by
      unfold rOpN
      rw [if_neg (by omega)]
      show rOpEnd _ a s = _
      rw [show (((op / 256).toNat : Nat) : Int) * 256 + ((op % 256).toNat : Nat) = op by omega, opEnd_ok h]
      rfl)
    rw [List.append_nil] at this
    exact this bs s l hl
theorem pOp_pos (op : Int) : 1 ≤ (pOp op).length := by
  unfold pOp
  split <;> simp
def OpP (op : Int) (k : Nat) : Prop := shapeP op ≠ 0 ∧ (pOp op).length ≤ k ∧ 1 ≤ k
theorem pOpEnd_back (op : Int) (a : Nat) : Back (pOpEnd op a) fun x k => x = op ∧ shapeP op ≠ 0 ∧ k = 0 := by
  rw [pOpEnd_eq]
  refine (pBad_back _ (opErr op) a op).mono fun x k ⟨h1, h2, h3⟩ => ⟨h2, ?_, h3⟩
  simp only [Bool.or_eq_false_iff, decide_eq_false_iff_not] at h1
  exact h1.2
theorem pOpEnd_cut (op : Int) (a : Nat) : Cut (pOpEnd op a) := by rw [pOpEnd_eq]; exact pBad_cut _ (opErr op) a op
theorem pOpEnd_stuck (op : Int) (a : Nat) : Stuck (pOpEnd op a) := by rw [pOpEnd_eq]; exact pBad_stuck _ _ a op
theorem rOpN_stuck (a c n : Nat) : Stuck (rOpN a c n) := fun bs s h => by
  unfold rOpN
  split
  · exact fail_stuck h _ _
  · exact pOpEnd_stuck _ _ bs s h
theorem rOpN_back (a c n : Nat) : Back (rOpN a c n) fun x k => x = (c : Int) * 256 + n ∧ n ≤ 255 ∧ shapeP x ≠ 0 ∧ k = 0 := by
  by_cases h : 255 < n
  · have : Fails (rOpN a c n) := fun bs s he => by
      unfold rOpN
      rw [if_pos h, fail_ok he (by decide)]
      show (60 : Int) ≠ 0
      decide
    exact this.back _
  · have : rOpN a c n = pOpEnd ((c : Int) * 256 + n) a := by
      funext bs s
      unfold rOpN
      rw [if_neg h]
    rw [this]
    refine (pOpEnd_back _ _).mono fun x k ⟨h1, h2, h3⟩ => ⟨h1, by omega, by rw [h1]; exact h2, h3⟩
theorem rOpN_cut (a c n : Nat) : Cut (rOpN a c n) := by
  by_cases h : 255 < n
  · have : Fails (rOpN a c n) := fun bs s he => by
      unfold rOpN
      rw [if_pos h, fail_ok he (by decide)]
      show (60 : Int) ≠ 0
      decide
    exact this.cut
  · have : rOpN a c n = pOpEnd ((c : Int) * 256 + n) a := by
      funext bs s
      unfold rOpN
      rw [if_neg h]
    rw [this]
    exact pOpEnd_cut _ _
theorem rOpG_back (a c : Nat) (hc : c < 256) : Back (rOpG a c) fun x k => shapeP x ≠ 0 ∧ (pOp x).length ≤ 1 + k := by
  by_cases h : c = 251 ∨ c = 252
  · have : rOpG a c = pBind (fun bs => rU bs 32) (fun _ n => rOpN a c n) := by
      funext bs s
      unfold rOpG
      rw [if_pos h]
    rw [this]
    refine (Back.bind (G := fun _ n => rOpN a c n) (Q := fun n x k => x = (c : Int) * 256 + n ∧ n ≤ 255 ∧ shapeP x ≠ 0 ∧ k = 0) rU32_back (rU_stuck 32) (fun bs s _ => rOpN_stuck a c _) (fun a' n k _ => rOpN_back a c n)).mono ?_
    rintro x k ⟨n, k1, k2, rfl, ⟨h1, hb⟩, h2, h3, h4, h5⟩
    clear hb
    refine ⟨h4, ?_⟩
    subst h2
    unfold pOp
    rw [if_neg (by omega), show (((c : Int) * 256 + n) % 256) = n by omega]
    simp only [List.length_cons, pNum, Int.toNat_natCast]
    omega
  · have : rOpG a c = pOpEnd c a := by
      funext bs s
      unfold rOpG
      rw [if_neg h]
    rw [this]
    refine (pOpEnd_back _ _).mono ?_
    rintro x k ⟨rfl, h2, rfl⟩
    refine ⟨h2, ?_⟩
    unfold pOp
    rw [if_pos (by omega)]
    simp
theorem rOpG_cut (a c : Nat) : Cut (rOpG a c) := by
  by_cases h : c = 251 ∨ c = 252
  · have : rOpG a c = pBind (fun bs => rU bs 32) (fun _ n => rOpN a c n) := by
      funext bs s
      unfold rOpG
      rw [if_pos h]
    rw [this]
    exact Cut.bind (G := fun _ n => rOpN a c n) (Q := fun n x k => x = (c : Int) * 256 + n ∧ n ≤ 255 ∧ shapeP x ≠ 0 ∧ k = 0) rU32_back (rU_cut 32) (fun bs s _ => rOpN_stuck a c _) (fun a' n k _ => rOpN_back a c n) (fun a' n k _ => rOpN_cut a c n)
  · have : rOpG a c = pOpEnd c a := by
      funext bs s
      unfold rOpG
      rw [if_neg h]
    rw [this]
    exact pOpEnd_cut _ _
theorem rOpG_stuck0 (a : Nat) : Stuck (rOpG a 0) := fun bs s h => by
  unfold rOpG
  rw [if_neg (by omega)]
  exact pOpEnd_stuck _ _ bs s h
theorem rOp_stuck : Stuck rOp := fun bs s h => by
  rw [rOp_bind]
  unfold pBind
  have h1 := rByte_stuck bs s h
  have h2 := rByte_errz bs s (by rw [h1]; exact h)
  rw [h2, rOpG_stuck0 _ bs _ (by rw [h1]; exact h), h1]
theorem rOp_back : Back rOp OpP := by
  rw [rOp_bind]
  refine (Back.bind rByte_back rByte_stuck (fun bs s hc => rByteZ rOpG_stuck0 bs s hc) (fun a c k hk => rOpG_back a c hk.2)).mono ?_
  rintro x k ⟨c, k1, k2, rfl, ⟨rfl, _⟩, h1, h2⟩
  exact ⟨h1, by omega, by omega⟩
theorem rOp_cut : Cut rOp := by
  rw [rOp_bind]
  exact Cut.bind rByte_back rByte_cut (fun bs s hc => rByteZ rOpG_stuck0 bs s hc) (fun a c k hk => rOpG_back a c hk.2) (fun a c k _ => rOpG_cut a c)
end Go.Proofs.YtokneepfknepaaaDoor

set_option linter.unusedSimpArgs false
set_option linter.unusedVariables false
namespace Go.Proofs.YtokneepfknepaaaDoor

/-- A parser that stays behind an error, reads what P says, and is refused where it is cut. -/
structure Good {α : Type} (F : Pars α) (P : α → Nat → Prop) : Prop where
  stuck : Stuck F
  back : Back F P
  cut : Cut F
theorem Good.mono {α : Type} {F : Pars α} {P Q : α → Nat → Prop} (h : Good F P) (hq : ∀ x k, P x k → Q x k) : Good F Q := ⟨h.stuck, h.back.mono hq, h.cut⟩
theorem Good.bind {α β : Type} {F : Pars α} {G : Nat → α → Pars β} {P : α → Nat → Prop} {Q : α → β → Nat → Prop} (hF : Good F P) (hS : ∀ a x, Stuck (G a x)) (hG : ∀ a x k, P x k → Good (G a x) (Q x)) :
    Good (pBind F G) (fun y k => ∃ x k1 k2, k = k1 + k2 ∧ P x k1 ∧ Q x y k2) :=
  ⟨fun bs s h => by
      unfold pBind
      have h1 := hF.stuck bs s h
      rw [hS _ _ bs _ (by rw [h1]; exact h), h1],
    Back.bind hF.back hF.stuck (fun _ _ _ => hS _ _) (fun a x k h => (hG a x k h).back),
    Cut.bind hF.back hF.cut (fun _ _ _ => hS _ _) (fun a x k h => (hG a x k h).back) (fun a x k h => (hG a x k h).cut)⟩
theorem Good.map {α β : Type} {F : Pars α} {P : α → Nat → Prop} (h : Good F P) (m : α → β) : Good (pMap F m) (fun y k => ∃ x, y = m x ∧ P x k) :=
  ⟨h.stuck, pMap_back h.back m fun x _ hp => ⟨x, rfl, hp⟩, pMap_cut h.cut m⟩
theorem Good.ret {α : Type} (x : α) : Good (pRet x) (fun y k => y = x ∧ k = 0) := ⟨pRet_stuck x, pRet_back ⟨rfl, rfl⟩, pRet_cut x⟩
theorem Good.bad {α : Type} (c : Bool) {e : Int} (he : e ≠ 0) (a : Nat) (x : α) : Good (pBad c e a x) (fun y k => c = false ∧ y = x ∧ k = 0) := ⟨pBad_stuck c e a x, pBad_back c he a x, pBad_cut c he a x⟩
theorem Good.alike {α : Type} {F G : Pars α} {P : α → Nat → Prop} (h : Alike F G) (hG : Good G P) : Good F P := ⟨h.stuck hG.stuck, h.back hG.back, h.cut hG.cut⟩

theorem rByte_good : Good rByte fun x k => k = 1 ∧ x < 256 := ⟨rByte_stuck, rByte_back, rByte_cut⟩
theorem rU32_good : Good (fun bs => rU bs 32) fun x k => (putU x).length ≤ k ∧ x ≤ 4294967295 := ⟨rU_stuck 32, rU32_back, rU_cut 32⟩
theorem rOp_good : Good rOp OpP := ⟨rOp_stuck, rOp_back, rOp_cut⟩
theorem rHeap_good : Good rHeap HeapP := ⟨rHeap_stuck, rHeap_back, rHeap_cut⟩
theorem rVals_good : Good rVals (ListP plainVal pVal) := ⟨rVals_stuck, rVals_back, rVals_cut⟩

/- Indices. -/
def NumP (n : Int) (k : Nat) : Prop := idx n = true ∧ (pNum n).length ≤ k ∧ 1 ≤ k
theorem idx_iff (n : Int) : idx n = true ↔ 0 ≤ n ∧ n ≤ 4294967295 := by simp [idx]
theorem rNum_eq : rNum = pMap (fun bs => rU bs 32) fun n => (n : Int) := rfl
theorem rNum_good : Good rNum NumP := by
  rw [rNum_eq]
  refine (rU32_good.map _).mono ?_
  rintro y k ⟨x, rfl, h1, h2⟩
  have := putU_pos x
  exact ⟨(idx_iff _).2 (by omega), by simpa [pNum] using h1, by omega⟩
theorem rNum_rt {n : Int} (h : idx n = true) : RT rNum (pNum n) n := by
  rw [idx_iff] at h
  rw [rNum_eq]
  have := (rU_rt 32 n.toNat (by decide) (by decide) (by omega)).map (fun n : Nat => (n : Int))
  rwa [show ((n.toNat : Nat) : Int) = n by omega] at this
theorem pNum_pos (n : Int) : 1 ≤ (pNum n).length := putU_pos _
theorem pNum_one {n : Int} (h : n < 128) : (pNum n).length = 1 := by
  unfold pNum
  rw [putU_small _ (by omega)]
  rfl

/- Lists. -/
def pListN {α : Type} (F : Pars α) : Pars (List α) := fun bs s => rListN bs (F bs) s
theorem pListN_alike {α : Type} (F : Pars α) : Alike (pListN F) (pListF F) := fun bs s => ⟨rfl, fun h => by
  show _ = RdS.told _ _ _
  unfold RdS.told
  have h : (rMany (F bs) (rCount bs s).1 (rCount bs s).2).2.err = 0 := h
  rw [if_pos h]
  rfl⟩
theorem pListN_good {α : Type} {F : Pars α} {P : α → Nat → Prop} {pl : α → Bool} {put : α → List UInt8} (hF : Good F P) (hP : ∀ x k, P x k → pl x = true ∧ (put x).length ≤ k ∧ 1 ≤ k) : Good (pListN F) (ListP pl put) :=
  Good.alike (pListN_alike F) ⟨pListF_stuck F, pListF_back hF.back hP, pListF_cut hF.back hF.cut fun x k h => (hP x k h).2.2⟩
theorem pListN_rt {α : Type} {F : Pars α} {put : α → List UInt8} (l : List α) (hn : l.length < 4294967296) (h : ∀ x, x ∈ l → RT F (put x) x ∧ 1 ≤ (put x).length) : RT (pListN F) (pList put l) l :=
  RT.alike (pListN_alike F) (pListF_rt l hn h)

/- A byte that is not above another one. -/
def pChoice (most : Nat) : Pars Nat := fun bs s => rChoice bs most s
theorem pChoice_bind (most : Nat) : pChoice most = pBind rByte fun a c => pBad (decide (most < c)) 60 a c := by
  funext bs s
  unfold pChoice rChoice pBind pBad
  by_cases h : most < (rByte bs s).1
  · rw [if_pos h]; simp [h]
  · rw [if_neg h]; simp [h]
theorem pChoice_good (most : Nat) : Good (pChoice most) fun x k => x ≤ most ∧ k = 1 := by
  rw [pChoice_bind]
  refine (rByte_good.bind (G := fun a c => pBad (decide (most < c)) 60 a c) (Q := fun c y k => decide (most < c) = false ∧ y = c ∧ k = 0) (fun a c => pBad_stuck _ 60 a c) (fun a c k _ => Good.bad _ (by decide) a c)).mono ?_
  rintro x k ⟨c, k1, k2, rfl, ⟨rfl, _⟩, h1, rfl, rfl⟩
  exact ⟨by simpa using h1, rfl⟩
theorem pChoice_rt (most : Nat) (c : UInt8) (h : c.toNat ≤ most) : RT (pChoice most) [c] c.toNat := by
  rw [pChoice_bind]
  have := (rByte_rt c).bind (G := fun a c => pBad (decide (most < c)) 60 a c) (b2 := []) (y := c.toNat) (fun a => pBad_rt (by simp; omega) 60 a _)
  simpa using this

/- What stands behind a load or a store. -/
theorem rMemX_bind : rMemX = pBind rNum fun a x => pBad (decide (127 < x)) 60 a x := by
  funext bs s
  unfold rMemX pBind pBad
  by_cases h : 127 < (rNum bs s).1
  · rw [if_pos h]; simp [h]
  · rw [if_neg h]; simp [h]
def rMemYG (_ : Nat) (x : Int) : Pars (Int × Int) := if 64 ≤ x then pMap rNum fun y => (x - 64, y) else pRet (x, 0)
theorem rMemY_bind : rMemY = pBind rMemX rMemYG := by
  funext bs s
  unfold rMemY pBind rMemYG
  by_cases h : 64 ≤ (rMemX bs s).1
  · rw [if_pos h, if_pos h]; rfl
  · rw [if_neg h, if_neg h]; rfl
def rMemUG (_ : Nat) (p : Int × Int) : Pars (Int × Int × Nat) := pMap (fun bs => rU bs 64) fun u => (p.1, p.2, u)
def rMem : Pars (Int × Int × Nat) := pBind rMemY rMemUG
theorem rMemX_good : Good rMemX fun x k => 0 ≤ x ∧ x ≤ 127 ∧ 1 ≤ k := by
  rw [rMemX_bind]
  refine (rNum_good.bind (G := fun a x => pBad (decide (127 < x)) 60 a x) (Q := fun c y k => decide (127 < c) = false ∧ y = c ∧ k = 0) (fun a c => pBad_stuck _ 60 a c) (fun a c k _ => Good.bad _ (by decide) a c)).mono ?_
  rintro x k ⟨c, k1, k2, rfl, ⟨h0, _, h2⟩, h1, rfl, rfl⟩
  rw [idx_iff] at h0
  simp only [decide_eq_false_iff_not] at h1
  exact ⟨by omega, by omega, by omega⟩
theorem rMemYG_stuck (a : Nat) (x : Int) : Stuck (rMemYG a x) := by
  unfold rMemYG
  split
  · exact rNum_good.stuck
  · exact pRet_stuck _
def memB (x y : Int) : List UInt8 := if y = 0 then pNum x else pNum (x + 64) ++ pNum y
theorem rMemY_good : Good rMemY fun p k => 0 ≤ p.1 ∧ p.1 < 64 ∧ idx p.2 = true ∧ (memB p.1 p.2).length ≤ k := by
  rw [rMemY_bind]
  refine (rMemX_good.bind rMemYG_stuck (Q := fun x p k => if 64 ≤ x then p.1 = x - 64 ∧ NumP p.2 k else p = (x, 0) ∧ k = 0) (fun a x k _ => ?_)).mono ?_
  · unfold rMemYG
    by_cases h : 64 ≤ x
    · rw [if_pos h]
      refine (rNum_good.map _).mono ?_
      rintro p k ⟨y, rfl, hy⟩
      rw [if_pos h]
      exact ⟨rfl, hy⟩
    · rw [if_neg h]
      refine (Good.ret _).mono ?_
      rintro p k ⟨rfl, rfl⟩
      rw [if_neg h]
      exact ⟨rfl, rfl⟩
  · rintro ⟨p, q⟩ k ⟨x, k1, k2, rfl, ⟨h1, h2, h3⟩, h4⟩
    by_cases h : 64 ≤ x
    · rw [if_pos h] at h4
      obtain ⟨h5, h6, h7, h8⟩ := h4
      dsimp only at h5 h6 h7 ⊢
      subst h5
      refine ⟨by omega, by omega, h6, ?_⟩
      unfold memB
      split
      · rw [pNum_one (by omega)]; omega
      · rw [List.length_append, pNum_one (by omega)]; omega
    · rw [if_neg h] at h4
      obtain ⟨h5, rfl⟩ := h4
      injection h5 with h5 h6
      subst h5 h6
      refine ⟨by omega, by omega, rfl, ?_⟩
      dsimp only
      unfold memB
      rw [if_pos rfl, pNum_one (by omega)]
      omega
theorem rU64_good : Good (fun bs => rU bs 64) fun x k => (putU x).length ≤ k ∧ x < 18446744073709551616 := ⟨rU_stuck 64, (rU_back 64 (by decide) (by decide)).mono fun x k h => ⟨h.1, by have := h.2; omega⟩, rU_cut 64⟩
theorem rMem_good : Good rMem fun p k => 0 ≤ p.1 ∧ p.1 < 64 ∧ idx p.2.1 = true ∧ (memB p.1 p.2.1 ++ putU p.2.2).length ≤ k ∧ p.2.2 < 18446744073709551616 := by
  refine (rMemY_good.bind (G := rMemUG) (fun a x => rU64_good.stuck) (fun a x k _ => rU64_good.map _)).mono ?_
  rintro ⟨p, q, u⟩ k ⟨⟨x, y⟩, k1, k2, rfl, ⟨h1, h2, h3, h4⟩, z, h5, h6, h9⟩
  injection h5 with h5 h7
  injection h7 with h7 h8
  subst h5 h7 h8
  refine ⟨h1, h2, h3, ?_, h9⟩
  rw [List.length_append]
  dsimp only at h4 ⊢
  omega
theorem rMem_rt {x y : Int} {u : Nat} (h1 : 0 ≤ x) (h2 : x < 64) (h3 : idx y = true) (h4 : u < 18446744073709551616) : RT rMem (memB x y ++ putU u) (x, y, u) := by
  refine RT.bind (x := (x, y)) ?_ (fun a => (rU_rt 64 u (by decide) (by decide) (by omega)).map _)
  rw [rMemY_bind]
  unfold memB
  by_cases hy : y = 0
  · rw [if_pos hy]
    have h5 : RT rMemX (pNum x) x := by
      rw [rMemX_bind]
      have := (rNum_rt ((idx_iff x).2 (by omega))).bind (G := fun a x => pBad (decide (127 < x)) 60 a x) (b2 := []) (y := x) (fun a => pBad_rt (by simp; omega) 60 a _)
      simpa using this
    have := h5.bind (G := rMemYG) (b2 := []) (y := (x, y)) (fun a => by
      unfold rMemYG
      rw [if_neg (by omega), hy]
      exact RT.ret _)
    simpa using this
  · rw [if_neg hy]
    have h5 : RT rMemX (pNum (x + 64)) (x + 64) := by
      rw [rMemX_bind]
      have := (rNum_rt ((idx_iff (x + 64)).2 (by omega))).bind (G := fun a x => pBad (decide (127 < x)) 60 a x) (b2 := []) (y := x + 64) (fun a => pBad_rt (by simp; omega) 60 a _)
      simpa using this
    refine h5.bind (G := rMemYG) (fun a => ?_)
    unfold rMemYG
    rw [if_pos (by omega)]
    rw [show x + 64 - 64 = x by omega]
    exact (rNum_rt h3).map _

/- What is caught. -/
def rCatchTG (_ : Nat) (c : Nat) : Pars (Int × Int) := if c < 2 then pMap rNum fun t => ((c : Int), t) else pRet ((c : Int), 0)
theorem rCatchT_bind : rCatchT = pBind (pChoice 3) rCatchTG := by
  funext bs s
  unfold rCatchT pBind rCatchTG pChoice
  by_cases h : (rChoice bs 3 s).1 < 2
  · rw [if_pos h, if_pos h]; rfl
  · rw [if_neg h, if_neg h]; rfl
def rCatchG (_ : Nat) (p : Int × Int) : Pars CatchT := pMap rNum fun l => ⟨p.1, p.2, l⟩
theorem rCatch_bind : rCatch = pBind rCatchT rCatchG := rfl
theorem rCatchTG_stuck (a c : Nat) : Stuck (rCatchTG a c) := by
  unfold rCatchTG
  split
  · exact rNum_good.stuck
  · exact pRet_stuck _
def CatchTP (p : Int × Int) (k : Nat) : Prop := 0 ≤ p.1 ∧ p.1 ≤ 3 ∧ (if p.1 < 2 then idx p.2 = true ∧ 1 + (pNum p.2).length ≤ k else p.2 = 0 ∧ 1 ≤ k)
theorem rCatchT_good : Good rCatchT CatchTP := by
  rw [rCatchT_bind]
  refine ((pChoice_good 3).bind rCatchTG_stuck (Q := fun (c : Nat) (p : Int × Int) k => p.1 = (c : Int) ∧ if c < 2 then NumP p.2 k else p.2 = 0) (fun a c k _ => ?_)).mono ?_
  · unfold rCatchTG
    by_cases h : c < 2
    · rw [if_pos h]
      refine (rNum_good.map _).mono ?_
      rintro p k ⟨y, rfl, hy⟩
      rw [if_pos h]
      exact ⟨rfl, hy⟩
    · rw [if_neg h]
      refine (Good.ret _).mono ?_
      rintro p k ⟨rfl, rfl⟩
      rw [if_neg h]
      exact ⟨rfl, rfl⟩
  · rintro ⟨p, q⟩ k ⟨c, k1, k2, rfl, ⟨h1, rfl⟩, h2, h3⟩
    dsimp only at h2 h3
    subst h2
    refine ⟨by simp, by simp; omega, ?_⟩
    dsimp only
    by_cases h : c < 2
    · rw [if_pos h] at h3
      rw [if_pos (by omega)]
      exact ⟨h3.1, by have := h3.2.1; omega⟩
    · rw [if_neg h] at h3
      rw [if_neg (by omega)]
      exact ⟨h3, by omega⟩
def CatchP (c : CatchT) (k : Nat) : Prop := mayCatch c = true ∧ (pCatch c).length ≤ k ∧ 1 ≤ k
theorem mayCatch_iff (c : CatchT) : mayCatch c = true ↔ 0 ≤ c.kind ∧ c.kind ≤ 3 ∧ idx c.label = true ∧ (if c.kind < 2 then idx c.tag = true else c.tag = 0) := by
  unfold mayCatch
  by_cases h1 : c.kind = 0 ∨ c.kind = 1
  · rw [if_pos h1, if_pos (by omega), Bool.and_eq_true]
    constructor
    · rintro ⟨a, b⟩; exact ⟨by omega, by omega, b, a⟩
    · rintro ⟨_, _, a, b⟩; exact ⟨b, a⟩
  · rw [if_neg h1]
    by_cases h2 : c.kind = 2 ∨ c.kind = 3
    · rw [if_pos h2, if_neg (by omega), Bool.and_eq_true, decide_eq_true_eq]
      constructor
      · rintro ⟨a, b⟩; exact ⟨by omega, by omega, b, a⟩
      · rintro ⟨_, _, a, b⟩; exact ⟨b, a⟩
    · rw [if_neg h2]
      constructor
      · intro h; cases h
      · rintro ⟨a, b, _⟩; omega
theorem rCatch_good : Good rCatch CatchP := by
  rw [rCatch_bind]
  refine (rCatchT_good.bind (G := rCatchG) (fun a x => rNum_good.stuck) (fun a x k _ => rNum_good.map _)).mono ?_
  rintro c k ⟨⟨p, q⟩, k1, k2, rfl, ⟨h1, h2, h3⟩, l, rfl, h4, h5, h6⟩
  dsimp only at h1 h2 h3
  refine ⟨(mayCatch_iff _).2 ⟨h1, h2, h4, ?_⟩, ?_, by omega⟩
  · dsimp only
    split at h3
    · rw [if_pos (by assumption)]; exact h3.1
    · rw [if_neg (by assumption)]; exact h3.1
  · unfold pCatch
    dsimp only
    split at h3
    · rw [if_pos (by assumption), List.length_cons, List.length_append]; omega
    · rw [if_neg (by assumption), List.length_cons, List.nil_append]; omega
theorem rCatch_rt {c : CatchT} (h : mayCatch c = true) : RT rCatch (pCatch c) c := by
  obtain ⟨h1, h2, h3, h4⟩ := (mayCatch_iff c).1 h
  obtain ⟨k, t, l⟩ := c
  dsimp only at h1 h2 h3 h4
  have e : (UInt8.ofNat k.toNat).toNat = k.toNat := u8_ofNat _ (by omega)
  have e2 : ((k.toNat : Nat) : Int) = k := by omega
  rw [rCatch_bind]
  have h5 : RT rCatchT (UInt8.ofNat k.toNat :: (if k < 2 then pNum t else [])) (k, t) := by
    rw [rCatchT_bind]
    refine RT.bind (b1 := [UInt8.ofNat k.toNat]) (b2 := if k < 2 then pNum t else []) (pChoice_rt 3 _ (by rw [e]; omega)) (fun a => ?_)
    unfold rCatchTG
    rw [e]
    by_cases hk : k < 2
    · rw [if_pos hk] at h4
      rw [if_pos (by omega), if_pos hk]
      have := (rNum_rt h4).map (fun t => (((k.toNat : Nat) : Int), t))
      rwa [e2] at this ⊢
    · rw [if_neg hk] at h4
      rw [if_neg (by omega), if_neg hk, e2, h4]
      exact RT.ret _
  have h6 := h5.bind (G := rCatchG) (fun a => (rNum_rt h3).map fun l => (⟨k, t, l⟩ : CatchT))
  simpa [pCatch] using h6
theorem pCatch_pos (c : CatchT) : 1 ≤ (pCatch c).length := by simp [pCatch]
end Go.Proofs.YtokneepfknepaaaDoor

set_option linter.unusedSimpArgs false
set_option linter.unusedVariables false
namespace Go.Proofs.YtokneepfknepaaaDoor

def pBlockV (a c : Nat) : Pars BlockT := fun bs s => rBlockV bs c a s
/-- What the byte c alone is, as a value type. -/
def aloneE (c : Nat) : Int := (rVal [UInt8.ofNat c] rOpen).2.err
def aloneV (c : Nat) : ValT := (rVal [UInt8.ofNat c] rOpen).1
def aloneOk (c : Nat) : Bool := (if aloneE c = 0 then plainVal (aloneV c) && decide ((pVal (aloneV c)).length ≤ 1) else true) && (if aloneE c = 10 then decide (c = 99 ∨ c = 100) else true)
set_option maxRecDepth 100000 in
theorem alone_all : (List.range 128).all aloneOk = true := by decide +kernel
theorem alone_ok {c : Nat} (h : c < 128) : (aloneE c = 0 → plainVal (aloneV c) = true ∧ (pVal (aloneV c)).length ≤ 1) ∧ (aloneE c = 10 → c = 99 ∨ c = 100) := by
  have h1 := List.all_eq_true.1 alone_all c (List.mem_range.2 h)
  unfold aloneOk at h1
  rw [Bool.and_eq_true] at h1
  obtain ⟨h1, h2⟩ := h1
  refine ⟨fun h0 => ?_, fun h0 => ?_⟩
  · rw [if_pos h0, Bool.and_eq_true, decide_eq_true_eq] at h1
    exact h1
  · rw [if_pos h0, decide_eq_true_eq] at h2
    exact h2
def BlockP (b : BlockT) (k : Nat) : Prop := mayBlock b = true ∧ (pBlock b).length ≤ 1 + k
theorem mayBlock0 : mayBlock BlockT.zero = true := by decide
theorem mayBlock1 {v : ValT} (h : plainVal v = true) : mayBlock ⟨1, v, 0⟩ = true := by simp [mayBlock, h]
theorem pBlock1 {v : ValT} (h : plainVal v = true) : pBlock ⟨1, v, 0⟩ = pVal v := by simp [pBlock, valB_yes h]
theorem plainHeap_val (n : Bool) (h : HeapT) : plainVal ⟨3, n, h⟩ = plainHeap h := by simp [plainVal, plainHeap]
theorem pVal3 (n : Bool) (h : HeapT) : (pVal ⟨3, n, h⟩).length ≤ 1 + (pHeap h).length := by
  unfold pVal
  simp only
  split
  · omega
  · split
    · omega
    · split
      · simp; omega
      · split
        · simp; omega
        · omega
theorem pBlockV_good (a c : Nat) (hc : c < 128) : Good (pBlockV a c) BlockP := by
  obtain ⟨h0, h10⟩ := alone_ok hc
  by_cases h64 : c = 64
  · have : pBlockV a c = pRet BlockT.zero := by
      funext bs s
      unfold pBlockV rBlockV
      rw [if_pos h64]
      rfl
    rw [this]
    refine (Good.ret _).mono ?_
    rintro x k ⟨rfl, rfl⟩
    exact ⟨mayBlock0, by decide⟩
  · by_cases he : aloneE c = 0
    · have : pBlockV a c = pRet ⟨1, aloneV c, 0⟩ := by
        funext bs s
        unfold pBlockV rBlockV
        unfold aloneE at he
        rw [if_neg h64, if_pos he]
        rfl
      rw [this]
      refine (Good.ret _).mono ?_
      rintro x k ⟨rfl, rfl⟩
      exact ⟨mayBlock1 (h0 he).1, by rw [pBlock1 (h0 he).1]; exact (h0 he).2⟩
    · by_cases he2 : aloneE c = 10
      · have : pBlockV a c = pMap rHeap fun h => ⟨1, ⟨3, c == 99, h⟩, 0⟩ := by
          funext bs s
          unfold pBlockV rBlockV
          unfold aloneE at he he2
          rw [if_neg h64, if_neg he, if_pos he2]
          rfl
        rw [this]
        refine (rHeap_good.map _).mono ?_
        rintro x k ⟨h, rfl, h1, h2, h3⟩
        have hp : plainVal ⟨3, c == 99, h⟩ = true := by rw [plainHeap_val]; exact h1
        refine ⟨mayBlock1 hp, ?_⟩
        rw [pBlock1 hp]
        have := pVal3 (c == 99) h
        omega
      · have : pBlockV a c = pBad true (aloneE c) a BlockT.zero := by
          funext bs s
          unfold pBlockV rBlockV
          unfold aloneE at he he2 ⊢
          rw [if_neg h64, if_neg he, if_neg he2]
          rfl
        rw [this]
        exact (Good.bad true he a BlockT.zero).mono fun x k h => by cases h.1
def rBlockG (a : Nat) (n : Int) : Pars BlockT := fun bs s => if 0 ≤ n then (⟨2, ValT.zero, n⟩, s) else if 1 < s.at_ - a then (BlockT.zero, s.fail 60 a) else rBlockV bs (low7 n) a s
theorem low7_lt (n : Int) : low7 n < 128 := by unfold low7; omega
theorem rBlock_alike : Alike rBlock (pBind (fun bs => rS bs 33) rBlockG) := fun bs s => by
  unfold rBlock pBind rBlockG
  by_cases h : (rS bs 33 s).2.err ≠ 0
  · rw [if_pos h, rS_errz bs 33 s h]
    exact ⟨rfl, fun h2 => absurd h2 h⟩
  · rw [if_neg h]
    exact ⟨rfl, fun _ => rfl⟩
theorem rBlockG_good (a : Nat) (n : Int) (k1 : Nat) (hk : (putS n).length ≤ k1 ∧ n ≤ 4294967295) : Good (rBlockG a n) fun x k => mayBlock x = true ∧ ((pBlock x).length ≤ 1 + k ∨ (pBlock x).length ≤ k1) := by
  by_cases h : 0 ≤ n
  · have : rBlockG a n = pRet ⟨2, ValT.zero, n⟩ := by
      funext bs s
      unfold rBlockG
      rw [if_pos h]
      rfl
    rw [this]
    refine (Good.ret _).mono ?_
    rintro x k ⟨rfl, rfl⟩
    refine ⟨?_, .inr ?_⟩
    · simp [mayBlock, idx, h, hk.2]
    · simpa [pBlock] using hk.1
  · have hV := pBlockV_good a (low7 n) (low7_lt n)
    refine ⟨fun bs s hs => ?_, fun bs s he ha h0 => ?_, fun bs s k he ha hk c hac hc => ?_⟩
    · unfold rBlockG
      rw [if_neg h]
      split
      · exact fail_stuck hs _ _
      · exact hV.stuck bs s hs
    · unfold rBlockG at h0 ⊢
      rw [if_neg h] at h0 ⊢
      by_cases h1 : 1 < s.at_ - a
      · rw [if_pos h1, fail_ok he (by decide)] at h0
        exact absurd h0 (by show (60 : Int) ≠ 0; decide)
      · rw [if_neg h1] at h0 ⊢
        obtain ⟨k, e1, e2, e3⟩ := hV.back bs s he ha h0
        exact ⟨k, e1, e2, e3.1, .inl e3.2⟩
    · by_cases h1 : 1 < s.at_ - a
      · unfold rBlockG at hk
        rw [if_neg h, if_pos h1, fail_ok he (by decide)] at hk
        have := congrArg RdS.err hk
        simp only [adv_err, he] at this
        exact absurd this (by decide)
      · have hE : ∀ bs, rBlockG a n bs s = pBlockV a (low7 n) bs s := fun bs => by
          unfold rBlockG
          rw [if_neg h, if_neg h1]
          rfl
        have := hV.cut bs s k he ha (by rw [← hE]; exact hk) c hac hc
        unfold CutAt at this ⊢
        rw [hE, hE]
        exact this
theorem rBlockG_stuck (a : Nat) (n : Int) : Stuck (rBlockG a n) := fun bs s hs => by
  unfold rBlockG
  split
  · rfl
  · split
    · exact fail_stuck hs _ _
    · exact (pBlockV_good a (low7 n) (low7_lt n)).stuck bs s hs
def BlockQ (b : BlockT) (k : Nat) : Prop := mayBlock b = true ∧ (pBlock b).length ≤ k ∧ 1 ≤ k
theorem rS33_good : Good (fun bs => rS bs 33) fun x k => (putS x).length ≤ k ∧ x ≤ 4294967295 := ⟨rS_stuck 33, (rS_back 33 (by decide) (by decide)).mono fun x k h => ⟨h.1, by have := h.2.2; omega⟩, rS_cut 33⟩
theorem rBlock_good : Good rBlock BlockQ := by
  refine Good.alike rBlock_alike ((rS33_good.bind (G := rBlockG) rBlockG_stuck (Q := fun n x k => mayBlock x = true ∧ ((pBlock x).length ≤ 1 + k ∨ (pBlock x).length ≤ (putS n).length)) (fun a n k hk => rBlockG_good a n (putS n).length ⟨Nat.le_refl _, hk.2⟩)).mono ?_)
  rintro x k ⟨n, k1, k2, rfl, ⟨h1, _⟩, h2, h3⟩
  have := putS_pos n
  exact ⟨h2, by omega, by omega⟩

theorem rBlock_neg {c : Nat} (h1 : 64 ≤ c) (h2 : c < 128) {b2 : List UInt8} {y : BlockT} (hV : ∀ a, RT (pBlockV a c) b2 y) : RT rBlock (UInt8.ofNat c :: b2) y := by
  refine RT.alike rBlock_alike ?_
  have e : putS ((c : Int) - 128) = [UInt8.ofNat c] := by
    rw [putS_small _ (by omega) (by omega)]
    congr 2
    omega
  have hS := rS_rt 33 ((c : Int) - 128) (by decide) (by decide) (by omega) (by omega)
  rw [e] at hS
  intro bs s l h
  have h : At bs s ([UInt8.ofNat c] ++ (b2 ++ l)) := by simpa using h
  unfold pBind
  rw [hS bs s _ h]
  unfold rBlockG
  have h3 : ¬ (0 : Int) ≤ (c : Int) - 128 := by omega
  have h4 : ¬ 1 < (s.adv [UInt8.ofNat c].length).at_ - s.at_ := by simp
  have h5 : low7 ((c : Int) - 128) = c := by unfold low7; omega
  simp only [h3, h4, h5, if_false]
  have := hV s.at_ bs (s.adv [UInt8.ofNat c].length) l h.adv
  unfold pBlockV at this
  rw [this, adv_adv]
  simp [Nat.add_comm]
theorem pBlockV_val {v : ValT} {c : Nat} (h1 : 64 ≤ c) (h2 : c < 128) (h64 : c ≠ 64) (hp : plainVal v = true) (he : pVal v = [UInt8.ofNat c]) (a : Nat) : RT (pBlockV a c) [] ⟨1, v, 0⟩ := by
  have h := rVal_rt v hp [UInt8.ofNat c] rOpen [] ⟨rfl, by simp [rOpen], by simp [rOpen, he]⟩
  intro bs s l _
  have hE : (rVal [UInt8.ofNat c] rOpen).2.err = 0 := by rw [h]; rfl
  have hV : (rVal [UInt8.ofNat c] rOpen).1 = v := by rw [h]
  unfold pBlockV rBlockV
  rw [if_neg h64, if_pos hE, hV]
  rfl
theorem pBlockV_ref {c : Nat} (h : c = 99 ∨ c = 100) {hp : HeapT} (hh : plainHeap hp = true) (a : Nat) : RT (pBlockV a c) (pHeap hp) ⟨1, ⟨3, c == 99, hp⟩, 0⟩ := by
  have e : (rVal [UInt8.ofNat c] rOpen).2.err = 10 := by rcases h with rfl | rfl <;> decide
  intro bs s l hl
  have h64 : c ≠ 64 := by omega
  unfold pBlockV rBlockV
  rw [if_neg h64, if_neg (by rw [e]; decide), if_pos e, rHeap_rt hp hh bs s l hl]
theorem mayBlock_iff (b : BlockT) : mayBlock b = true ↔ b = BlockT.zero ∨ (b.kind = 1 ∧ plainVal b.val = true ∧ b.n = 0) ∨ (b.kind = 2 ∧ b.val = ValT.zero ∧ idx b.n = true) := by
  unfold mayBlock
  by_cases h0 : b.kind = 0
  · rw [if_pos h0, decide_eq_true_eq]
    constructor
    · exact .inl
    · rintro (h | h | h)
      · exact h
      · omega
      · omega
  · have hz : b ≠ BlockT.zero := fun h => h0 (by rw [h]; rfl)
    rw [if_neg h0]
    by_cases h1 : b.kind = 1
    · rw [if_pos h1, Bool.and_eq_true, decide_eq_true_eq]
      constructor
      · rintro ⟨a, c⟩; exact .inr (.inl ⟨h1, a, c⟩)
      · rintro (h | h | h)
        · exact absurd h hz
        · exact h.2
        · omega
    · rw [if_neg h1]
      by_cases h2 : b.kind = 2
      · rw [if_pos h2, Bool.and_eq_true, decide_eq_true_eq]
        constructor
        · rintro ⟨a, c⟩; exact .inr (.inr ⟨h2, a, c⟩)
        · rintro (h | h | h)
          · exact absurd h hz
          · omega
          · exact h.2
      · rw [if_neg h2]
        constructor
        · intro h; cases h
        · rintro (h | h | h)
          · exact absurd h hz
          · omega
          · omega
theorem rBlock_rt {b : BlockT} (h : mayBlock b = true) : RT rBlock (pBlock b) b := by
  rcases (mayBlock_iff b).1 h with rfl | ⟨h1, h2, h3⟩ | ⟨h1, h2, h3⟩
  · exact rBlock_neg (c := 64) (by decide) (by decide) (fun a bs s l _ => rfl)
  · obtain ⟨k, v, n⟩ := b
    dsimp only at h1 h2 h3
    subst h1 h3
    rw [pBlock1 h2]
    obtain ⟨k, nl, hp⟩ := v
    by_cases k1 : k = 1
    · subst k1
      have e : (⟨1, nl, hp⟩ : ValT) = ⟨1, false, ⟨0, 0⟩⟩ := by simpa [plainVal] using h2
      rw [e]
      exact rBlock_neg (c := 127) (by decide) (by decide) (pBlockV_val (by decide) (by decide) (by decide) (by decide) (by decide))
    · by_cases k2 : k = 2
      · subst k2
        have e : (⟨2, nl, hp⟩ : ValT) = ⟨2, false, ⟨0, 0⟩⟩ := by simpa [plainVal] using h2
        rw [e]
        exact rBlock_neg (c := 126) (by decide) (by decide) (pBlockV_val (by decide) (by decide) (by decide) (by decide) (by decide))
      · have k3 : k = 3 := by
          unfold plainVal at h2
          rw [if_neg (by simp only; omega)] at h2
          split at h2
          · assumption
          · cases h2
        subst k3
        have hh : plainHeap hp = true := by rw [← plainHeap_val nl]; exact h2
        cases nl
        · have e : pVal ⟨3, false, hp⟩ = UInt8.ofNat 100 :: pHeap hp := by simp [pVal]
          rw [e]
          exact rBlock_neg (c := 100) (by decide) (by decide) (pBlockV_ref (.inr rfl) hh)
        · by_cases k13 : hp.kind = 13
          · have e : pVal ⟨3, true, hp⟩ = UInt8.ofNat 99 :: pHeap hp := by simp [pVal, k13]
            rw [e]
            exact rBlock_neg (c := 99) (by decide) (by decide) (pBlockV_ref (.inl rfl) hh)
          · have hg : givenH hp = true := by
              unfold plainHeap at hh
              rw [Bool.or_eq_true] at hh
              rcases hh with hh | hh
              · exact hh
              · simp only [indexedH, decide_eq_true_eq] at hh
                exact absurd hh.1 k13
            simp only [givenH, decide_eq_true_eq] at hg
            obtain ⟨g1, g2, g3⟩ := hg
            obtain ⟨c, c1, c2, c3⟩ : ∃ c : Nat, 105 ≤ c ∧ c ≤ 116 ∧ givenK c = hp.kind := by
              obtain ⟨k, n⟩ := hp
              simp only at g1 g2 ⊢
              rcases (show k = 1 ∨ k = 2 ∨ k = 3 ∨ k = 4 ∨ k = 5 ∨ k = 6 ∨ k = 7 ∨ k = 8 ∨ k = 9 ∨ k = 10 ∨ k = 11 ∨ k = 12 by omega) with h | h | h | h | h | h | h | h | h | h | h | h
              all_goals subst h
              · exact ⟨110, by decide, by decide, by decide⟩
              · exact ⟨109, by decide, by decide, by decide⟩
              · exact ⟨108, by decide, by decide, by decide⟩
              · exact ⟨107, by decide, by decide, by decide⟩
              · exact ⟨106, by decide, by decide, by decide⟩
              · exact ⟨113, by decide, by decide, by decide⟩
              · exact ⟨112, by decide, by decide, by decide⟩
              · exact ⟨115, by decide, by decide, by decide⟩
              · exact ⟨111, by decide, by decide, by decide⟩
              · exact ⟨114, by decide, by decide, by decide⟩
              · exact ⟨105, by decide, by decide, by decide⟩
              · exact ⟨116, by decide, by decide, by decide⟩
            have e : pVal ⟨3, true, hp⟩ = [UInt8.ofNat c] := by
              have hb := (givenK_facts (c := c) (by rw [c3]; omega)).2.2.1
              rw [c3] at hb
              unfold pVal
              simp only
              rw [if_neg (by decide), if_neg (by decide), if_neg (by decide), if_neg k13]
              unfold pHeap
              rw [if_neg k13]
              exact hb
            rw [e]
            exact rBlock_neg (c := c) (by omega) (by omega) (pBlockV_val (by omega) (by omega) (by omega) h2 e)
  · obtain ⟨k, v, n⟩ := b
    dsimp only at h1 h2 h3
    subst h1 h2
    rw [idx_iff] at h3
    have e : pBlock ⟨2, ValT.zero, n⟩ = putS n ++ [] := by simp [pBlock]
    rw [e]
    refine RT.alike rBlock_alike ((rS_rt 33 n (by decide) (by decide) (by omega) (by omega)).bind (G := rBlockG) (fun a bs s l _ => ?_))
    unfold rBlockG
    rw [if_pos h3.1]
    rfl
end Go.Proofs.YtokneepfknepaaaDoor

set_option linter.unusedSimpArgs false
set_option linter.unusedVariables false
namespace Go.Proofs.YtokneepfknepaaaDoor

def rArgsF (op : Int) : Pars InstrT := fun bs s => rArgs bs op s
theorem args46 {op : Int} (h : shapeP op = 4 ∨ shapeP op = 6) : rArgsF op = pMap rNum fun x => { InstrT.of op with x := x } := by
  funext bs s; unfold rArgsF rArgs; rw [if_pos h]; rfl
theorem args7 {op : Int} (h : shapeP op = 7) : rArgsF op = pBind rNum fun _ x => pMap rNum fun y => { InstrT.of op with x := x, y := y } := by
  funext bs s; unfold rArgsF rArgs; simp [h]; rfl
theorem args5 {op : Int} (h : shapeP op = 5) : rArgsF op = pBind (pListN rNum) fun _ l => pMap rNum fun x => { InstrT.of op with labels := l, x := x } := by
  funext bs s; unfold rArgsF rArgs; simp [h]; rfl
theorem args8 {op : Int} (h : shapeP op = 8) : rArgsF op = pMap rMem fun p => { InstrT.of op with x := p.1, y := p.2.1, u := p.2.2 } := by
  funext bs s; unfold rArgsF rArgs; simp [h]; rfl
theorem args9 {op : Int} (h : shapeP op = 9) : rArgsF op = pMap (fun bs => rS bs 32) fun n => { InstrT.of op with u := (n % 4294967296).toNat } := by
  funext bs s; unfold rArgsF rArgs; simp [h]; rfl
theorem args10 {op : Int} (h : shapeP op = 10) : rArgsF op = pMap (fun bs => rS bs 64) fun n => { InstrT.of op with u := (n % 18446744073709551616).toNat } := by
  funext bs s; unfold rArgsF rArgs; simp [h]; rfl
theorem args11 {op : Int} (h : shapeP op = 11) : rArgsF op = pMap rHeap fun x => { InstrT.of op with heap := x } := by
  funext bs s; unfold rArgsF rArgs; simp [h]; rfl
theorem args12 {op : Int} (h : shapeP op = 12) : rArgsF op = pMap rVals fun x => { InstrT.of op with types := x } := by
  funext bs s; unfold rArgsF rArgs; simp [h]; rfl
theorem args2 {op : Int} (h : shapeP op = 2) : rArgsF op = pMap rBlock fun x => { InstrT.of op with block := x } := by
  funext bs s; unfold rArgsF rArgs; simp [h]; rfl
theorem args3 {op : Int} (h : shapeP op = 3) : rArgsF op = pBind rBlock fun _ b => pMap (pListN rCatch) fun l => { InstrT.of op with block := b, catches := l } := by
  funext bs s; unfold rArgsF rArgs; simp [h]; rfl
def a13b (op : Int) (c : Nat) (x : Int) (a : HeapT) : Pars InstrT := pMap rHeap fun b => { InstrT.of op with null := c % 2 == 1, null2 := c / 2 % 2 == 1, x := x, heap := a, heap2 := b }
def a13a (op : Int) (c : Nat) (x : Int) : Pars InstrT := pBind rHeap fun _ a => a13b op c x a
def a13x (op : Int) (c : Nat) : Pars InstrT := pBind rNum fun _ x => a13a op c x
theorem args13 {op : Int} (h : shapeP op = 13) : rArgsF op = pBind (pChoice 3) fun _ c => a13x op c := by
  funext bs s; unfold rArgsF rArgs; simp [h]; rfl
def shNone (op : Int) : Prop := shapeP op ≠ 4 ∧ shapeP op ≠ 6 ∧ shapeP op ≠ 7 ∧ shapeP op ≠ 5 ∧ shapeP op ≠ 8 ∧ shapeP op ≠ 9 ∧ shapeP op ≠ 10 ∧ shapeP op ≠ 11 ∧ shapeP op ≠ 12 ∧ shapeP op ≠ 2 ∧ shapeP op ≠ 3 ∧ shapeP op ≠ 13
theorem args1 {op : Int} (h : shNone op) : rArgsF op = pRet (InstrT.of op) := by
  obtain ⟨h4, h6, h7, h5, h8, h9, h10, h11, h12, h2, h3, h13⟩ := h
  funext bs s; unfold rArgsF rArgs; simp [h4, h6, h7, h5, h8, h9, h10, h11, h12, h2, h3, h13]; rfl
theorem shape_cases (op : Int) : shNone op ∨ (shapeP op = 4 ∨ shapeP op = 6) ∨ shapeP op = 7 ∨ shapeP op = 5 ∨ shapeP op = 8 ∨ shapeP op = 9 ∨ shapeP op = 10 ∨ shapeP op = 11 ∨ shapeP op = 12 ∨ shapeP op = 2 ∨ shapeP op = 3 ∨ shapeP op = 13 := by
  unfold shNone; omega

/- What of an instruction may be. -/
theorem mayI_eq {i : InstrT} (h : shapeP i.op ≠ 0) : mayI i = ((mayPart i).1 && decide ((mayPart i).2 = InstrT.of i.op)) := by
  unfold mayI; rw [if_neg h]
theorem mayI_shape {i : InstrT} (h : mayI i = true) : shapeP i.op ≠ 0 := by
  intro h0
  unfold mayI at h
  rw [if_pos h0] at h
  cases h
theorem may46 {op x : Int} (h : shapeP op = 4 ∨ shapeP op = 6) : mayI { InstrT.of op with x := x } = idx x := by
  rw [mayI_eq (by show shapeP op ≠ 0; omega)]
  have h' : shapeP (InstrT.of op).op = 4 ∨ shapeP (InstrT.of op).op = 6 := h
  simp only [mayPart, h', if_true]
  simp [InstrT.of]
theorem inv46 {i : InstrT} (h : shapeP i.op = 4 ∨ shapeP i.op = 6) (hm : mayI i = true) : idx i.x = true ∧ i = { InstrT.of i.op with x := i.x } := by
  rw [mayI_eq (by omega)] at hm
  simp only [mayPart, h, if_true, Bool.and_eq_true, decide_eq_true_eq] at hm
  refine ⟨hm.1, ?_⟩
  obtain ⟨op, x, y, u, a, b, c, d, e, f, g, j⟩ := i
  have := hm.2
  simp only [InstrT.of, InstrT.mk.injEq] at this ⊢
  simp [this]
theorem may_of {i : InstrT} {b : Bool} {j : InstrT} (h : shapeP i.op ≠ 0) (hp : mayPart i = (b, j)) : mayI i = (b && decide (j = InstrT.of i.op)) := by
  rw [mayI_eq h, hp]
theorem part7 {i : InstrT} (h : shapeP i.op = 7) : mayPart i = (idx i.x && idx i.y, { i with x := 0, y := 0 }) := by simp [mayPart, h]
theorem part5 {i : InstrT} (h : shapeP i.op = 5) : mayPart i = (idx i.x && i.labels.all idx, { i with x := 0, labels := [] }) := by simp [mayPart, h]
theorem part8 {i : InstrT} (h : shapeP i.op = 8) : mayPart i = (decide (0 ≤ i.x) && decide (i.x < 64) && idx i.y, { i with x := 0, y := 0, u := 0 }) := by simp [mayPart, h]
theorem part9 {i : InstrT} (h : shapeP i.op = 9) : mayPart i = (decide (i.u < 4294967296), { i with u := 0 }) := by simp [mayPart, h]
theorem part10 {i : InstrT} (h : shapeP i.op = 10) : mayPart i = (true, { i with u := 0 }) := by simp [mayPart, h]
theorem part11 {i : InstrT} (h : shapeP i.op = 11) : mayPart i = (plainH i.heap, { i with heap := HeapT.zero }) := by simp [mayPart, h]
theorem part12 {i : InstrT} (h : shapeP i.op = 12) : mayPart i = (i.types.all plainVal, { i with types := [] }) := by simp [mayPart, h]
theorem part2 {i : InstrT} (h : shapeP i.op = 2) : mayPart i = (mayBlock i.block, { i with block := BlockT.zero }) := by simp [mayPart, h]
theorem part3 {i : InstrT} (h : shapeP i.op = 3) : mayPart i = (mayBlock i.block && i.catches.all mayCatch, { i with block := BlockT.zero, catches := [] }) := by simp [mayPart, h]
theorem part13 {i : InstrT} (h : shapeP i.op = 13) : mayPart i = (idx i.x && plainH i.heap && plainH i.heap2, { i with x := 0, null := false, null2 := false, heap := HeapT.zero, heap2 := HeapT.zero }) := by simp [mayPart, h]
theorem part1 {i : InstrT} (h : shNone i.op) : mayPart i = (true, i) := by
  obtain ⟨h4, h6, h7, h5, h8, h9, h10, h11, h12, h2, h3, h13⟩ := h
  simp [mayPart, h4, h6, h7, h5, h8, h9, h10, h11, h12, h2, h3, h13]

/-- What is read of an instruction: it may be, and what is put of it is no longer. -/
def SmallK (i : InstrT) (k : Nat) : Prop := i.u < 18446744073709551616 ∧ i.labels.length ≤ k ∧ i.types.length ≤ k ∧ i.catches.length ≤ k
def InsP (op : Int) (i : InstrT) (k : Nat) : Prop := i.op = op ∧ mayI i = true ∧ (pRest i).length ≤ k ∧ SmallK i k
theorem smallK0 {i : InstrT} (k : Nat) (hu : i.u = 0) (h1 : i.labels = []) (h2 : i.types = []) (h3 : i.catches = []) : SmallK i k := ⟨by omega, by simp [h1], by simp [h2], by simp [h3]⟩
theorem pList_ge {α : Type} {put : α → List UInt8} {l : List α} {k : Nat} (h : ∀ x, x ∈ l → 1 ≤ (put x).length) (hk : (pList put l).length ≤ k) : l.length ≤ k := by
  have := flat_ge put l h
  simp only [pList, List.length_append] at hk
  omega
theorem rest46 {i : InstrT} (h : shapeP i.op = 4 ∨ shapeP i.op = 6) : pRest i = pNum i.x := by unfold pRest; rw [if_neg (by omega), if_pos h]
theorem rest7 {i : InstrT} (h : shapeP i.op = 7) : pRest i = pNum i.x ++ pNum i.y := by simp [pRest, h]
theorem rest5 {i : InstrT} (h : shapeP i.op = 5) : pRest i = pList pNum i.labels ++ pNum i.x := by simp [pRest, h, pList]
theorem rest8 {i : InstrT} (h : shapeP i.op = 8) : pRest i = memB i.x i.y ++ putU i.u := by simp [pRest, h, memB]
theorem rest9 {i : InstrT} (h : shapeP i.op = 9) : pRest i = putS (toI32 i.u) := by simp [pRest, h]
theorem rest10 {i : InstrT} (h : shapeP i.op = 10) : pRest i = putS (toI64 i.u) := by simp [pRest, h]
theorem rest11 {i : InstrT} (h : shapeP i.op = 11) : pRest i = heapB i.heap := by simp [pRest, h]
theorem rest12 {i : InstrT} (h : shapeP i.op = 12) : pRest i = valsB i.types := by simp [pRest, h]
theorem rest2 {i : InstrT} (h : shapeP i.op = 2) : pRest i = pBlock i.block := by simp [pRest, h]
theorem rest3 {i : InstrT} (h : shapeP i.op = 3) : pRest i = pBlock i.block ++ pList pCatch i.catches := by simp [pRest, h, pList]
theorem rest13 {i : InstrT} (h : shapeP i.op = 13) : pRest i = [pNulls i.null i.null2] ++ (pNum i.x ++ (heapB i.heap ++ heapB i.heap2)) := by simp [pRest, h]
theorem rest1 {i : InstrT} (h : shNone i.op) : pRest i = [] := by
  obtain ⟨h4, h6, h7, h5, h8, h9, h10, h11, h12, h2, h3, h13⟩ := h
  simp [pRest, h4, h6, h7, h5, h8, h9, h10, h11, h12, h2, h3, h13]
theorem heapB_len {h : HeapT} (p : plainHeap h = true) : heapB h = pHeap h := heapB_yes (by rw [plainHeap_val]; exact p)
theorem plainH_eq (h : HeapT) : plainH h = plainHeap h := plainHeap_val false h
theorem toI32_back (n : Int) (h1 : -2147483648 ≤ n) (h2 : n < 2147483648) : toI32 (n % 4294967296).toNat = n := by unfold toI32; split <;> omega
theorem toI64_back (n : Int) (h1 : -9223372036854775808 ≤ n) (h2 : n < 9223372036854775808) : toI64 (n % 18446744073709551616).toNat = n := by unfold toI64; split <;> omega
theorem rS32_good : Good (fun bs => rS bs 32) fun x k => (putS x).length ≤ k ∧ -2147483648 ≤ x ∧ x < 2147483648 := ⟨rS_stuck 32, (rS_back 32 (by decide) (by decide)).mono fun x k h => ⟨h.1, by have := h.2.1; omega, by have := h.2.2; omega⟩, rS_cut 32⟩
theorem rS64_good : Good (fun bs => rS bs 64) fun x k => (putS x).length ≤ k ∧ -9223372036854775808 ≤ x ∧ x < 9223372036854775808 := ⟨rS_stuck 64, (rS_back 64 (by decide) (by decide)).mono fun x k h => ⟨h.1, by have := h.2.1; omega, by have := h.2.2; omega⟩, rS_cut 64⟩

theorem rArgs_good {op : Int} (h0 : shapeP op ≠ 0) : Good (rArgsF op) (InsP op) := by
  rcases shape_cases op with h | h | h | h | h | h | h | h | h | h | h | h
  · rw [args1 h]
    refine (Good.ret _).mono ?_
    rintro i k ⟨rfl, rfl⟩
    exact ⟨rfl, by rw [may_of (i := InstrT.of op) h0 (part1 h)]; simp [InstrT.of], by rw [rest1 (i := InstrT.of op) h]; exact Nat.le_refl _, smallK0 _ rfl rfl rfl rfl⟩
  · rw [args46 h]
    refine (rNum_good.map _).mono ?_
    rintro i k ⟨x, rfl, h1, h2, _⟩
    exact ⟨rfl, by rw [may46 h]; exact h1, by rw [rest46 (i := { InstrT.of op with x := x }) h]; exact h2, smallK0 _ rfl rfl rfl rfl⟩
  · rw [args7 h]
    refine (rNum_good.bind (G := fun _ x => pMap rNum fun y => { InstrT.of op with x := x, y := y }) (fun a x => rNum_good.stuck) (fun a x k _ => rNum_good.map _)).mono ?_
    rintro i k ⟨x, k1, k2, rfl, ⟨h1, h2, _⟩, y, rfl, h3, h4, _⟩
    refine ⟨rfl, ?_, ?_, smallK0 _ rfl rfl rfl rfl⟩
    · rw [may_of (i := { InstrT.of op with x := x, y := y }) h0 (part7 h)]; simp [InstrT.of, h1, h3]
    · rw [rest7 (i := { InstrT.of op with x := x, y := y }) h, List.length_append]; simp only; omega
  · rw [args5 h]
    refine ((pListN_good rNum_good (fun _ _ h => h)).bind (G := fun _ l => pMap rNum fun x => { InstrT.of op with labels := l, x := x }) (fun a x => rNum_good.stuck) (fun a x k _ => rNum_good.map _)).mono ?_
    rintro i k ⟨l, k1, k2, rfl, ⟨h1, h2, _⟩, x, rfl, h3, h4, _⟩
    refine ⟨rfl, ?_, ?_, ⟨(by decide : (0 : Nat) < _), Nat.le_trans (pList_ge (fun x _ => pNum_pos x) h2) (Nat.le_add_right _ _), Nat.zero_le _, Nat.zero_le _⟩⟩
    · rw [may_of (i := { InstrT.of op with labels := l, x := x }) h0 (part5 h)]; simp only [h1, h3]; simp [InstrT.of]
    · rw [rest5 (i := { InstrT.of op with labels := l, x := x }) h, List.length_append]; simp only; omega
  · rw [args8 h]
    refine (rMem_good.map _).mono ?_
    rintro i k ⟨⟨x, y, u⟩, rfl, h1, h2, h3, h4, h5⟩
    dsimp only at h1 h2 h3 h4 h5
    refine ⟨rfl, ?_, ?_, ⟨by simpa using h5, Nat.zero_le _, Nat.zero_le _, Nat.zero_le _⟩⟩
    · rw [may_of (i := { InstrT.of op with x := x, y := y, u := u }) h0 (part8 h)]; simp [InstrT.of, h1, h2, h3]
    · rw [rest8 (i := { InstrT.of op with x := x, y := y, u := u }) h]; exact h4
  · rw [args9 h]
    refine (rS32_good.map _).mono ?_
    rintro i k ⟨n, rfl, h1, h2, h3⟩
    refine ⟨rfl, ?_, ?_, ⟨by show (n % 4294967296).toNat < _; omega, Nat.zero_le _, Nat.zero_le _, Nat.zero_le _⟩⟩
    · rw [may_of (i := { InstrT.of op with u := (n % 4294967296).toNat }) h0 (part9 h)]; simp [InstrT.of]; omega
    · rw [rest9 (i := { InstrT.of op with u := (n % 4294967296).toNat }) h]; simp only; rw [toI32_back n h2 h3]; exact h1
  · rw [args10 h]
    refine (rS64_good.map _).mono ?_
    rintro i k ⟨n, rfl, h1, h2, h3⟩
    refine ⟨rfl, ?_, ?_, ⟨by show (n % 18446744073709551616).toNat < _; omega, Nat.zero_le _, Nat.zero_le _, Nat.zero_le _⟩⟩
    · rw [may_of (i := { InstrT.of op with u := (n % 18446744073709551616).toNat }) h0 (part10 h)]; simp [InstrT.of]
    · rw [rest10 (i := { InstrT.of op with u := (n % 18446744073709551616).toNat }) h]; simp only; rw [toI64_back n h2 h3]; exact h1
  · rw [args11 h]
    refine (rHeap_good.map _).mono ?_
    rintro i k ⟨x, rfl, h1, h2, _⟩
    refine ⟨rfl, ?_, ?_, smallK0 _ rfl rfl rfl rfl⟩
    · rw [may_of (i := { InstrT.of op with heap := x }) h0 (part11 h)]; simp [InstrT.of, plainH_eq, h1]
    · rw [rest11 (i := { InstrT.of op with heap := x }) h]; simp only; rw [heapB_len h1]; exact h2
  · rw [args12 h]
    refine (rVals_good.map _).mono ?_
    rintro i k ⟨x, rfl, h1, h2, _⟩
    refine ⟨rfl, ?_, ?_, ⟨(by decide : (0 : Nat) < _), Nat.zero_le _, pList_ge (fun x hx => pVal_pos x (List.all_eq_true.1 h1 x hx)) h2, Nat.zero_le _⟩⟩
    · rw [may_of (i := { InstrT.of op with types := x }) h0 (part12 h)]; simp only [h1]; simp [InstrT.of]
    · rw [rest12 (i := { InstrT.of op with types := x }) h]; simp only; rw [valsB_yes h1]; exact h2
  · rw [args2 h]
    refine (rBlock_good.map _).mono ?_
    rintro i k ⟨x, rfl, h1, h2, _⟩
    refine ⟨rfl, ?_, ?_, smallK0 _ rfl rfl rfl rfl⟩
    · rw [may_of (i := { InstrT.of op with block := x }) h0 (part2 h)]; simp [InstrT.of, h1]
    · rw [rest2 (i := { InstrT.of op with block := x }) h]; exact h2
  · rw [args3 h]
    refine (rBlock_good.bind (G := fun _ b => pMap (pListN rCatch) fun l => ({ InstrT.of op with block := b, catches := l } : InstrT)) (fun a x => (pListN_good rCatch_good (fun _ _ h => h)).stuck) (fun a x k _ => (pListN_good rCatch_good (fun _ _ h => h)).map _)).mono ?_
    rintro i k ⟨b, k1, k2, rfl, ⟨h1, h2, _⟩, l, rfl, h3, h4, _⟩
    refine ⟨rfl, ?_, ?_, ⟨(by decide : (0 : Nat) < _), Nat.zero_le _, Nat.zero_le _, Nat.le_trans (pList_ge (fun x _ => pCatch_pos x) h4) (Nat.le_add_left _ _)⟩⟩
    · rw [may_of (i := { InstrT.of op with block := b, catches := l }) h0 (part3 h)]; simp only [h1, h3]; simp [InstrT.of]
    · rw [rest3 (i := { InstrT.of op with block := b, catches := l }) h, List.length_append]; simp only; omega
  · rw [args13 h]
    have hb : ∀ c x a, Good (a13b op c x a) fun i k => ∃ b, i = { InstrT.of op with null := c % 2 == 1, null2 := c / 2 % 2 == 1, x := x, heap := a, heap2 := b } ∧ HeapP b k := fun c x a => rHeap_good.map _
    have ha : ∀ c x, Good (a13a op c x) fun i k => ∃ a k1 k2, k = k1 + k2 ∧ HeapP a k1 ∧ ∃ b, i = { InstrT.of op with null := c % 2 == 1, null2 := c / 2 % 2 == 1, x := x, heap := a, heap2 := b } ∧ HeapP b k2 := fun c x => rHeap_good.bind (G := fun _ a => a13b op c x a) (fun _ a => (hb c x a).stuck) (fun _ a k _ => hb c x a)
    have hx : ∀ c, Good (a13x op c) fun i k => ∃ x k1 k2, k = k1 + k2 ∧ NumP x k1 ∧ ∃ a k3 k4, k2 = k3 + k4 ∧ HeapP a k3 ∧ ∃ b, i = { InstrT.of op with null := c % 2 == 1, null2 := c / 2 % 2 == 1, x := x, heap := a, heap2 := b } ∧ HeapP b k4 := fun c => rNum_good.bind (G := fun _ x => a13a op c x) (fun _ x => (ha c x).stuck) (fun _ x k _ => ha c x)
    refine ((pChoice_good 3).bind (G := fun _ c => a13x op c) (fun _ c => (hx c).stuck) (fun _ c k _ => hx c)).mono ?_
    rintro i k ⟨c, k0, k9, rfl, ⟨_, rfl⟩, x, k1, k2, rfl, ⟨h1, h2, _⟩, a, k3, k4, rfl, ⟨h3, h4, _⟩, b, rfl, h5, h6, _⟩
    refine ⟨rfl, ?_, ?_, smallK0 _ rfl rfl rfl rfl⟩
    · rw [may_of (i := { InstrT.of op with null := c % 2 == 1, null2 := c / 2 % 2 == 1, x := x, heap := a, heap2 := b }) h0 (part13 h)]; simp [InstrT.of, plainH_eq, h1, h3, h5]
    · rw [rest13 (i := { InstrT.of op with null := c % 2 == 1, null2 := c / 2 % 2 == 1, x := x, heap := a, heap2 := b }) h]; simp only; rw [heapB_len h3, heapB_len h5]; simp only [List.length_append, List.length_cons, List.length_nil]; omega
end Go.Proofs.YtokneepfknepaaaDoor

set_option linter.unusedSimpArgs false
set_option linter.unusedVariables false
namespace Go.Proofs.YtokneepfknepaaaDoor
open Go.RowKit

/-- What a Go value of the type always is. -/
structure WfI (i : InstrT) : Prop where
  op0 : -9223372036854775808 ≤ i.op
  op1 : i.op < 9223372036854775808
  ts : i.types.length ≤ 1099511627776
  ls : i.labels.length ≤ 1099511627776
  cs : i.catches.length ≤ 1099511627776
def MayOk : Prop := ∀ (w : World), Gl7 [] w → ∀ (i : InstrT) (tv lv cv : Value), InsR [] w i tv lv cv → WfI i → Calls Tryd.prog 44 #[.agg (insC i tv lv cv).toArray] w fun e w' => e = .returned (.bool (mayI i)) ∧ Fr [] w w'

set_option maxRecDepth 100000 in
set_option maxHeartbeats 1600000 in
theorem iall_ins (hM : MayOk) (w : World) (hg : Gl7 [] w) (v : Value) (ts : List InstrT) (ds : List Value) (h : Sl [] w 19 v ts.length ds) (hs : InssR [] w ts ds) (hl : ts.length ≤ 1099511627776) (hw : ∀ i, i ∈ ts → WfI i) :
    Calls Tryd.prog 81 #[v, .func (.func 44) #[] #[]] w fun e w' => e = .returned (.bool (ts.all mayI)) ∧ Fr [] w w' := by
  have hh := h
  unfold MayOk at hM
  obtain ⟨_, _, a, cap, rfl, _⟩ := h
  go_enter Tryd.func81, Tryd.ntmps81
  go_wp2
  go_loopw [9] (fun n wr => ∃ (i : Nat), n = .int .i64 i ∧ i ≤ ts.length ∧ Fr [] w wr ∧ Hid (ts.all mayI = (ts.drop i).all mayI)) (fun n _ => ts.length - (intOf n).toNat)
  case atStart => exact ⟨0, rfl, by omega, Fr.refl _ _, Lib.hid rfl⟩
  case round =>
    obtain ⟨i, rfl, hi, hF, hI⟩ := hrel
    by_cases hlt : i < ts.length
    · obtain ⟨t, ht⟩ : ∃ t, ts[i]? = some t := ⟨ts[i], by simp [hlt]⟩
      have hwt := hw t (List.mem_of_getElem? ht)
      obtain ⟨b, off, cap2, tv, lv, cv, hv, hb, hnS, hR, hc⟩ := Sl.ins_elem hh hs i t ht
      injection hv with hv1 hv2 hv3
      subst hv1 hv3
      have hbw : b < wr.heap.size := Nat.lt_of_lt_of_le hb hF.size
      have hd := drop_one ts i t ht
      have hc2 : ∀ r, r < 19 → wr.cell? ⟨b, off + (i * 19 + r), none⟩ = (insC t tv lv cv)[r]? := fun r hr => (hF.cell hb (by simp) _).trans (hc r hr)
      have hR2 := hR.fr hF (fun _ _ h => h)
      have hg2 := hg.fr hF (fun _ _ h => h)
      clear hc hnS
      obtain ⟨ta, tc, rfl⟩ := hR.1.shape
      obtain ⟨la, lc, rfl⟩ := hR.2.1.shape
      obtain ⟨ca, cc, rfl⟩ := hR.2.2.shape
      have hRow : wr.rangeAt b (off + i * 19) (insC t (.slice ta t.types.length tc) (.slice la t.labels.length lc) (.slice ca t.catches.length cc)) := fun r v hv => by
        rw [Nat.add_assoc, hc2 r (List.getElem?_eq_some_iff.1 hv).1]
        exact hv
      have hOne : ∀ v ∈ insC t (.slice ta t.types.length tc) (.slice la t.labels.length lc) (.slice ca t.catches.length cc), v.oneCell' = true := by simp [insC, Value.oneCell']
      have hSt : St [] w wr [] := (St.start [] w).step0 hF
      clear hc2
      cases hp : mayI t
      · have hall : ts.all mayI = false := by rw [hI.out, hd]; simp [hp]
        have Hall := Lib.hid hall
        clear hall
        go_wp2_with first | (refine st_load (ty := 81) rfl rfl rfl und_ins rfl ?_; (repeat (apply Exists.intro)); refine ⟨?_, ?_, ?_, ?_⟩; (· (repeat (first | (with_reducible assumption) | (with_reducible apply St.alloc) | (with_reducible apply St.drew) | (with_reducible apply St.drewN) | (with_reducible apply St.alloc')))); (· (try simp only [World.size_alloc, World.size_setCell, size_drew, size_drewN]); first | (apply RowAt.loc; ((try simp only [World.size_alloc, World.size_setCell, size_drew, size_drewN]); repeat (first | (exact Pick.here) | (with_reducible apply Pick.there))); done) | (apply RowAt.elem; exact hRow)); (· exact size_ins)) | (refine st_store (ty := 81) rfl rfl rfl rfl ?_; (repeat (apply Exists.intro)); refine ⟨?_, ?_, ?_, ?_, ?_, ?_⟩; (· (repeat (first | (with_reducible assumption) | (with_reducible apply St.alloc) | (with_reducible apply St.drew) | (with_reducible apply St.drewN) | (with_reducible apply St.alloc')))); (· (try simp only [World.size_alloc, World.size_setCell, size_drew, size_drewN]); ((try simp only [World.size_alloc, World.size_setCell, size_drew, size_drewN]); repeat (first | (exact Pick.here) | (with_reducible apply Pick.there)))); (· rfl); (· exact size_ins); (· exact hOne); intro wN hS; (try clear hQ); have hQ := St.facts hS; simp only [Facts, Res.fact, List.cons_append, List.nil_append, true_and, and_true] at hQ) | (go_at_call 44; (with_reducible refine (hM _ ?_ t _ _ _ ?_ hwt).mono ?_); (· exact hS.gl7 hg); (· exact hS.ins hR); rintro e w2 ⟨rfl, hF2⟩; rw [hp]; refine st_fr hF2 ?_; (repeat (apply Exists.intro)); refine ⟨?_, ?_⟩; (· (repeat (first | (with_reducible assumption) | (with_reducible apply St.alloc) | (with_reducible apply St.drew) | (with_reducible apply St.drewN) | (with_reducible apply St.alloc')))); (try simp only [World.size_alloc, World.size_setCell, size_drew, size_drewN]); intro hS; (try clear hQ); have hQ := St.facts hS; simp only [Facts, Res.fact, List.cons_append, List.nil_append, true_and, and_true] at hQ)
        go_ret
        exact ⟨by rw [Hall.out]; rfl, by (first | exact hS.fr | (apply St.fr; (repeat (first | (with_reducible assumption) | (with_reducible apply St.alloc) | (with_reducible apply St.drew) | (with_reducible apply St.drewN) | (with_reducible apply St.alloc')))) | (apply St.fr; (first | exact hS0 | (repeat (first | (with_reducible assumption) | (with_reducible apply St.alloc) | (with_reducible apply St.drew) | (with_reducible apply St.drewN) | (with_reducible apply St.alloc'))))))⟩
      · have hall : ts.all mayI = (ts.drop (i + 1)).all mayI := by rw [hI.out, hd]; simp [hp]
        have Hall := Lib.hid hall
        clear hall
        go_wp2_with first | (refine st_load (ty := 81) rfl rfl rfl und_ins rfl ?_; (repeat (apply Exists.intro)); refine ⟨?_, ?_, ?_, ?_⟩; (· (repeat (first | (with_reducible assumption) | (with_reducible apply St.alloc) | (with_reducible apply St.drew) | (with_reducible apply St.drewN) | (with_reducible apply St.alloc')))); (· (try simp only [World.size_alloc, World.size_setCell, size_drew, size_drewN]); first | (apply RowAt.loc; ((try simp only [World.size_alloc, World.size_setCell, size_drew, size_drewN]); repeat (first | (exact Pick.here) | (with_reducible apply Pick.there))); done) | (apply RowAt.elem; exact hRow)); (· exact size_ins)) | (refine st_store (ty := 81) rfl rfl rfl rfl ?_; (repeat (apply Exists.intro)); refine ⟨?_, ?_, ?_, ?_, ?_, ?_⟩; (· (repeat (first | (with_reducible assumption) | (with_reducible apply St.alloc) | (with_reducible apply St.drew) | (with_reducible apply St.drewN) | (with_reducible apply St.alloc')))); (· (try simp only [World.size_alloc, World.size_setCell, size_drew, size_drewN]); ((try simp only [World.size_alloc, World.size_setCell, size_drew, size_drewN]); repeat (first | (exact Pick.here) | (with_reducible apply Pick.there)))); (· rfl); (· exact size_ins); (· exact hOne); intro wN hS; (try clear hQ); have hQ := St.facts hS; simp only [Facts, Res.fact, List.cons_append, List.nil_append, true_and, and_true] at hQ) | (go_at_call 44; (with_reducible refine (hM _ ?_ t _ _ _ ?_ hwt).mono ?_); (· exact hS.gl7 hg); (· exact hS.ins hR); rintro e w2 ⟨rfl, hF2⟩; rw [hp]; refine st_fr hF2 ?_; (repeat (apply Exists.intro)); refine ⟨?_, ?_⟩; (· (repeat (first | (with_reducible assumption) | (with_reducible apply St.alloc) | (with_reducible apply St.drew) | (with_reducible apply St.drewN) | (with_reducible apply St.alloc')))); (try simp only [World.size_alloc, World.size_setCell, size_drew, size_drewN]); intro hS; (try clear hQ); have hQ := St.facts hS; simp only [Facts, Res.fact, List.cons_append, List.nil_append, true_and, and_true] at hQ)
        go_roundw
        case rel => exact ⟨i + 1, by go_num, by omega, by (first | exact hS.fr | (apply St.fr; (repeat (first | (with_reducible assumption) | (with_reducible apply St.alloc) | (with_reducible apply St.drew) | (with_reducible apply St.drewN) | (with_reducible apply St.alloc')))) | (apply St.fr; (first | exact hS0 | (repeat (first | (with_reducible assumption) | (with_reducible apply St.alloc) | (with_reducible apply St.drew) | (with_reducible apply St.drewN) | (with_reducible apply St.alloc')))))), Hall⟩
        case measure => simp [intOf]; omega
    · have hk : i = ts.length := by omega
      subst hk
      have hall : ts.all mayI = true := by rw [hI.out]; simp
      have Hall := Lib.hid hall
      clear hall
      go_wp2
      go_ret
      exact ⟨by rw [Hall.out]; rfl, hF⟩
end Go.Proofs.YtokneepfknepaaaDoor

set_option linter.unusedSimpArgs false
set_option linter.unusedVariables false
namespace Go.Proofs.YtokneepfknepaaaDoor

def SmallI (i : InstrT) : Prop := SmallK i 4294967295
theorem SmallK.small {i : InstrT} {k : Nat} (h : SmallK i k) (hk : k ≤ 4294967295) : SmallI i := ⟨h.1, Nat.le_trans h.2.1 hk, Nat.le_trans h.2.2.1 hk, Nat.le_trans h.2.2.2 hk⟩

theorem may_inv {i : InstrT} {b : Bool} {j : InstrT} (hm : mayI i = true) (hp : mayPart i = (b, j)) : b = true ∧ j = InstrT.of i.op := by
  rw [may_of (mayI_shape hm) hp, Bool.and_eq_true, decide_eq_true_eq] at hm
  exact hm
theorem ext7 {i : InstrT} (hj : ({ i with x := 0, y := 0 } : InstrT) = InstrT.of i.op) : i = { InstrT.of i.op with x := i.x, y := i.y } := by (obtain ⟨op, x, y, u, a, b, c, d, e, f, g, j⟩ := i; simp only [InstrT.of, InstrT.mk.injEq] at hj ⊢; simp [hj])
theorem ext5 {i : InstrT} (hj : ({ i with x := 0, labels := [] } : InstrT) = InstrT.of i.op) : i = { InstrT.of i.op with labels := i.labels, x := i.x } := by (obtain ⟨op, x, y, u, a, b, c, d, e, f, g, j⟩ := i; simp only [InstrT.of, InstrT.mk.injEq] at hj ⊢; simp [hj])
theorem ext8 {i : InstrT} (hj : ({ i with x := 0, y := 0, u := 0 } : InstrT) = InstrT.of i.op) : i = { InstrT.of i.op with x := i.x, y := i.y, u := i.u } := by (obtain ⟨op, x, y, u, a, b, c, d, e, f, g, j⟩ := i; simp only [InstrT.of, InstrT.mk.injEq] at hj ⊢; simp [hj])
theorem ext9 {i : InstrT} (hj : ({ i with u := 0 } : InstrT) = InstrT.of i.op) : i = { InstrT.of i.op with u := i.u } := by (obtain ⟨op, x, y, u, a, b, c, d, e, f, g, j⟩ := i; simp only [InstrT.of, InstrT.mk.injEq] at hj ⊢; simp [hj])
theorem ext11 {i : InstrT} (hj : ({ i with heap := HeapT.zero } : InstrT) = InstrT.of i.op) : i = { InstrT.of i.op with heap := i.heap } := by (obtain ⟨op, x, y, u, a, b, c, d, e, f, g, j⟩ := i; simp only [InstrT.of, InstrT.mk.injEq] at hj ⊢; simp [hj])
theorem ext12 {i : InstrT} (hj : ({ i with types := [] } : InstrT) = InstrT.of i.op) : i = { InstrT.of i.op with types := i.types } := by (obtain ⟨op, x, y, u, a, b, c, d, e, f, g, j⟩ := i; simp only [InstrT.of, InstrT.mk.injEq] at hj ⊢; simp [hj])
theorem ext2 {i : InstrT} (hj : ({ i with block := BlockT.zero } : InstrT) = InstrT.of i.op) : i = { InstrT.of i.op with block := i.block } := by (obtain ⟨op, x, y, u, a, b, c, d, e, f, g, j⟩ := i; simp only [InstrT.of, InstrT.mk.injEq] at hj ⊢; simp [hj])
theorem ext3 {i : InstrT} (hj : ({ i with block := BlockT.zero, catches := [] } : InstrT) = InstrT.of i.op) : i = { InstrT.of i.op with block := i.block, catches := i.catches } := by (obtain ⟨op, x, y, u, a, b, c, d, e, f, g, j⟩ := i; simp only [InstrT.of, InstrT.mk.injEq] at hj ⊢; simp [hj])
theorem ext13 {i : InstrT} (hj : ({ i with x := 0, null := false, null2 := false, heap := HeapT.zero, heap2 := HeapT.zero } : InstrT) = InstrT.of i.op) : i = { InstrT.of i.op with null := i.null, null2 := i.null2, x := i.x, heap := i.heap, heap2 := i.heap2 } := by (obtain ⟨op, x, y, u, a, b, c, d, e, f, g, j⟩ := i; simp only [InstrT.of, InstrT.mk.injEq] at hj ⊢; simp [hj])

theorem RT.to {α : Type} {F : Pars α} {b : List UInt8} {x y : α} (h : RT F b x) (e : y = x) : RT F b y := e ▸ h
theorem RT.bytes {α : Type} {F : Pars α} {b b' : List UInt8} {x : α} (h : RT F b x) (e : b' = b) : RT F b' x := e ▸ h
theorem toI32_lt {u : Nat} (h : u < 4294967296) : -2147483648 ≤ toI32 u ∧ toI32 u < 2147483648 ∧ (toI32 u % 4294967296).toNat = u := by unfold toI32; split <;> omega
theorem toI64_lt {u : Nat} (h : u < 18446744073709551616) : -9223372036854775808 ≤ toI64 u ∧ toI64 u < 9223372036854775808 ∧ (toI64 u % 18446744073709551616).toNat = u := by unfold toI64; split <;> omega
theorem pNulls_facts (a b : Bool) : (pNulls a b).toNat ≤ 3 ∧ ((pNulls a b).toNat % 2 == 1) = a ∧ ((pNulls a b).toNat / 2 % 2 == 1) = b := by cases a <;> cases b <;> decide

theorem rArgs_rt {i : InstrT} (hm : mayI i = true) (hs : SmallI i) : RT (rArgsF i.op) (pRest i) i := by
  obtain ⟨u1, u2, u3, u4⟩ := hs
  rcases shape_cases i.op with h | h | h | h | h | h | h | h | h | h | h | h
  · rw [args1 h, rest1 h]
    exact (RT.ret _).to (may_inv hm (part1 h)).2
  · obtain ⟨h1, h2⟩ := inv46 h hm
    rw [args46 h, rest46 h]
    exact ((rNum_rt h1).map fun x => ({ InstrT.of i.op with x := x } : InstrT)).to h2
  · obtain ⟨h1, h2⟩ := may_inv hm (part7 h)
    rw [Bool.and_eq_true] at h1
    rw [args7 h, rest7 h]
    exact ((rNum_rt h1.1).bind (G := fun _ x => pMap rNum fun y => ({ InstrT.of i.op with x := x, y := y } : InstrT)) fun _ => (rNum_rt h1.2).map _).to (ext7 h2)
  · obtain ⟨h1, h2⟩ := may_inv hm (part5 h)
    rw [Bool.and_eq_true] at h1
    rw [args5 h, rest5 h]
    exact ((pListN_rt i.labels (by omega) (fun x hx => ⟨rNum_rt (List.all_eq_true.1 h1.2 x hx), pNum_pos x⟩)).bind (G := fun _ l => pMap rNum fun x => ({ InstrT.of i.op with labels := l, x := x } : InstrT)) fun _ => (rNum_rt h1.1).map _).to (ext5 h2)
  · obtain ⟨h1, h2⟩ := may_inv hm (part8 h)
    simp only [Bool.and_eq_true, decide_eq_true_eq] at h1
    rw [args8 h, rest8 h]
    exact ((rMem_rt h1.1.1 h1.1.2 h1.2 u1).map fun p => ({ InstrT.of i.op with x := p.1, y := p.2.1, u := p.2.2 } : InstrT)).to (ext8 h2)
  · obtain ⟨h1, h2⟩ := may_inv hm (part9 h)
    rw [decide_eq_true_eq] at h1
    obtain ⟨t1, t2, t3⟩ := toI32_lt h1
    rw [args9 h, rest9 h]
    have := (rS_rt 32 (toI32 i.u) (by decide) (by decide) (by omega) (by omega)).map fun n => ({ InstrT.of i.op with u := (n % 4294967296).toNat } : InstrT)
    rw [t3] at this
    exact this.to (ext9 h2)
  · obtain ⟨h1, h2⟩ := may_inv hm (part10 h)
    obtain ⟨t1, t2, t3⟩ := toI64_lt u1
    rw [args10 h, rest10 h]
    have := (rS_rt 64 (toI64 i.u) (by decide) (by decide) (by omega) (by omega)).map fun n => ({ InstrT.of i.op with u := (n % 18446744073709551616).toNat } : InstrT)
    rw [t3] at this
    exact this.to (ext9 h2)
  · obtain ⟨h1, h2⟩ := may_inv hm (part11 h)
    rw [plainH_eq] at h1
    rw [args11 h, rest11 h, heapB_len h1]
    exact ((rHeap_rt _ h1).map fun x => ({ InstrT.of i.op with heap := x } : InstrT)).to (ext11 h2)
  · obtain ⟨h1, h2⟩ := may_inv hm (part12 h)
    rw [args12 h, rest12 h, valsB_yes h1]
    exact ((rVals_rt _ (by omega) h1).map fun x => ({ InstrT.of i.op with types := x } : InstrT)).to (ext12 h2)
  · obtain ⟨h1, h2⟩ := may_inv hm (part2 h)
    rw [args2 h, rest2 h]
    exact ((rBlock_rt h1).map fun x => ({ InstrT.of i.op with block := x } : InstrT)).to (ext2 h2)
  · obtain ⟨h1, h2⟩ := may_inv hm (part3 h)
    rw [Bool.and_eq_true] at h1
    rw [args3 h, rest3 h]
    exact ((rBlock_rt h1.1).bind (G := fun _ b => pMap (pListN rCatch) fun l => ({ InstrT.of i.op with block := b, catches := l } : InstrT)) fun _ => (pListN_rt i.catches (by omega) (fun x hx => ⟨rCatch_rt (List.all_eq_true.1 h1.2 x hx), pCatch_pos x⟩)).map _).to (ext3 h2)
  · obtain ⟨h1, h2⟩ := may_inv hm (part13 h)
    simp only [Bool.and_eq_true, plainH_eq] at h1
    obtain ⟨n1, n2, n3⟩ := pNulls_facts i.null i.null2
    rw [args13 h, rest13 h, heapB_len h1.1.2, heapB_len h1.2]
    refine RT.to (x := { InstrT.of i.op with null := i.null, null2 := i.null2, x := i.x, heap := i.heap, heap2 := i.heap2 }) ((pChoice_rt 3 _ n1).bind (G := fun _ c => a13x i.op c) fun _ => ?_) (ext13 h2)
    refine (rNum_rt h1.1.1).bind (G := fun _ x => a13a i.op _ x) fun _ => ?_
    refine (rHeap_rt _ h1.1.2).bind (G := fun _ a => a13b i.op _ _ a) fun _ => ?_
    have := (rHeap_rt _ h1.2).map fun b => ({ InstrT.of i.op with null := (pNulls i.null i.null2).toNat % 2 == 1, null2 := (pNulls i.null i.null2).toNat / 2 % 2 == 1, x := i.x, heap := i.heap, heap2 := b } : InstrT)
    rw [n2, n3] at this
    unfold a13b
    rw [n2, n3]
    exact this

/- An instruction. -/
theorem rArgs_stuck (op : Int) : Stuck (rArgsF op) := by
  by_cases h : shapeP op = 0
  · rw [args1 (by unfold shNone; omega)]
    exact pRet_stuck _
  · exact (rArgs_good h).stuck
theorem rInstr_alike : Alike rInstr (pBind rOp fun _ op => rArgsF op) := fun bs s => by
  unfold rInstr pBind
  by_cases h : (rOp bs s).2.err ≠ 0
  · rw [if_pos h]
    have := rArgs_stuck (rOp bs s).1 bs (rOp bs s).2 h
    exact ⟨this.symm, fun h2 => absurd (by rw [this] at h2; exact h2) h⟩
  · rw [if_neg h]
    exact ⟨rfl, fun _ => rfl⟩
def InstrP (i : InstrT) (k : Nat) : Prop := mayI i = true ∧ (pInstr i).length ≤ k ∧ 1 ≤ k ∧ SmallK i k
theorem rInstr_good : Good rInstr InstrP := by
  refine Good.alike rInstr_alike ((rOp_good.bind (G := fun _ op => rArgsF op) (Q := fun op i k => InsP op i k) (fun _ op => rArgs_stuck op) (fun _ op k h => rArgs_good h.1)).mono ?_)
  rintro i k ⟨op, k1, k2, rfl, ⟨h1, h2, h3⟩, rfl, h4, h5, h6⟩
  refine ⟨h4, ?_, by omega, h6.1, ?_, ?_, ?_⟩
  · unfold pInstr; rw [List.length_append]; omega
  · have := h6.2.1; omega
  · have := h6.2.2.1; omega
  · have := h6.2.2.2; omega
theorem rInstr_rt {i : InstrT} (hm : mayI i = true) (hs : SmallI i) : RT rInstr (pInstr i) i :=
  RT.alike rInstr_alike ((rOp_rt (mayI_shape hm)).bind (G := fun _ op => rArgsF op) fun _ => rArgs_rt hm hs)
theorem pInstr_pos (i : InstrT) : 1 ≤ (pInstr i).length := by
  unfold pInstr
  rw [List.length_append]
  have := pOp_pos i.op
  omega

/- An expression. -/
theorem may11 : mayI (InstrT.of 11) = true := by decide +kernel
theorem pInstr11 : pInstr (InstrT.of 11) = [11] := by decide +kernel
theorem small_of (op : Int) : SmallI (InstrT.of op) := smallK0 _ rfl rfl rfl rfl
theorem rExprF_rt : ∀ (l : List InstrT) (n : List Bool) (f : Nat), (∀ i, i ∈ l → mayI i = true ∧ SmallI i) → nestL n l = some [] → l.length < f → ∀ (bs : List UInt8) (s : RdS) (r : List UInt8), At bs s (l.flatMap pInstr ++ [11] ++ r) →
    rExprF bs f n s = (some l, s.adv (l.flatMap pInstr ++ [11]).length)
  | [], n, f + 1, _, hn, _, bs, s, r, ha => by
    have hn : n = [] := by simpa [nestL] using hn
    subst hn
    have h := rInstr_rt may11 (small_of 11) bs s r (by rw [pInstr11]; simpa using ha)
    rw [pInstr11] at h
    unfold rExprF
    rw [h]
    simp [InstrT.of, ha.ok]
  | i :: l, n, f + 1, hm, hn, hf, bs, s, r, ha => by
    have hi := hm i (by simp)
    have h := rInstr_rt hi.1 hi.2 bs s (l.flatMap pInstr ++ [11] ++ r) (by simpa using ha)
    have ha2 : At bs (s.adv (pInstr i).length) (l.flatMap pInstr ++ [11] ++ r) := At.adv (by simpa using ha)
    unfold nestL at hn
    cases hst : stepN n i.op with
    | none => rw [hst] at hn; cases hn
    | some m =>
      rw [hst] at hn
      have ih := rExprF_rt l m f (fun j hj => hm j (by simp [hj])) hn (by simpa using hf) bs _ r ha2
      have hne : ¬ (i.op = 11 ∧ n = []) := by
        rintro ⟨h1, h2⟩
        rw [h1, h2] at hst
        simp [stepN] at hst
      unfold rExprF
      rw [h]
      simp only [adv_err, ha.ok, hne, hst, ih]
      simp [adv_adv, Nat.add_assoc]
theorem rExprF_some : ∀ (f : Nat) (bs : List UInt8) (n : List Bool) (s : RdS) (l : List InstrT), (rExprF bs f n s).1 = some l → (rExprF bs f n s).2.err = 0
  | 0, bs, n, s, l, h => by simp [rExprF] at h
  | f + 1, bs, n, s, l, h => by
    unfold rExprF at h ⊢
    by_cases h1 : (rInstr bs s).2.err ≠ 0
    · rw [if_pos h1] at h; cases h
    · rw [if_neg h1] at h ⊢
      by_cases h2 : (rInstr bs s).1.op = 11 ∧ n = []
      · rw [if_pos h2] at h ⊢
        exact Classical.byContradiction h1
      · rw [if_neg h2] at h ⊢
        cases hst : stepN n (rInstr bs s).1.op with
        | none => rw [hst] at h; cases h
        | some m =>
          rw [hst] at h
          simp only at h ⊢
          cases hr : (rExprF bs f m (rInstr bs s).2).1 with
          | none => rw [hr] at h; cases h
          | some l' => exact rExprF_some f bs m _ l' hr
theorem rExprF_back : ∀ (f : Nat) (bs : List UInt8) (n : List Bool) (s : RdS), s.err = 0 → s.at_ ≤ bs.length → bs.length < s.at_ + f → (rExprF bs f n s).2.err = 0 →
    ∃ l k, rExprF bs f n s = (some l, s.adv k) ∧ s.at_ + k ≤ bs.length ∧ (∀ i, i ∈ l → mayI i = true ∧ SmallK i k) ∧ nestL n l = some [] ∧ (l.flatMap pInstr).length + 1 ≤ k
  | 0, bs, n, s, _, ha, hf, _ => by omega
  | f + 1, bs, n, s, he, ha, hf, h => by
    unfold rExprF at h ⊢
    by_cases h1 : (rInstr bs s).2.err ≠ 0
    · rw [if_pos h1] at h; exact absurd h h1
    · have h1' : (rInstr bs s).2.err = 0 := Classical.byContradiction h1
      obtain ⟨k1, e1, l1, p1, p2, p3, p4⟩ := rInstr_good.back bs s he ha h1'
      rw [if_neg h1] at h ⊢
      by_cases h2 : (rInstr bs s).1.op = 11 ∧ n = []
      · rw [if_pos h2] at h ⊢
        refine ⟨[], k1, by rw [e1], l1, fun i hi => (by cases hi), by rw [h2.2]; rfl, by simpa using p3⟩
      · rw [if_neg h2] at h ⊢
        cases hst : stepN n (rInstr bs s).1.op with
        | none =>
          rw [hst] at h
          simp only at h
          rw [fail_ok h1' (by decide)] at h
          exact absurd h (by show (60 : Int) ≠ 0; decide)
        | some m =>
          rw [hst] at h
          simp only at h ⊢
          obtain ⟨l, k2, e2, l2, q1, q2, q3⟩ := rExprF_back f bs m (rInstr bs s).2 h1' (by rw [e1]; exact l1) (by rw [e1]; simp; omega) h
          rw [e2]
          refine ⟨(rInstr bs s).1 :: l, k1 + k2, ?_, ?_, ?_, ?_, ?_⟩
          · rw [e1, adv_adv]; rfl
          · rw [e1] at l2; simp at l2; omega
          · intro i hi
            rcases List.mem_cons.1 hi with rfl | hi
            · exact ⟨p1, p4.1, Nat.le_trans p4.2.1 (Nat.le_add_right _ _), Nat.le_trans p4.2.2.1 (Nat.le_add_right _ _), Nat.le_trans p4.2.2.2 (Nat.le_add_right _ _)⟩
            · obtain ⟨a, b⟩ := q1 i hi
              exact ⟨a, b.1, Nat.le_trans b.2.1 (Nat.le_add_left _ _), Nat.le_trans b.2.2.1 (Nat.le_add_left _ _), Nat.le_trans b.2.2.2 (Nat.le_add_left _ _)⟩
          · unfold nestL
            rw [hst]
            exact q2
          · rw [List.flatMap_cons, List.length_append]; omega
theorem rExprF_cut : ∀ (f : Nat) (bs : List UInt8) (n : List Bool) (s : RdS) (l : List InstrT) (k c : Nat), s.err = 0 → s.at_ ≤ bs.length → rExprF bs f n s = (some l, s.adv k) → s.at_ ≤ c → c < s.at_ + k → c ≤ bs.length →
    ∀ g, c < s.at_ + g → (rExprF (bs.take c) g n s).1 = none ∧ Early (rExprF (bs.take c) g n s).2 c
  | 0, bs, n, s, l, k, c, _, _, h, _, _, _, g, _ => by simp [rExprF] at h
  | f + 1, bs, n, s, l, k, c, he, ha, h, hac, hck, hcl, g, hg => by
    obtain ⟨g, rfl⟩ : ∃ g', g = g' + 1 := ⟨g - 1, by omega⟩
    unfold rExprF at h
    by_cases h1 : (rInstr bs s).2.err ≠ 0
    · rw [if_pos h1] at h; cases h
    · have h1' : (rInstr bs s).2.err = 0 := Classical.byContradiction h1
      obtain ⟨k1, e1, l1, p1, p2, p3, p4⟩ := rInstr_good.back bs s he ha h1'
      have hcut := rInstr_good.cut bs s k1 he ha e1 c hac hcl
      rw [if_neg h1] at h
      unfold rExprF
      rcases Nat.lt_or_ge c (s.at_ + k1) with hlt | hge
      · have hE := hcut.2 hlt
        rw [if_pos (by rw [hE.1]; decide)]
        exact ⟨rfl, hE⟩
      · have hI := hcut.1 hge
        rw [hI, if_neg h1]
        by_cases h2 : (rInstr bs s).1.op = 11 ∧ n = []
        · rw [if_pos h2, e1] at h
          injection h with _ h
          have := adv_inj h
          omega
        · rw [if_neg h2] at h ⊢
          cases hst : stepN n (rInstr bs s).1.op with
          | none => rw [hst] at h; cases h
          | some m =>
            rw [hst] at h
            simp only at h ⊢
            cases hr : rExprF bs f m (rInstr bs s).2 with
            | mk o t =>
              rw [hr] at h
              cases o with
              | none => cases h
              | some l' =>
                have ht : t = s.adv k := (Prod.mk.inj h).2
                have hk : k1 ≤ k := by
                  rcases Nat.lt_or_ge k k1 with hk | hk
                  · omega
                  · exact hk
                have := rExprF_cut f bs m (rInstr bs s).2 l' (k - k1) c h1' (by rw [e1]; exact l1) (by rw [hr, ht, e1, adv_adv]; congr 2; omega) (by rw [e1]; exact hge) (by rw [e1]; simp; omega) hcl g (by rw [e1]; simp; omega)
                rw [this.1]
                exact ⟨rfl, this.2⟩

/- The laws of whole expressions. -/
theorem pExpr_pos {l : List InstrT} (h : 0 < (pExpr l).length) : (∀ i, i ∈ l → mayI i = true) ∧ nestL [] l = some [] ∧ pExpr l = l.flatMap pInstr ++ [11] := by
  unfold pExpr at h ⊢
  by_cases hc : (l.all mayI && nested l) = true
  · rw [if_pos hc]
    rw [Bool.and_eq_true] at hc
    exact ⟨fun i hi => List.all_eq_true.1 hc.1 i hi, by simpa [nested] using hc.2, rfl⟩
  · rw [if_neg hc] at h
    simp at h
theorem flat_pos (l : List InstrT) : l.length ≤ (l.flatMap pInstr).length := flat_ge pInstr l fun i _ => pInstr_pos i
theorem rExpr_behind {l : List InstrT} (h : 0 < (pExpr l).length) (hs : ∀ i, i ∈ l → SmallI i) (r : List UInt8) : rExpr (pExpr l ++ r) rOpen = (l, ⟨(pExpr l).length, 0, 0⟩) := by
  obtain ⟨h1, h2, h3⟩ := pExpr_pos h
  have hf := flat_pos l
  have := rExprF_rt l [] ((pExpr l ++ r).length + 1 - rOpen.at_) (fun i hi => ⟨h1 i hi, hs i hi⟩) h2 (by rw [h3]; simp only [List.length_append, List.length_cons, List.length_nil, rOpen]; omega) (pExpr l ++ r) rOpen r ⟨rfl, by simp [rOpen], by rw [h3]; simp [rOpen]⟩
  unfold rExpr
  rw [this, h3]
  simp [RdS.adv, rOpen]
theorem rExpr_cut {l : List InstrT} (hs : ∀ i, i ∈ l → SmallI i) {c : Nat} (h : c < (pExpr l).length) : (rExpr ((pExpr l).take c) rOpen).1 = [] ∧ (rExpr ((pExpr l).take c) rOpen).2.err = 10 := by
  obtain ⟨h1, h2, h3⟩ := pExpr_pos (Nat.lt_of_le_of_lt (Nat.zero_le _) h)
  have hf := flat_pos l
  have h4 := rExprF_rt l [] ((pExpr l).length + 1) (fun i hi => ⟨h1 i hi, hs i hi⟩) h2 (by rw [h3]; simp only [List.length_append, List.length_cons, List.length_nil]; omega) (pExpr l) rOpen [] ⟨rfl, by simp [rOpen], by rw [h3]; simp [rOpen]⟩
  have h5 := rExprF_cut _ (pExpr l) [] rOpen l _ c rfl (by simp [rOpen]) h4 (by simp [rOpen]) (by rw [← h3]; simp [rOpen]; omega) (by omega) (((pExpr l).take c).length + 1 - rOpen.at_) (by simp [rOpen]; omega)
  unfold rExpr
  rw [h5.1]
  exact ⟨rfl, h5.2.1⟩
theorem rExpr_back (bs : List UInt8) (hb : bs.length ≤ 4294967295) : ((rExpr bs rOpen).2.err ≠ 0 → (rExpr bs rOpen).1 = []) ∧
    ((rExpr bs rOpen).2.err = 0 → (rExpr bs rOpen).1.all mayI = true ∧ nested (rExpr bs rOpen).1 = true ∧ (pExpr (rExpr bs rOpen).1).length ≤ (rExpr bs rOpen).2.at_ ∧ 0 < (pExpr (rExpr bs rOpen).1).length ∧ (rExpr bs rOpen).2.at_ ≤ bs.length ∧ (∀ i, i ∈ (rExpr bs rOpen).1 → SmallI i)) := by
  refine ⟨fun h => ?_, fun h => ?_⟩
  · unfold rExpr at h ⊢
    cases hr : (rExprF bs (bs.length + 1 - rOpen.at_) [] rOpen).1 with
    | none => simp [hr]
    | some l => exact absurd (rExprF_some _ bs [] rOpen l hr) h
  · obtain ⟨l, k, e, h1, h2, h3, h4⟩ := rExprF_back (bs.length + 1 - rOpen.at_) bs [] rOpen rfl (by simp [rOpen]) (by simp [rOpen]) h
    have e1 : (rExpr bs rOpen).1 = l := by unfold rExpr; rw [e]; rfl
    have e2 : (rExpr bs rOpen).2 = rOpen.adv k := by unfold rExpr; rw [e]
    rw [e1, e2]
    have a1 : l.all mayI = true := List.all_eq_true.2 fun i hi => (h2 i hi).1
    have a2 : nested l = true := by simp [nested, h3]
    have a3 : pExpr l = l.flatMap pInstr ++ [11] := by unfold pExpr; rw [a1, a2]; rfl
    have h0 : rOpen.at_ = 0 := rfl
    refine ⟨a1, a2, ?_, ?_, ?_, fun i hi => (h2 i hi).2.small (by omega)⟩
    · rw [a3, List.length_append, List.length_cons, List.length_nil, adv_at]; omega
    · rw [a3]; simp
    · simp; omega
end Go.Proofs.YtokneepfknepaaaDoor

set_option linter.unusedSimpArgs false
set_option linter.unusedVariables false
namespace Go.Proofs.YtokneepfknepaaaDoor
open Go.RowKit
theorem St.ofOut {w w' : World} {v : Value} {xs : List UInt8} (h : Out w' v xs) (hn : New w v) (hf : Fr [] w w') : St [] w w' [.own 5 1 (v) (xs).length ((xs).map B)] :=
  ((St.start [] w).step0 hf).put (r := .own 5 1 (v) (xs).length ((xs).map B)) h (fun b hb => hn b hb) (fun _ _ _ h => by cases h)
theorem Gl.st {S : List Nat} {w0 w : World} {G : List Res} (hg : Gl S w0) (h : St S w0 w G) : Gl S w := h.gl hg

set_option maxRecDepth 100000 in
set_option maxHeartbeats 3200000 in
theorem PutVals_any {w : World} (hg : Gl [] w) (v : Value) (ts : List ValT) (h : Sl [] w 4 v ts.length (ts.flatMap valC)) (hok : ∀ t, t ∈ ts → t.heap.ok) (hl : ts.length ≤ 1048576) :
    Calls Tryd.prog 35 #[v] w fun e w' => ∃ v', e = .returned v' ∧ St [] w w' [.own 5 1 (v') (valsB ts).length ((valsB ts).map B)] := by
  have hh := h
  obtain ⟨_, _, a, cap, rfl, _⟩ := h
  have hS0 := St.start [] w
  have Hok := Lib.hid hok
  clear hok
  have hmf : ∀ (fn : Fn) (first cap : Array Value) (w : World), (Instr.makeFunc fn first cap).run Tryd.prog w = .ok (.func fn first cap) w := fun _ _ _ _ => rfl
  go_enter Tryd.func35, Tryd.ntmps35
  go_wp2
  go_loopw [7] (fun n wr => ∃ (i : Nat), n = .int .i64 i ∧ i ≤ ts.length ∧ St [] w wr [] ∧ Hid ((ts.take i).all plainVal = true)) (fun n _ => ts.length - (intOf n).toNat)
  case atStart => exact ⟨0, rfl, by omega, hS0, Lib.hid rfl⟩
  case round =>
    obtain ⟨i, rfl, hi, hS, hall⟩ := hrel
    by_cases hlt : i < ts.length
    · obtain ⟨x, hx⟩ : ∃ t, ts[i]? = some t := ⟨ts[i], by simp [hlt]⟩
      obtain ⟨b1, o1, p1, hv1, hb1, _, hd1⟩ := Sl.elem (hS.sl hh) (fun _ => rfl) i x hx
      injection hv1 with e1 _ e1c
      subst e1 e1c
      have f10 := hd1 0 (by decide)
      have f11 := hd1 1 (by decide)
      have f12 := hd1 2 (by decide)
      have f13 := hd1 3 (by decide)
      clear hd1
      simp only [Nat.add_zero, ← Nat.add_assoc, valC, List.getElem?_cons_zero, List.getElem?_cons_succ] at f10 f11 f12 f13
      have i1 : (i : Int) < (ts.length : Int) := by omega
      have Hx := Lib.hid hx
      clear hx
      go_wp2_with (go_at_call 75; refine (plainVal_any _ x).mono ?_; rintro e w1 ⟨rfl, hF1⟩; generalize hb1 : plainVal x = b1; have Hb1 := Lib.hid hb1; clear hb1)
      · have hne : ts.all plainVal = false := by
          apply Bool.eq_false_iff.2
          intro hc
          have := List.all_eq_true.1 hc x (List.mem_of_getElem? Hx.out)
          rw [Hb1.out] at this
          simp_all
        go_ret
        refine ⟨_, rfl, ?_⟩
        rw [valsB_no hne]
        exact St.ofOut (Out.nil _) (New.nil _) ((hS.fr.alloc _).trans hF1)
      · go_roundw
        case rel =>
          refine ⟨i + 1, by go_num, by omega, (hS.alloc' _).step0 hF1, Lib.hid ?_⟩
          rw [take_one ts i x Hx.out, List.all_append, hall.out]
          have := Hb1.out
          simp_all
        case measure => simp [intOf]; omega
    · have hk : i = ts.length := by omega
      subst hk
      have hallP : ts.all plainVal = true := by simpa using hall.out
      have HP := Lib.hid hallP
      clear hallP hall
      have i1 : ¬ (ts.length : Int) < (ts.length : Int) := by omega
      have hg1 := hS.gl hg
      have hs1 := hS.sl hh
      have hx : ([] : List UInt8).length + 16 * ts.length + 64 ≤ 70368744177664 := by simp; omega
      go_wp2_with (go_at_call 77; refine (putList_val (.slice none 0 0) hg1 [] _ ts hs1 Hok.out (Out.nil _) hx).mono ?_; rintro e w4 ⟨v4, rfl, ho4, hA4⟩)
      go_ret
      refine ⟨v4, rfl, ?_⟩
      rw [valsB_yes HP.out]
      refine St.ofOut ho4 (fun b hb => ?_) (hS.fr.trans hA4.1)
      rcases hA4.2 b hb with hb | hb
      · cases hb
      · exact Nat.le_trans hS.fr.size hb
end Go.Proofs.YtokneepfknepaaaDoor
