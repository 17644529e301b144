/- From the reading of an argument to what the walks ask: numbers, types, lists of them. -/
import Derived.Test.YtokneepfknepaaaDoorLawK
import Derived.Test.YtokneepfknepaaaDoorPutWB
import Derived.Deep.Slices
import Derived.Lib.SmallJoins
set_option linter.unusedSimpArgs false
set_option linter.unusedVariables false
namespace Go.Proofs.YtokneepfknepaaaDoor
open Go.ChangeShapes Go.WideShapes Go.ChangeAt Go.RowKit Go.Joins

section
variable {H : Type} {enc : TypeId × Value → H} {P : Program} {w : World} {sp : Nat → Bool} {held : Bool}

theorem addr_add (b off j : Nat) : (⟨b, off, none⟩ : Addr).add j = ⟨b, off + j, none⟩ := by unfold Addr.add; split <;> simp_all

theorem trod_slice_sl {α : Type} [Inhabited α] (f : α → List Value) (k : Nat) (Q : α → Prop) {t e : TypeId} (ht : P.underlying t = some (.slice e)) (hk : P.cellsOf e = k) (hk0 : 0 < k) (hf : ∀ a, (f a).length = k) (h1 : ∀ a, Q a → ∀ u ∈ f a, u.oneCell' = true)
    (hel : ∀ fuel cs x, DataW.trod enc P w 0 sp held fuel e cs = some x → ∃ a, cs = f a ∧ Q a) {fuel : Nat} {cs : List Value} {x : DataW H × List MemPlace} (h : DataW.trod enc P w 0 sp held fuel t cs = some x) :
    ∃ (v : Value) (l : List α), cs = [v] ∧ Sl [] w k v l.length (l.flatMap f) ∧ (∀ a, a ∈ l → Q a) := by
  rcases Go.Deep.open_slice ht h with ⟨rfl, _⟩ | ⟨a, len, cap, m, n, D, Pl, rfl, _, hl, hm, hmm, _, hx⟩
  · exact ⟨_, [], rfl, Sl.nil _ _ _, fun _ h => by cases h⟩
  · have hlm : len ≤ m := by rw [hmm]; split <;> omega
    obtain ⟨A, hA⟩ := Go.Deep.choose_lt (α := α) (p := fun i b => w.cells? 0 (a.add (i * P.cellsOf e)) (P.cellsOf e) = some (f b) ∧ Q b) (n := m) (fun i hi => by
      obtain ⟨cs', c1, c2⟩ := hx i hi
      obtain ⟨a', rfl, q⟩ := hel _ _ _ c2
      exact ⟨a', c1, q⟩)
    rw [hk] at hA
    have hLen : ((List.range len).map A).length = len := by simp
    have hQ : ∀ a', a' ∈ (List.range len).map A → Q a' := by
      intro a' ha'
      obtain ⟨i, hi, rfl⟩ := List.mem_map.1 ha'
      exact (hA i (by have := List.mem_range.1 hi; omega)).2
    refine ⟨_, (List.range len).map A, rfl, ?_, hQ⟩
    rw [hLen]
    refine ⟨?_, ?_, some a, cap, rfl, hl, hm, fun h => (by cases h), ?_⟩
    · have : ∀ (l : List α), (l.flatMap f).length = l.length * k := by
        intro l
        induction l with
        | nil => simp
        | cons b l ih => rw [List.flatMap_cons, List.length_append, hf, ih, List.length_cons, Nat.add_mul]; omega
      rw [this, hLen]
    · intro u hu
      obtain ⟨a', ha', hu⟩ := List.mem_flatMap.1 hu
      exact h1 a' (hQ a' ha') u hu
    · by_cases h0 : len = 0
      · exact .inl h0
      · right
        obtain ⟨b, off, spot⟩ := a
        have hcell : ∀ i, i < len → ∀ r, r < k → w.cell? (((⟨b, off, spot⟩ : Addr).add (i * k)).add r) = (f (A i))[r]? := fun i hi r hr => (World.cells?_some (hA i (by omega)).1).2.2 r hr
        have hspot : spot = none := by
          have hc0 := hcell 0 (by omega) 0 hk0
          rw [List.getElem?_eq_getElem (by rw [hf]; exact hk0)] at hc0
          simpa [Addr.add] using World.cell?_spot hc0
        subst hspot
        have hcell' : ∀ i, i < len → ∀ r, r < k → w.cell? ⟨b, off + (i * k + r), none⟩ = (f (A i))[r]? := fun i hi r hr => by
          rw [← hcell i hi r hr, addr_add, addr_add, Nat.add_assoc]
        refine ⟨b, off, rfl, by simp, ?_, fun j hj => ?_⟩
        · have hc0 := hcell' 0 (by omega) 0 hk0
          rw [List.getElem?_eq_getElem (by rw [hf]; exact hk0)] at hc0
          rcases Nat.lt_or_ge b w.heap.size with hlt | hge
          · exact hlt
          · exfalso
            have : w.heap[b]? = none := Array.getElem?_eq_none hge
            simp [World.cell?, this] at hc0
        · have hjd : j = (j / k) * k + j % k := by rw [Nat.mul_comm]; exact (Nat.div_add_mod j k).symm
          have hjk : j / k < len := Nat.div_lt_of_lt_mul (by rw [Nat.mul_comm]; exact hj)
          have hjr : j % k < k := Nat.mod_lt _ hk0
          rw [hjd, hcell' _ hjk _ hjr, flat_get f k hf _ (j / k) (A (j / k)) (by simp [hjk]) _ hjr]
end

theorem und_int : Tryd.prog.underlying 3 = some (.int .i64) := by kernel_rfl
theorem und_bool : Tryd.prog.underlying 4 = some .bool := by kernel_rfl
theorem und_u8 : Tryd.prog.underlying 5 = some (.int .u8) := by kernel_rfl
theorem und_vkind : Tryd.prog.underlying 42 = some (.int .i64) := by kernel_rfl
theorem und_ckind : Tryd.prog.underlying 55 = some (.int .i64) := by kernel_rfl
theorem und_hkind : Tryd.prog.underlying 38 = some (.int .i64) := by kernel_rfl
theorem cells_int : Tryd.prog.cellsOf 3 = 1 := by kernel_rfl
theorem cells_bool : Tryd.prog.cellsOf 4 = 1 := by kernel_rfl
theorem cells_u8 : Tryd.prog.cellsOf 5 = 1 := by kernel_rfl
theorem cells_hkind : Tryd.prog.cellsOf 38 = 1 := by kernel_rfl
theorem cells_vkind : Tryd.prog.cellsOf 42 = 1 := by kernel_rfl
theorem cells_ckind : Tryd.prog.cellsOf 55 = 1 := by kernel_rfl
theorem cells_heap : Tryd.prog.cellsOf 40 = 2 := by kernel_rfl
theorem cells_val : Tryd.prog.cellsOf 44 = 4 := by kernel_rfl
theorem cells_store : Tryd.prog.cellsOf 153 = 5 := by kernel_rfl
theorem cells_field : Tryd.prog.cellsOf 155 = 6 := by kernel_rfl
theorem cells_comp : Tryd.prog.cellsOf 58 = 4 := by kernel_rfl
theorem cells_sub : Tryd.prog.cellsOf 60 = 6 := by kernel_rfl
theorem cells_vals : Tryd.prog.cellsOf 46 = 1 := by kernel_rfl
theorem cells_heaps : Tryd.prog.cellsOf 54 = 1 := by kernel_rfl
theorem cells_fields : Tryd.prog.cellsOf 56 = 1 := by kernel_rfl

set_option maxRecDepth 100000
theorem wf_i64 {n : Int} (h : (Lit.int .i64 n).wf = true) : -9223372036854775808 ≤ n ∧ n < 9223372036854775808 := by
  simp [Lit.wf, IntKind.min, IntKind.max, IntKind.signed, IntKind.bits] at h
  omega
theorem wf_u8 {n : Int} (h : (Lit.int .u8 n).wf = true) : 0 ≤ n ∧ n < 256 := by
  simp [Lit.wf, IntKind.min, IntKind.max, IntKind.signed, IntKind.bits] at h
  omega

section
variable {H : Type} {enc : TypeId × Value → H} {w : World} {sp : Nat → Bool} {held : Bool} {fuel : Nat} {cs : List Value} {x : DataW H × List MemPlace}
def I64 (n : Int) : Prop := -9223372036854775808 ≤ n ∧ n < 9223372036854775808
def ValT.ok (v : ValT) : Prop := I64 v.kind ∧ v.heap.ok
def FieldT.ok (f : FieldT) : Prop := I64 f.pack ∧ f.val.ok

theorem arg_heap (h : DataW.trod enc Tryd.prog w 0 sp held fuel 40 cs = some x) : ∃ t : HeapT, cs = heapC t ∧ t.ok := by
  obtain ⟨y0, y1, n, _, hl, h0, h1⟩ := trod_struct2 Tryd.underlying40 h
  rw [cells_heap] at hl
  match cs, hl with
  | [c0, c1], _ =>
    simp only [List.drop, List.take, cells_hkind, cells_int] at h0 h1
    obtain ⟨k, e0, _, w0⟩ := DataW.trod_int und_hkind h0
    obtain ⟨m, e1, _, w1⟩ := DataW.trod_int und_int h1
    simp only [List.cons.injEq, and_true] at e0 e1
    subst e0 e1
    exact ⟨⟨k, m⟩, rfl, wf_i64 w0, wf_i64 w1⟩
theorem arg_val (h : DataW.trod enc Tryd.prog w 0 sp held fuel 44 cs = some x) : ∃ t : ValT, cs = valC t ∧ t.ok := by
  obtain ⟨y0, y1, y2, n, _, hl, h0, h1, h2⟩ := Go.Deep.trod_struct3 Tryd.underlying44 h
  rw [cells_val] at hl
  match cs, hl with
  | [c0, c1, c2, c3], _ =>
    simp only [List.drop, List.take, cells_vkind, cells_bool, cells_heap] at h0 h1 h2
    obtain ⟨k, e0, _, w0⟩ := DataW.trod_int und_vkind h0
    obtain ⟨b, e1, _⟩ := DataW.trod_bool und_bool h1
    obtain ⟨t, e2, ok⟩ := arg_heap h2
    simp only [heapC, List.cons.injEq, and_true] at e0 e1 e2
    obtain ⟨e2, e3⟩ := e2
    subst e0 e1 e2 e3
    exact ⟨⟨k, b, t⟩, rfl, wf_i64 w0, ok⟩
theorem arg_field (h : DataW.trod enc Tryd.prog w 0 sp held fuel 155 cs = some x) : ∃ t : FieldT, cs = fieldC t ∧ t.ok := by
  obtain ⟨y0, y1, n, _, hl, h0, h1⟩ := trod_struct2 Tryd.underlying155 h
  rw [cells_field] at hl
  match cs, hl with
  | [c0, c1, c2, c3, c4, c5], _ =>
    simp only [List.drop, List.take, cells_store, cells_bool] at h0 h1
    obtain ⟨z0, z1, m, _, _, g0, g1⟩ := trod_struct2 Tryd.underlying153 h0
    simp only [List.drop, List.take, cells_int, cells_val] at g0 g1
    obtain ⟨k, e0, _, w0⟩ := DataW.trod_int und_int g0
    obtain ⟨t, e1, ok⟩ := arg_val g1
    obtain ⟨b, e5, _⟩ := DataW.trod_bool und_bool h1
    simp only [valC, List.cons.injEq, and_true] at e0 e1 e5
    obtain ⟨e1, e2, e3, e4⟩ := e1
    subst e0 e1 e2 e3 e4 e5
    exact ⟨⟨k, t, b⟩, rfl, wf_i64 w0, ok⟩
theorem arg_heaps (h : DataW.trod enc Tryd.prog w 0 sp held fuel 54 cs = some x) : ∃ (v : Value) (l : List HeapT), cs = [v] ∧ Sl [] w 2 v l.length (l.flatMap heapC) ∧ ∀ a, a ∈ l → a.ok :=
  trod_slice_sl heapC 2 HeapT.ok und_heaps cells_heap (by decide) (fun _ => rfl) (fun a _ u hu => by simp [heapC] at hu; rcases hu with rfl | rfl <;> rfl) (fun _ _ _ h => arg_heap h) h
theorem arg_vals (h : DataW.trod enc Tryd.prog w 0 sp held fuel 46 cs = some x) : ∃ (v : Value) (l : List ValT), cs = [v] ∧ Sl [] w 4 v l.length (l.flatMap valC) ∧ ∀ a, a ∈ l → a.ok :=
  trod_slice_sl valC 4 ValT.ok und_vals cells_val (by decide) (fun _ => rfl) (fun a _ u hu => by simp [valC] at hu; rcases hu with rfl | rfl | rfl | rfl <;> rfl) (fun _ _ _ h => arg_val h) h
theorem arg_fields (h : DataW.trod enc Tryd.prog w 0 sp held fuel 56 cs = some x) : ∃ (v : Value) (l : List FieldT), cs = [v] ∧ Sl [] w 6 v l.length (l.flatMap fieldC) ∧ ∀ a, a ∈ l → a.ok :=
  trod_slice_sl fieldC 6 FieldT.ok und_fields cells_field (by decide) (fun _ => rfl) (fun a _ u hu => by simp [fieldC] at hu; rcases hu with rfl | rfl | rfl | rfl | rfl | rfl <;> rfl) (fun _ _ _ h => arg_field h) h
def B8 (n : UInt8) : List Value := [B n]
theorem flat_B8 (l : List UInt8) : l.flatMap B8 = l.map B := by
  induction l with
  | nil => rfl
  | cons a l ih => rw [List.flatMap_cons, ih]; rfl
theorem arg_u8 (h : DataW.trod enc Tryd.prog w 0 sp held fuel 5 cs = some x) : ∃ c : UInt8, cs = B8 c := by
  obtain ⟨n, rfl, _, w0⟩ := DataW.trod_int und_u8 h
  obtain ⟨a, b⟩ := wf_u8 w0
  refine ⟨UInt8.ofNat n.toNat, ?_⟩
  unfold B8 B
  congr 2
  rw [UInt8.toNat_ofNat_of_lt' (by show n.toNat < 256; omega)]
  omega
theorem arg_bytes (h : DataW.trod enc Tryd.prog w 0 sp held fuel 26 cs = some x) : ∃ (v : Value) (l : List UInt8), cs = [v] ∧ Sl [] w 1 v l.length (l.map B) := by
  obtain ⟨v, l, h1, h2, _⟩ := trod_slice_sl B8 1 (fun _ => True) und_bytes cells_u8 (by decide) (fun _ => rfl) (fun a _ u hu => by simp [B8] at hu; subst hu; rfl) (fun _ _ _ h => (arg_u8 h).imp fun _ h => ⟨h, trivial⟩) h
  refine ⟨v, l, h1, ?_⟩
  rwa [flat_B8] at h2

/-- A sub type's numbers. -/
structure SubT.num (t : SubT) : Prop where
  kind : I64 t.comp.kind
  sup : ∀ h, h ∈ t.supers → h.ok
  par : ∀ x, x ∈ t.comp.params → x.ok
  res : ∀ x, x ∈ t.comp.results → x.ok
  fld : ∀ x, x ∈ t.comp.fields → x.ok
theorem arg_sub (h : DataW.trod enc Tryd.prog w 0 sp held fuel 60 cs = some x) : ∃ (t : SubT) (hv pv rv fv : Value), cs = subC t hv pv rv fv ∧ SubR [] w t hv pv rv fv ∧ t.num := by
  obtain ⟨y0, y1, y2, n, _, hl, h0, h1, h2⟩ := Go.Deep.trod_struct3 Tryd.underlying60 h
  rw [cells_sub] at hl
  match cs, hl with
  | [c0, c1, c2, c3, c4, c5], _ =>
    simp only [List.drop, List.take, cells_bool, cells_heaps, cells_comp] at h0 h1 h2
    obtain ⟨z0, z1, z2, z3, m, _, _, g0, g1, g2, g3⟩ := trod_struct4 Tryd.underlying58 h2
    simp only [List.drop, List.take, cells_ckind, cells_vals, cells_fields] at g0 g1 g2 g3
    obtain ⟨b, e0, _⟩ := DataW.trod_bool und_bool h0
    obtain ⟨hv, hl, e1, s1, q1⟩ := arg_heaps h1
    obtain ⟨k, e2, _, w2⟩ := DataW.trod_int und_ckind g0
    obtain ⟨pv, pl, e3, s3, q3⟩ := arg_vals g1
    obtain ⟨rv, rl, e4, s4, q4⟩ := arg_vals g2
    obtain ⟨fv, fl, e5, s5, q5⟩ := arg_fields g3
    simp only [List.cons.injEq, and_true] at e0 e1 e2 e3 e4 e5
    subst e0 e1 e2 e3 e4 e5
    exact ⟨⟨b, hl, ⟨k, pl, rl, fl⟩⟩, c1, c3, c4, c5, rfl, ⟨s1, s3, s4, s5⟩, ⟨wf_i64 w2, q1, q3, q4, q5⟩⟩
/-- Sub types as they lie in memory. -/
structure SubM where
  t : SubT
  hv : Value
  pv : Value
  rv : Value
  fv : Value
deriving Inhabited
def SubM.cells (s : SubM) : List Value := subC s.t s.hv s.pv s.rv s.fv
theorem subs_of {S : List Nat} : ∀ (l : List SubM), (∀ a, a ∈ l → SubR S w a.t a.hv a.pv a.rv a.fv) → SubsR S w (l.map (·.t)) (l.flatMap SubM.cells)
  | [], _ => rfl
  | a :: l, h => ⟨a.hv, a.pv, a.rv, a.fv, l.flatMap SubM.cells, rfl, h a (by simp), subs_of l fun b hb => h b (by simp [hb])⟩
theorem arg_subs (h : DataW.trod enc Tryd.prog w 0 sp held fuel 48 cs = some x) : ∃ (v : Value) (ts : List SubT) (gs : List Value), cs = [v] ∧ Sl [] w 6 v ts.length gs ∧ SubsR [] w ts gs ∧ ∀ t, t ∈ ts → t.num := by
  obtain ⟨v, l, h1, h2, h3⟩ := trod_slice_sl SubM.cells 6 (fun s => SubR [] w s.t s.hv s.pv s.rv s.fv ∧ s.t.num) und_subs cells_sub (by decide) (fun _ => rfl) (fun a q u hu => by
    obtain ⟨q1, _⟩ := q
    have o1 := q1.1.one
    have o2 := q1.2.1.one
    have o3 := q1.2.2.1.one
    have o4 := q1.2.2.2.one
    simp only [SubM.cells, subC, List.mem_cons, List.not_mem_nil, or_false] at hu
    rcases hu with rfl | rfl | rfl | rfl | rfl | rfl
    · rfl
    · exact o1
    · rfl
    · exact o2
    · exact o3
    · exact o4) (fun _ _ _ h => by
    obtain ⟨t, hv, pv, rv, fv, e, r, q⟩ := arg_sub h
    exact ⟨⟨t, hv, pv, rv, fv⟩, e, r, q⟩) h
  refine ⟨v, l.map (·.t), l.flatMap SubM.cells, h1, by simpa using h2, subs_of l fun a ha => (h3 a ha).1, fun t ht => ?_⟩
  obtain ⟨a, ha, rfl⟩ := List.mem_map.1 ht
  exact (h3 a ha).2
end
end Go.Proofs.YtokneepfknepaaaDoor
