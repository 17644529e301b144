
/- A reckoner for whole calls on known inputs, part 4: the operations that only read, one by one. -/
import Derived.Test.YthdbddolkfibkaaGreatDoorEv3
import Derived.Deep.MidRow
set_option linter.unusedSimpArgs false
set_option linter.unusedVariables false
namespace Go.Proofs.YthdbddolkfibkaaGreatDoor
open Go.RowKit
section
variable {P : Program}
theorem kind_struct {d : TypeDesc} {fs : List (Nat × Nat)} (h : kindOf d = .struct fs) : ∃ F : Array Field, d = .struct F ∧ F.toList.map (fun f => (f.offset, f.type)) = fs := by
  cases d <;> simp [kindOf] at h
  rename_i F
  exact ⟨F, rfl, h⟩
theorem kind_array {d : TypeDesc} {n e : Nat} (h : kindOf d = .array n e) : d = .array n e := by
  cases d <;> simp [kindOf] at h
  obtain ⟨rfl, rfl⟩ := h
  rfl
theorem kind_slice {d : TypeDesc} {e : Nat} (h : kindOf d = .slice e) : d = .slice e := by
  cases d <;> simp [kindOf] at h
  subst h
  rfl
theorem kind_str {d : TypeDesc} (h : kindOf d = .str) : d = .string := by
  cases d <;> simp [kindOf] at h
  rfl
theorem kind_int {d : TypeDesc} {k : IntKind} (h : kindOf d = .int k) : d = .int k := by
  cases d <;> simp [kindOf] at h
  subst h
  rfl
theorem kind_ptr {d : TypeDesc} {e : Nat} (h : kindOf d = .ptr e) : d = .pointer e := by
  cases d <;> simp [kindOf] at h
  subst h
  rfl
theorem kind_map {d : TypeDesc} {k e : Nat} (h : kindOf d = .map k e) : d = .map k e := by
  cases d <;> simp [kindOf] at h
  obtain ⟨rfl, rfl⟩ := h
  rfl
theorem kind_uptr {d : TypeDesc} (h : kindOf d = .uptr) : d = .unsafePointer := by
  cases d <;> simp [kindOf] at h
  rfl
theorem kind_func {d : TypeDesc} (h : kindOf d = .func) : ∃ a b c, d = .func a b c := by
  cases d <;> simp [kindOf] at h
  exact ⟨_, _, _, rfl⟩
theorem run_info {t : TypeId} {n : TypeInfo} (h : P.info? t = some n) (w : World) : (typeInfo t).run P w = .ok n w := by
  unfold typeInfo
  simp [program, Sem.run, h, Sem.run_bind]
theorem run_size {t : TypeId} {n : TypeInfo} (h : P.info? t = some n) (w : World) : (sizeOf t).run P w = .ok n.size w := by
  unfold sizeOf
  rw [Sem.run_bind, run_info h]
  rfl
theorem TOk.size {t : Nat} {i : TInfo} (h : TOk P t i) (w : World) : (sizeOf t).run P w = .ok i.size w := by
  obtain ⟨d, n, z, h1, h2, h3, h4, h5, h6, h7⟩ := h.ex
  rw [← h4]
  exact run_size h2 w
/-- Is it a struct or an array? -/
theorem TOk.isAgg {t : Nat} {i : TInfo} (h : TOk P t i) (w : World) : (isAgg t).run P w = .ok i.k.agg w := by
  obtain ⟨d, n, z, h1, h2, h3, h4, h5, h6, h7⟩ := h.ex
  unfold Go.isAgg
  rw [Sem.run_bind, run_underlying h1 w, h3]
  cases d <;> rfl

/-- The address of a field. -/
def cFieldAddr (T : Tab) (t : Nat) (c : CV) (f : Nat) : Option CV :=
  match c with
  | .ptr g o => match T.ty.get t with
    | some ⟨.struct fs, _, _, _⟩ => match fs[f]? with
      | some (off, ft) => match T.ty.get ft with
        | some i => match Nat.beq i.size 0 with
          | false => some (.ptr g (o + off))
          | true => none
        | none => none
      | none => none
    | _ => none
  | _ => none
theorem cFieldAddr_ok {T : Tab} (hT : TabOk P T) {E : Emb} {t : Nat} {c r : CV} {f : Nat} (h : cFieldAddr T t c f = some r) {u : Value} (hu : VR E c u) (w : World) :
    ∃ v, (Instr.fieldAt t u f).run P w = .ok v w ∧ VR E r v := by
  unfold cFieldAddr at h
  split at h
  · rename_i g o
    split at h
    · rename_i fs s1 b1 z1 ht
      split at h
      · rename_i off ft hf
        split at h
        · rename_i i hi
          split at h
          · rename_i hz
            injection h with h
            subst h
            cases hu with
            | ptr _ _ hon =>
            obtain ⟨d, n, z, h1, h2, h3, h4, h5, h6, h7⟩ := (hT.ty _ _ ht).ex
            obtain ⟨F, rfl, hF⟩ := kind_struct h3.symm
            rw [← hF, List.getElem?_map] at hf
            obtain ⟨fd, hfd, hfe⟩ := Option.map_eq_some_iff.1 hf
            injection hfe with e1 e2
            subst e1 e2
            have hfd' : F[f]? = some fd := by rw [← Array.getElem?_toList]; exact hfd
            refine ⟨.pointer (some ⟨E.adr g, E.off g + (o + fd.offset), none⟩), ?_, .ptr g _ hon⟩
            unfold Instr.fieldAt
            simp only [Sem.run_bind, run_underlying h1 w, Result.andThen_ok, hfd', Instr.sureAddr, Sem.run_pure]
            unfold fieldPlace
            have hz' : i.size ≠ 0 := by
              intro e
              rw [e] at hz
              exact absurd hz (by decide)
            simp only [Sem.run_bind, (hT.ty _ _ hi).size w, Result.andThen_ok, if_neg hz', Sem.run_pure, Addr.add_mid, Nat.add_assoc]
          · cases h
        · cases h
      · cases h
    · cases h
  · cases h

/-- A whole number that is an index. -/
def natOf : CV → Option Nat
  | .int _ (.ofNat n) => some n
  | _ => none
theorem natOf_ok {E : Emb} {c : CV} {n : Nat} (h : natOf c = some n) {u : Value} (hu : VR E c u) : ∃ k, u = .int k n := by
  unfold natOf at h
  split at h
  · injection h with h
    subst h
    cases hu
    exact ⟨_, rfl⟩
  · cases h
/-- The address of an element. -/
def cIndexAddr (T : Tab) (t : Nat) (c x : CV) : Option CV :=
  match natOf x with
  | none => none
  | some i => match c with
    | .ptr g o => match T.ty.get t with
      | some ⟨.array n e, _, _, _⟩ => match T.ty.get e with
        | some ie => match Nat.ble (i + 1) n with
          | true => some (.ptr g (o + i * ie.size))
          | false => none
        | none => none
      | _ => none
    | .sl g o n _ => match T.ty.get t with
      | some ⟨.slice e, _, _, _⟩ => match T.ty.get e with
        | some ie => match Nat.ble (i + 1) n with
          | true => some (.ptr g (o + i * ie.size))
          | false => none
        | none => none
      | _ => none
    | _ => none
theorem add_mid' (b o n : Nat) : (⟨b, o, none⟩ : Addr).add n = ⟨b, o + n, none⟩ := Addr.add_mid b o n
theorem cIndexAddr_ok {T : Tab} (hT : TabOk P T) {E : Emb} {t : Nat} {c x r : CV} (h : cIndexAddr T t c x = some r) {u y : Value} (hu : VR E c u) (hy : VR E x y) (w : World) :
    ∃ v, (Instr.indexAt t u y).run P w = .ok v w ∧ VR E r v := by
  unfold cIndexAddr at h
  split at h
  · cases h
  · rename_i i hx
    obtain ⟨kx, rfl⟩ := natOf_ok hx hy
    split at h
    · rename_i g o
      split at h
      · rename_i n e s1 b1 z1 ht
        split at h
        · rename_i ie hi
          split at h
          · rename_i hb
            injection h with h
            subst h
            cases hu with
            | ptr _ _ hon =>
            have hb : i < n := by have := Nat.le_of_ble_eq_true hb; omega
            obtain ⟨d, nn, z, h1, h2, h3, h4, h5, h6, h7⟩ := (hT.ty _ _ ht).ex
            obtain rfl := kind_array h3.symm
            refine ⟨_, ?_, .ptr g _ hon⟩
            unfold Instr.indexAt
            simp only [asIntOf, Sem.run_bind, Sem.run_pure, Result.andThen_ok, run_underlying h1 w, Instr.sureAddr]
            rw [if_pos (by omega)]
            simp only [Sem.run_bind, (hT.ty _ _ hi).size w, Result.andThen_ok, Sem.run_pure, add_mid', Int.toNat_natCast, Nat.add_assoc]
          · cases h
        · cases h
      · cases h
    · rename_i g o n k
      split at h
      · rename_i e s1 b1 z1 ht
        split at h
        · rename_i ie hi
          split at h
          · rename_i hb
            injection h with h
            subst h
            cases hu with
            | sl _ _ _ _ hon =>
            have hb : i < n := by have := Nat.le_of_ble_eq_true hb; omega
            obtain ⟨d, nn, z, h1, h2, h3, h4, h5, h6, h7⟩ := (hT.ty _ _ ht).ex
            obtain rfl := kind_slice h3.symm
            refine ⟨_, ?_, .ptr g _ hon⟩
            unfold Instr.indexAt
            simp only [asIntOf, Sem.run_bind, Sem.run_pure, Result.andThen_ok, run_underlying h1 w]
            rw [if_pos (by omega)]
            simp only [Sem.run_bind, (hT.ty _ _ hi).size w, Result.andThen_ok, Sem.run_pure, add_mid', Int.toNat_natCast, Nat.add_assoc]
          · cases h
        · cases h
      · cases h
    · cases h

/-- What lies at a place. -/
def cLoad (T : Tab) (h : Tr (List CV)) (t : Nat) (c : CV) : Option CV :=
  match c with
  | .ptr g o => match hget h g with
    | some cs => match T.ty.get t with
      | some i => match i.k.agg with
        | true => match Nat.ble (o + i.size) cs.length with
          | true => some (.agg ((cs.drop o).take i.size))
          | false => none
        | false => cs[o]?
      | none => none
    | none => none
  | _ => none
theorem isRow_of {d : TypeDesc} (h : (kindOf d).agg = true) : d.isRow = true := by
  cases d <;> simp [kindOf, TK.agg] at h <;> rfl
/-- The cells of a known row. -/
theorem WR.row {E : Emb} {h : Tr (List CV)} {nx : Nat} {w : World} (W : WR E h nx w) {g o n : Nat} {cs : List CV} (hon : E.on g) (hg : hget h g = some cs) (hl : o + n ≤ cs.length) :
    ∃ us, us.length = n ∧ VRs E ((cs.drop o).take n) us ∧ (∀ u ∈ us, u.oneCell' = true) ∧ w.rangeAt (E.adr g) (E.off g + o) us := by
  have hc : ∀ i, i < n → ∃ u, w.cell? ⟨E.adr g, E.off g + (o + i), none⟩ = some u ∧ (∀ v, cs[o + i]? = some v → VR E v u) ∧ u.oneCell' = true := fun i hi => by
    obtain ⟨v, hv⟩ : ∃ v, cs[o + i]? = some v := ⟨cs[o + i], List.getElem?_eq_getElem (by omega)⟩
    obtain ⟨u, h1, h2, h3⟩ := W.cell hon hg hv
    exact ⟨u, h1, fun v' hv' => by rw [hv] at hv'; injection hv' with e; subst e; exact h2, h3⟩
  have hx : ∀ i, i < n → w.cell? ⟨E.adr g, E.off g + (o + i), none⟩ = some ((w.cell? ⟨E.adr g, E.off g + (o + i), none⟩).getD undef) := fun i hi => by
    obtain ⟨u, h1, _⟩ := hc i hi
    rw [h1]; rfl
  refine ⟨(List.range n).map fun i => (w.cell? ⟨E.adr g, E.off g + (o + i), none⟩).getD undef, by simp, VRs.of (by simp; omega) fun i v u hv hu => ?_, fun u hu => ?_, fun i v hv => ?_⟩
  · have hi : i < n := by
      rcases Nat.lt_or_ge i n with q | q
      · exact q
      · rw [List.getElem?_eq_none (by simpa using q)] at hu; cases hu
    rw [List.getElem?_map, List.getElem?_range hi, Option.map_some] at hu
    injection hu with hu
    subst hu
    obtain ⟨u, h1, h2, h3⟩ := hc i hi
    rw [h1]
    refine h2 v ?_
    rw [List.getElem?_take, if_pos hi, List.getElem?_drop] at hv
    exact hv
  · obtain ⟨i, hi, rfl⟩ := List.mem_map.1 hu
    obtain ⟨u, h1, h2, h3⟩ := hc i (List.mem_range.1 hi)
    rw [h1]
    exact h3
  · have hi : i < n := by
      rcases Nat.lt_or_ge i n with q | q
      · exact q
      · rw [List.getElem?_eq_none (by simpa using q)] at hv; cases hv
    rw [List.getElem?_map, List.getElem?_range hi, Option.map_some] at hv
    rw [Nat.add_assoc, hx i hi]
    exact hv
theorem cLoad_ok {T : Tab} (hT : TabOk P T) {E : Emb} {h : Tr (List CV)} {nx : Nat} {w : World} (W : WR E h nx w) {t : Nat} {c r : CV} (he : cLoad T h t c = some r) {u : Value} (hu : VR E c u) :
    ∃ v, (Instr.loadAt t u).run P w = .ok v w ∧ VR E r v := by
  unfold cLoad at he
  split at he
  · rename_i g o
    split at he
    · rename_i cs hg
      split at he
      · rename_i i hi
        have TT := hT.ty _ _ hi
        obtain ⟨d, nn, z, h1, h2, h3, h4, h5, h6, h7⟩ := TT.ex
        cases hu with
        | ptr _ _ hon =>
        split at he
        · rename_i ha
          split at he
          · rename_i hb
            injection he with he
            subst he
            have hb := Nat.le_of_ble_eq_true hb
            obtain ⟨us, u1, u2, u3, u4⟩ := W.row hon hg hb
            refine ⟨.agg us.toArray, ?_, .agg _ _ u2⟩
            simp only [Instr.loadAt, Instr.sureAddr, Sem.run_bind, Sem.run_pure, Result.andThen_ok]
            exact run_loadVar_mid w _ _ t us d u4 h1 (isRow_of (by rw [← h3]; exact ha)) (by rw [h2]; simp [h4, u1])
          · cases he
        · rename_i ha
          obtain ⟨v, k1, k2, k3⟩ := W.cell hon hg he
          refine ⟨v, ?_, k2⟩
          simp only [Instr.loadAt, Instr.sureAddr, Sem.run_bind, Sem.run_pure, Result.andThen_ok]
          simp only [loadVar, Sem.run_bind, TT.isAgg w, ha, Result.andThen_ok, Bool.false_eq_true, if_false]
          simp [load, Sem.run, k1]
      · cases he
    · cases he
  · cases he
end
end Go.Proofs.YthdbddolkfibkaaGreatDoor
