
/- From the reading of an argument to what the walks ask: truths, words; a world for a witness. -/
import Derived.Test.YthdbddolkfibkaaGreatDoorArgA
import Derived.Test.YthdbddolkfibkaaGreatDoorMbW
set_option linter.unusedSimpArgs false
set_option linter.unusedVariables false
namespace Go.Proofs.YthdbddolkfibkaaGreatDoor
open Go.ChangeShapes Go.WideShapes Go.ChangeAt Go.RowKit Go.Joins
theorem und_boolT : Tryz.prog.underlying 4 = some .bool := by kernel_rfl
theorem und_u64T : Tryz.prog.underlying 66 = some (.int .u64) := by kernel_rfl
theorem und_boolsT : Tryz.prog.underlying 22 = some (.slice 4) := by kernel_rfl
theorem und_wordsT : Tryz.prog.underlying 23 = some (.slice 66) := by kernel_rfl
theorem cells_boolT : Tryz.prog.cellsOf 4 = 1 := by kernel_rfl
theorem cells_u64T : Tryz.prog.cellsOf 66 = 1 := by kernel_rfl
theorem wf_u64 {n : Int} (h : (Lit.int .u64 n).wf = true) : 0 ≤ n ∧ n < 18446744073709551616 := by
  simp [Lit.wf, IntKind.min, IntKind.max, IntKind.signed, IntKind.bits] at h
  omega
section
set_option maxRecDepth 100000
variable {H : Type} {enc : TypeId × Value → H} {w : World} {sp : Nat → Bool} {held : Bool} {fuel : Nat} {cs : List Value} {x : DataW H × List MemPlace}
theorem arg_bools (h : DataW.trod enc Tryz.prog w 0 sp held fuel 22 cs = some x) : ∃ (v : Value) (l : List Bool), cs = [v] ∧ Sl [] w 1 v l.length (boolsC l) := by
  obtain ⟨v, l, h1, h2, _⟩ := trod_slice_sl (fun b : Bool => [Value.bool b]) 1 (fun _ => True) und_boolsT cells_boolT (by decide) (fun _ => rfl) (fun a _ u hu => by simp at hu; subst hu; rfl) (fun _ _ _ h => by obtain ⟨b, e, _⟩ := DataW.trod_bool und_boolT h; exact ⟨b, e, trivial⟩) h
  refine ⟨v, l, h1, ?_⟩
  have e : ∀ l : List Bool, l.flatMap (fun b : Bool => [Value.bool b]) = boolsC l := by
    intro l
    induction l with
    | nil => rfl
    | cons a l ih => rw [List.flatMap_cons, ih]; rfl
  rwa [e] at h2
theorem arg_words (h : DataW.trod enc Tryz.prog w 0 sp held fuel 23 cs = some x) : ∃ (v : Value) (l : List Nat), cs = [v] ∧ Sl [] w 1 v l.length (wordsC l) ∧ ∀ a, a ∈ l → a < 2 ^ 64 := by
  obtain ⟨v, l, h1, h2, h3⟩ := trod_slice_sl (fun n : Nat => [Value.int .u64 (n : Int)]) 1 (fun n => n < 2 ^ 64) und_wordsT cells_u64T (by decide) (fun _ => rfl) (fun a _ u hu => by simp at hu; subst hu; rfl) (fun _ _ _ h => by
    obtain ⟨n, e, _, w0⟩ := DataW.trod_int und_u64T h
    obtain ⟨a, b⟩ := wf_u64 w0
    refine ⟨n.toNat, ?_, by omega⟩
    rw [Int.toNat_of_nonneg a]
    exact e) h
  refine ⟨v, l, h1, ?_, h3⟩
  have e : ∀ l : List Nat, l.flatMap (fun n : Nat => [Value.int .u64 (n : Int)]) = wordsC l := by
    intro l
    induction l with
    | nil => rfl
    | cons a l ih => rw [List.flatMap_cons, ih]; rfl
  rwa [e] at h2
end
/-- A world for a witness: the settled one, the tables holding what their initialisers lay. -/
def laidOn (l : List (Nat × List Value)) (h : Array Obj) : Array Obj := l.foldl (fun h p => h.modify p.1 fun o => match o with
  | .cells _ t frozen => .cells p.2.toArray t frozen
  | o => o) h
noncomputable def laidAll : List (Nat × List Value) := (laidOf Tryz.prog Rows.mapsBitsRow.laid (Rows.mapsBitsRow.laid.map (·.1))).getD []
noncomputable def laidWorldM (os : Os) : World := { World.holding Tryz.prog os ⟨#[], #[], []⟩ with heap := laidOn laidAll (World.holding Tryz.prog os ⟨#[], #[], []⟩).heap }
end Go.Proofs.YthdbddolkfibkaaGreatDoor
