
/- The walks of layer 19: the shortest bits of truths. -/
import Derived.Test.YthdbddolkfibkaaGreatDoorMbH
import Derived.Laws.MakeOwn
set_option linter.unusedSimpArgs false
set_option linter.unusedVariables false
namespace Go.Proofs.YthdbddolkfibkaaGreatDoor
open Go.RowKit
def boolsC (l : List Bool) : List Value := l.map fun b => .bool b
theorem und_bits : Tryz.prog.underlying 25 = some (.slice 66) := by kernel_rfl
theorem info_u64 : (Tryz.prog.info? 66).map (fun i => (i.zero, i.size, i.bytes)) = some (some (.int .u64 0), 1, 8) := by kernel_rfl
theorem made_zero (n : Nat) : madeCells (Value.int .u64 0).cells (n * 1) = (wordsC (List.replicate n 0)).toArray := by
  apply Array.ext'
  simp only [madeCells, wordsC, Value.cells, List.map_replicate, Array.toList_map, Array.toList_range, Nat.mul_one]
  apply List.ext_getElem
  · simp
  · intro j h1 h2
    simp [Nat.mod_one]
set_option maxRecDepth 100000 in
theorem run_mk (w : World) (q : Nat) (hq : q ≤ 1000) : (Instr.makeSlice 25 (.int .i64 ((q : Int) / 64 + 1)) (.int .i64 ((q : Int) / 64 + 1))).run Tryz.prog w = .ok (.slice (some ⟨w.heap.size, 0, none⟩) (q / 64 + 1) (q / 64 + 1)) (w.alloc (.cells (wordsC (List.replicate (q / 64 + 1) 0)).toArray 66)) := by
  have hI := info_u64
  cases hi : Tryz.prog.info? 66 with
  | none => rw [hi] at hI; cases hI
  | some i =>
    rw [hi] at hI
    simp only [Option.map_some, Option.some.injEq, Prod.mk.injEq] at hI
    obtain ⟨h1, h2, h3⟩ := hI
    have e : ((q : Int) / 64 + 1) = ((q / 64 + 1 : Nat) : Int) := by omega
    have k := run_makeSlice w 25 66 i _ und_bits hi h1 .i64 .i64 ((q / 64 + 1 : Nat) : Int) ((q / 64 + 1 : Nat) : Int) (by omega) (by omega) (by rw [h2]; omega) (by rw [h3]; omega) (by omega)
    rw [h2, Int.toNat_natCast, made_zero] at k
    rw [e]
    exact k
end Go.Proofs.YthdbddolkfibkaaGreatDoor
