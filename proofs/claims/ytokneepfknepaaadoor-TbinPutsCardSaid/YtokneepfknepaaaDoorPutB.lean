/- What is put of types that may be none (plain). -/
import Derived.Test.YtokneepfknepaaaDoorTbinP
set_option linter.unusedSimpArgs false
set_option linter.unusedVariables false
namespace Go.Proofs.YtokneepfknepaaaDoor

def plainH (h : HeapT) : Bool := plainVal ⟨3, false, h⟩
def heapB (h : HeapT) : List UInt8 := if plainVal ⟨3, false, h⟩ then pHeap h else []
def valB (t : ValT) : List UInt8 := if plainVal t then pVal t else []
def valsB (ts : List ValT) : List UInt8 := if ts.all plainVal then pList pVal ts else []
theorem heapB_yes {h : HeapT} (p : plainVal ⟨3, false, h⟩ = true) : heapB h = pHeap h := by unfold heapB; rw [if_pos p]
theorem heapB_no {h : HeapT} (p : plainVal ⟨3, false, h⟩ = false) : heapB h = [] := by unfold heapB; rw [if_neg (by simp [p])]
theorem valB_yes {t : ValT} (p : plainVal t = true) : valB t = pVal t := by unfold valB; rw [if_pos p]
theorem valB_no {t : ValT} (p : plainVal t = false) : valB t = [] := by unfold valB; rw [if_neg (by simp [p])]
theorem valsB_yes {ts : List ValT} (h : ts.all plainVal = true) : valsB ts = pList pVal ts := by unfold valsB; rw [if_pos h]
theorem valsB_no {ts : List ValT} (h : ts.all plainVal = false) : valsB ts = [] := by unfold valsB; rw [if_neg (by simp [h])]
end Go.Proofs.YtokneepfknepaaaDoor
