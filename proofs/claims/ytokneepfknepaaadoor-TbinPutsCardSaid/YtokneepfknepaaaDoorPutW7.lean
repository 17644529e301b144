/- The walks of layer 6: lists of heap types and of fields that are plain. -/
import Derived.Test.YtokneepfknepaaaDoorPutW6
set_option linter.unusedSimpArgs false
set_option linter.unusedVariables false
namespace Go.Proofs.YtokneepfknepaaaDoor
open Go.RowKit

set_option maxRecDepth 100000 in
set_option maxHeartbeats 800000 in
theorem all_heap (S : List Nat) (w : World) (v : Value) (ts : List HeapT) (h : Sl S w 2 v ts.length (ts.flatMap heapC)) (hl : ts.length ≤ 1099511627776) :
    Calls Tryd.prog 104 #[v, .func (.func 105) #[] #[]] w fun e w' => e = .returned (.bool (ts.all indexedH)) ∧ Fr [] w w' := by
  have hh := h
  obtain ⟨_, _, a, cap, rfl, _⟩ := h
  go_enter Tryd.func104, Tryd.ntmps104
  go_wp2
  go_loopw [9] (fun n wr => ∃ (i : Nat), n = .int .i64 i ∧ i ≤ ts.length ∧ Fr [] w wr ∧ Hid (ts.all indexedH = (ts.drop i).all indexedH)) (fun n _ => ts.length - (intOf n).toNat)
  case atStart => exact ⟨0, rfl, by omega, Fr.refl _ _, Lib.hid rfl⟩
  case round =>
    obtain ⟨i, rfl, hi, hF, hg⟩ := hrel
    by_cases hlt : i < ts.length
    · obtain ⟨t, ht⟩ : ∃ t, ts[i]? = some t := ⟨ts[i], by simp [hlt]⟩
      obtain ⟨b, off, cap2, hv, hb, hnS, hc⟩ := Sl.elem hh (fun _ => rfl) i t ht
      injection hv with hv1 hv2 hv3
      subst hv1 hv3
      have hbw : b < wr.heap.size := Nat.lt_of_lt_of_le hb hF.size
      have hd := drop_one ts i t ht
      have e0 := (hF.cell hb (by simp) _).trans (hc 0 (by decide))
      have e1 := (hF.cell hb (by simp) _).trans (hc 1 (by decide))
      simp only [Nat.add_zero, ← Nat.add_assoc, heapC, List.getElem?_cons_zero, List.getElem?_cons_succ] at e0 e1
      have f1 := fun o => hF.alloc o
      cases hp : indexedH t
      · have hall : ts.all indexedH = false := by rw [hg.out, hd]; simp [hp]
        have Hall := Lib.hid hall
        clear hall
        go_wp2_with (go_at_call 105; refine (indexed_h _ t).mono ?_; rintro e w2 ⟨rfl, hF2⟩; rw [hp])
        go_ret
        exact ⟨by rw [Hall.out]; rfl, (f1 _).trans hF2⟩
      · have hall : ts.all indexedH = (ts.drop (i + 1)).all indexedH := by rw [hg.out, hd]; simp [hp]
        have Hall := Lib.hid hall
        clear hall
        go_wp2_with (go_at_call 105; refine (indexed_h _ t).mono ?_; rintro e w2 ⟨rfl, hF2⟩; rw [hp])
        go_roundw
        case rel =>

          exact ⟨i + 1, by go_num, by omega, (f1 _).trans hF2, Hall⟩
        case measure => simp [intOf]; omega
    · have hk : i = ts.length := by omega
      subst hk
      have hall : ts.all indexedH = true := by rw [hg.out]; simp
      have Hall := Lib.hid hall
      clear hall
      go_wp2
      go_ret
      exact ⟨by rw [Hall.out]; rfl, hF⟩
set_option maxRecDepth 100000 in
set_option maxHeartbeats 800000 in
theorem all_field (S : List Nat) (w : World) (v : Value) (ts : List FieldT) (h : Sl S w 6 v ts.length (ts.flatMap fieldC)) (hl : ts.length ≤ 1099511627776) :
    Calls Tryd.prog 107 #[v, .func (.func 108) #[] #[]] w fun e w' => e = .returned (.bool (ts.all plainField)) ∧ Fr [] w w' := by
  have hh := h
  obtain ⟨_, _, a, cap, rfl, _⟩ := h
  go_enter Tryd.func107, Tryd.ntmps107
  go_wp2
  go_loopw [9] (fun n wr => ∃ (i : Nat), n = .int .i64 i ∧ i ≤ ts.length ∧ Fr [] w wr ∧ Hid (ts.all plainField = (ts.drop i).all plainField)) (fun n _ => ts.length - (intOf n).toNat)
  case atStart => exact ⟨0, rfl, by omega, Fr.refl _ _, Lib.hid rfl⟩
  case round =>
    obtain ⟨i, rfl, hi, hF, hg⟩ := hrel
    by_cases hlt : i < ts.length
    · obtain ⟨t, ht⟩ : ∃ t, ts[i]? = some t := ⟨ts[i], by simp [hlt]⟩
      obtain ⟨b, off, cap2, hv, hb, hnS, hc⟩ := Sl.elem hh (fun _ => rfl) i t ht
      injection hv with hv1 hv2 hv3
      subst hv1 hv3
      have hbw : b < wr.heap.size := Nat.lt_of_lt_of_le hb hF.size
      have hd := drop_one ts i t ht
      have e0 := (hF.cell hb (by simp) _).trans (hc 0 (by decide))
      have e1 := (hF.cell hb (by simp) _).trans (hc 1 (by decide))
      have e2 := (hF.cell hb (by simp) _).trans (hc 2 (by decide))
      have e3 := (hF.cell hb (by simp) _).trans (hc 3 (by decide))
      have e4 := (hF.cell hb (by simp) _).trans (hc 4 (by decide))
      have e5 := (hF.cell hb (by simp) _).trans (hc 5 (by decide))
      simp only [Nat.add_zero, ← Nat.add_assoc, fieldC, List.getElem?_cons_zero, List.getElem?_cons_succ] at e0 e1 e2 e3 e4 e5
      have f1 := fun o => hF.alloc o
      cases hp : plainField t
      · have hall : ts.all plainField = false := by rw [hg.out, hd]; simp [hp]
        have Hall := Lib.hid hall
        clear hall
        go_wp2_with (go_at_call 108; refine (plainField_any _ t).mono ?_; rintro e w2 ⟨rfl, hF2⟩; rw [hp])
        go_ret
        exact ⟨by rw [Hall.out]; rfl, (f1 _).trans hF2⟩
      · have hall : ts.all plainField = (ts.drop (i + 1)).all plainField := by rw [hg.out, hd]; simp [hp]
        have Hall := Lib.hid hall
        clear hall
        go_wp2_with (go_at_call 108; refine (plainField_any _ t).mono ?_; rintro e w2 ⟨rfl, hF2⟩; rw [hp])
        go_roundw
        case rel =>

          exact ⟨i + 1, by go_num, by omega, (f1 _).trans hF2, Hall⟩
        case measure => simp [intOf]; omega
    · have hk : i = ts.length := by omega
      subst hk
      have hall : ts.all plainField = true := by rw [hg.out]; simp
      have Hall := Lib.hid hall
      clear hall
      go_wp2
      go_ret
      exact ⟨by rw [Hall.out]; rfl, hF⟩
end Go.Proofs.YtokneepfknepaaaDoor
