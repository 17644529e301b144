/- The walks of layer 6: lists are put. -/
import Derived.Test.YtokneepfknepaaaDoorPutW7
set_option linter.unusedSimpArgs false
set_option linter.unusedVariables false
namespace Go.Proofs.YtokneepfknepaaaDoor
open Go.RowKit

theorem flat_len {α : Type} (p : α → List UInt8) (c : Nat) : ∀ (ts : List α), (∀ t, t ∈ ts → (p t).length ≤ c) → (ts.flatMap p).length ≤ c * ts.length
  | [], _ => by simp
  | t :: ts, h => by
    have h1 := h t (by simp)
    have h2 := flat_len p c ts (fun u hu => h u (by simp [hu]))
    rw [List.flatMap_cons, List.length_append, List.length_cons, Nat.mul_succ]
    omega
theorem take_one {α : Type} (ts : List α) (i : Nat) (t : α) (h : ts[i]? = some t) : ts.take (i + 1) = ts.take i ++ [t] := by
  rw [List.take_add_one, h]
  rfl
theorem pSuper_len (h : HeapT) (h1 : h.n < 9223372036854775808) : (pSuper h).length ≤ 16 := by
  have := putU_len h.n.toNat (by omega)
  unfold pSuper
  omega
theorem pField_len (f : FieldT) (hk : f.val.heap.ok) : (pField f).length ≤ 16 := by
  have := pVal_len f.val hk
  unfold pField
  split
  · simp
  · split
    · simp
    · simp; omega

set_option maxRecDepth 100000 in
set_option maxHeartbeats 1600000 in
theorem putList_val {w : World} (v : Value) (hg : Gl (Value.blk v) w) (xs : List UInt8) (sv : Value) (ts : List ValT) (h : Sl (Value.blk v) w 4 sv ts.length (ts.flatMap valC)) (hok : ∀ t, t ∈ ts → t.heap.ok)
    (ho : Out w v xs) (hx : xs.length + 16 * ts.length + 64 ≤ 70368744177664) :
    Calls Tryd.prog 77 #[v, sv, .func (.func 76) #[] #[]] w fun e w' => ∃ v', e = .returned v' ∧ Out w' v' (xs ++ pList pVal ts) ∧ Ap w v w' v' := by
  have hh := h
  obtain ⟨_, _, a, cap, rfl, _⟩ := h
  have hN : ts.length < 18446744073709551616 := by omega
  have hlen := putU_len ts.length hN
  have hb1 : xs.length + (putU ts.length).length ≤ 140737488355328 := by omega
  have hpl : ∀ i, ((ts.take i).flatMap pVal).length ≤ 16 * ts.length := by
    intro i
    have h1 := flat_len pVal 16 (ts.take i) (fun t ht => Nat.le_trans (pVal_len t (hok t (List.mem_of_mem_take ht))) (by omega))
    have h2 : (ts.take i).length ≤ ts.length := by rw [List.length_take]; omega
    have := Nat.mul_le_mul_left 16 h2
    omega
  go_enter Tryd.func77, Tryd.ntmps77
  go_wp2_with first | (go_at_call 113; refine (PutU_any ts.length _ hN).mono ?_; rintro e w2 ⟨v2, rfl, ho2, hN2, hF2⟩; have hs2 := ho2.sl (S' := []) (by simp); have hoo2 := Own.fr ho hF2 (by simp)) | (at_builtin; refine app_u8 rfl (.tmp 9) (.tmp 13) _ rfl _ _ _ rfl hoo2 _ _ _ rfl (hs2.src und_bytes) hb1 ?_; intro v3 w3 hown3 hf3 hb3)
  have ho3 : Out w3 v3 (xs ++ putU ts.length) := Out.app hown3
  have hA3 : Ap w v w3 v3 := (Ap.fr0 hF2).trans (Ap.of hf3 hb3)
  go_loopw [0, 17] (fun u n wr => ∃ (i : Nat), n = .int .i64 i ∧ i ≤ ts.length ∧ Out wr u (xs ++ (putU ts.length ++ (ts.take i).flatMap pVal)) ∧ Ap w v wr u) (fun _ n _ => ts.length - (intOf n).toNat)
  case atStart => exact ⟨0, rfl, by omega, by simpa using ho3, hA3⟩
  case round =>
    obtain ⟨i, rfl, hi, hoi, hAi⟩ := hrel
    have hF := hAi.1
    by_cases hlt : i < ts.length
    · obtain ⟨t, ht⟩ : ∃ t, ts[i]? = some t := ⟨ts[i], by simp [hlt]⟩
      obtain ⟨b, off, cap2, hv, hb, hnS, hc⟩ := Sl.elem hh (fun _ => rfl) i t ht
      injection hv with hv1 hv2 hv3
      subst hv1 hv3
      have hbw : b < wr.heap.size := Nat.lt_of_lt_of_le hb hF.size
      have htm : t ∈ ts := List.mem_of_getElem? ht
      have hpi := hpl i
      have hx2 : (xs ++ (putU ts.length ++ (ts.take i).flatMap pVal)).length + 16 ≤ 70368744177664 := by rw [List.length_append, List.length_append]; omega
      have e0 := (hF.cell hb hnS _).trans (hc 0 (by decide))
      have e1 := (hF.cell hb hnS _).trans (hc 1 (by decide))
      have e2 := (hF.cell hb hnS _).trans (hc 2 (by decide))
      have e3 := (hF.cell hb hnS _).trans (hc 3 (by decide))
      simp only [Nat.add_zero, ← Nat.add_assoc, valC, List.getElem?_cons_zero, List.getElem?_cons_succ] at e0 e1 e2 e3
      have hoa := fun o => Out.alloc hoi o
      have hAa := fun o => hAi.alloc o
      have hokt := hok t htm
      go_wp2_with (go_at_call 76; refine (putVal_any _ (hg.ap (hAa _)) _ t (hoa _) hokt hx2).mono ?_; rintro e w4 ⟨v4, rfl, ho4, hA4⟩)
      go_roundw
      case rel => exact ⟨i + 1, by go_num, by omega, by rw [take_one ts i t ht, List.flatMap_append]; simpa using ho4, (hAa _).trans hA4⟩
      case measure => simp [intOf]; omega
    · have hk : i = ts.length := by omega
      subst hk
      go_wp2
      go_ret
      exact ⟨_, rfl, by simpa [pList] using hoi, hAi⟩

set_option maxRecDepth 100000 in
set_option maxHeartbeats 1600000 in
theorem putList_field {w : World} (v : Value) (hg : Gl (Value.blk v) w) (xs : List UInt8) (sv : Value) (ts : List FieldT) (h : Sl (Value.blk v) w 6 sv ts.length (ts.flatMap fieldC)) (hok : ∀ t, t ∈ ts → t.val.heap.ok)
    (ho : Out w v xs) (hx : xs.length + 16 * ts.length + 64 ≤ 70368744177664) :
    Calls Tryd.prog 111 #[v, sv, .func (.func 112) #[] #[]] w fun e w' => ∃ v', e = .returned v' ∧ Out w' v' (xs ++ pList pField ts) ∧ Ap w v w' v' := by
  have hh := h
  obtain ⟨_, _, a, cap, rfl, _⟩ := h
  have hN : ts.length < 18446744073709551616 := by omega
  have hlen := putU_len ts.length hN
  have hb1 : xs.length + (putU ts.length).length ≤ 140737488355328 := by omega
  have hpl : ∀ i, ((ts.take i).flatMap pField).length ≤ 16 * ts.length := by
    intro i
    have h1 := flat_len pField 16 (ts.take i) (fun t ht => pField_len t (hok t (List.mem_of_mem_take ht)))
    have h2 : (ts.take i).length ≤ ts.length := by rw [List.length_take]; omega
    have := Nat.mul_le_mul_left 16 h2
    omega
  go_enter Tryd.func111, Tryd.ntmps111
  go_wp2_with first | (go_at_call 113; refine (PutU_any ts.length _ hN).mono ?_; rintro e w2 ⟨v2, rfl, ho2, hN2, hF2⟩; have hs2 := ho2.sl (S' := []) (by simp); have hoo2 := Own.fr ho hF2 (by simp)) | (at_builtin; refine app_u8 rfl (.tmp 9) (.tmp 13) _ rfl _ _ _ rfl hoo2 _ _ _ rfl (hs2.src und_bytes) hb1 ?_; intro v3 w3 hown3 hf3 hb3)
  have ho3 : Out w3 v3 (xs ++ putU ts.length) := Out.app hown3
  have hA3 : Ap w v w3 v3 := (Ap.fr0 hF2).trans (Ap.of hf3 hb3)
  go_loopw [0, 17] (fun u n wr => ∃ (i : Nat), n = .int .i64 i ∧ i ≤ ts.length ∧ Out wr u (xs ++ (putU ts.length ++ (ts.take i).flatMap pField)) ∧ Ap w v wr u) (fun _ n _ => ts.length - (intOf n).toNat)
  case atStart => exact ⟨0, rfl, by omega, by simpa using ho3, hA3⟩
  case round =>
    obtain ⟨i, rfl, hi, hoi, hAi⟩ := hrel
    have hF := hAi.1
    by_cases hlt : i < ts.length
    · obtain ⟨t, ht⟩ : ∃ t, ts[i]? = some t := ⟨ts[i], by simp [hlt]⟩
      obtain ⟨b, off, cap2, hv, hb, hnS, hc⟩ := Sl.elem hh (fun _ => rfl) i t ht
      injection hv with hv1 hv2 hv3
      subst hv1 hv3
      have hbw : b < wr.heap.size := Nat.lt_of_lt_of_le hb hF.size
      have htm : t ∈ ts := List.mem_of_getElem? ht
      have hpi := hpl i
      have hx2 : (xs ++ (putU ts.length ++ (ts.take i).flatMap pField)).length + 32 ≤ 70368744177664 := by rw [List.length_append, List.length_append]; omega
      have e0 := (hF.cell hb hnS _).trans (hc 0 (by decide))
      have e1 := (hF.cell hb hnS _).trans (hc 1 (by decide))
      have e2 := (hF.cell hb hnS _).trans (hc 2 (by decide))
      have e3 := (hF.cell hb hnS _).trans (hc 3 (by decide))
      have e4 := (hF.cell hb hnS _).trans (hc 4 (by decide))
      have e5 := (hF.cell hb hnS _).trans (hc 5 (by decide))
      simp only [Nat.add_zero, ← Nat.add_assoc, fieldC, List.getElem?_cons_zero, List.getElem?_cons_succ] at e0 e1 e2 e3 e4 e5
      have hoa := fun o => Out.alloc hoi o
      have hAa := fun o => hAi.alloc o
      have hokt := hok t htm
      go_wp2_with (go_at_call 112; refine (putField_any _ (hg.ap (hAa _)) _ t (hoa _) hokt hx2).mono ?_; rintro e w4 ⟨v4, rfl, ho4, hA4⟩)
      go_roundw
      case rel => exact ⟨i + 1, by go_num, by omega, by rw [take_one ts i t ht, List.flatMap_append]; simpa using ho4, (hAa _).trans hA4⟩
      case measure => simp [intOf]; omega
    · have hk : i = ts.length := by omega
      subst hk
      go_wp2
      go_ret
      exact ⟨_, rfl, by simpa [pList] using hoi, hAi⟩

set_option maxRecDepth 100000 in
set_option maxHeartbeats 1600000 in
theorem putList_heap {w : World} (v : Value) (hg : Gl (Value.blk v) w) (xs : List UInt8) (sv : Value) (ts : List HeapT) (h : Sl (Value.blk v) w 2 sv ts.length (ts.flatMap heapC)) (hok : ∀ t, t ∈ ts → 0 ≤ t.n ∧ t.n < 9223372036854775808)
    (ho : Out w v xs) (hx : xs.length + 16 * ts.length + 64 ≤ 70368744177664) :
    Calls Tryd.prog 109 #[v, sv, .func (.func 110) #[] #[]] w fun e w' => ∃ v', e = .returned v' ∧ Out w' v' (xs ++ pList pSuper ts) ∧ Ap w v w' v' := by
  have hh := h
  obtain ⟨_, _, a, cap, rfl, _⟩ := h
  have hN : ts.length < 18446744073709551616 := by omega
  have hlen := putU_len ts.length hN
  have hb1 : xs.length + (putU ts.length).length ≤ 140737488355328 := by omega
  have hpl : ∀ i, ((ts.take i).flatMap pSuper).length ≤ 16 * ts.length := by
    intro i
    have h1 := flat_len pSuper 16 (ts.take i) (fun t ht => pSuper_len t (hok t (List.mem_of_mem_take ht)).2)
    have h2 : (ts.take i).length ≤ ts.length := by rw [List.length_take]; omega
    have := Nat.mul_le_mul_left 16 h2
    omega
  go_enter Tryd.func109, Tryd.ntmps109
  go_wp2_with first | (go_at_call 113; refine (PutU_any ts.length _ hN).mono ?_; rintro e w2 ⟨v2, rfl, ho2, hN2, hF2⟩; have hs2 := ho2.sl (S' := []) (by simp); have hoo2 := Own.fr ho hF2 (by simp)) | (at_builtin; refine app_u8 rfl (.tmp 9) (.tmp 13) _ rfl _ _ _ rfl hoo2 _ _ _ rfl (hs2.src und_bytes) hb1 ?_; intro v3 w3 hown3 hf3 hb3)
  have ho3 : Out w3 v3 (xs ++ putU ts.length) := Out.app hown3
  have hA3 : Ap w v w3 v3 := (Ap.fr0 hF2).trans (Ap.of hf3 hb3)
  go_loopw [0, 17] (fun u n wr => ∃ (i : Nat), n = .int .i64 i ∧ i ≤ ts.length ∧ Out wr u (xs ++ (putU ts.length ++ (ts.take i).flatMap pSuper)) ∧ Ap w v wr u) (fun _ n _ => ts.length - (intOf n).toNat)
  case atStart => exact ⟨0, rfl, by omega, by simpa using ho3, hA3⟩
  case round =>
    obtain ⟨i, rfl, hi, hoi, hAi⟩ := hrel
    have hF := hAi.1
    by_cases hlt : i < ts.length
    · obtain ⟨t, ht⟩ : ∃ t, ts[i]? = some t := ⟨ts[i], by simp [hlt]⟩
      obtain ⟨b, off, cap2, hv, hb, hnS, hc⟩ := Sl.elem hh (fun _ => rfl) i t ht
      injection hv with hv1 hv2 hv3
      subst hv1 hv3
      have hbw : b < wr.heap.size := Nat.lt_of_lt_of_le hb hF.size
      have htm : t ∈ ts := List.mem_of_getElem? ht
      have hpi := hpl i
      have hx2 : (xs ++ (putU ts.length ++ (ts.take i).flatMap pSuper)).length + 16 ≤ 70368744177664 := by rw [List.length_append, List.length_append]; omega
      have e0 := (hF.cell hb hnS _).trans (hc 0 (by decide))
      have e1 := (hF.cell hb hnS _).trans (hc 1 (by decide))
      simp only [Nat.add_zero, ← Nat.add_assoc, heapC, List.getElem?_cons_zero, List.getElem?_cons_succ] at e0 e1
      have hoa := fun o => Out.alloc hoi o
      have hAa := fun o => hAi.alloc o
      have hokt := hok t htm
      go_wp2_with (go_at_call 110; refine (putSuper_any _ _ t (hoa _) hokt.1 hokt.2 hx2).mono ?_; rintro e w4 ⟨v4, rfl, ho4, hA4⟩)
      go_roundw
      case rel => exact ⟨i + 1, by go_num, by omega, by rw [take_one ts i t ht, List.flatMap_append]; simpa using ho4, (hAa _).trans hA4⟩
      case measure => simp [intOf]; omega
    · have hk : i = ts.length := by omega
      subst hk
      go_wp2
      go_ret
      exact ⟨_, rfl, by simpa [pList] using hoi, hAi⟩

end Go.Proofs.YtokneepfknepaaaDoor
