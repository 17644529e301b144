/- The walks of layer 6: lists of what is plain. -/
import Derived.Test.YtokneepfknepaaaDoorPutW5
set_option linter.unusedSimpArgs false
set_option linter.unusedVariables false
namespace Go.Proofs.YtokneepfknepaaaDoor
open Go.RowKit

theorem flat_get {α : Type} (f : α → List Value) (k : Nat) (hk : ∀ t, (f t).length = k) : ∀ (ts : List α) (i : Nat) (t : α), ts[i]? = some t → ∀ r, r < k → (ts.flatMap f)[i * k + r]? = (f t)[r]? := by
  intro ts
  induction ts with
  | nil => intro i t h; simp at h
  | cons a ts ih =>
    intro i t h r hr
    rw [List.flatMap_cons]
    cases i with
    | zero =>
      simp at h
      subst h
      rw [List.getElem?_append_left (by rw [hk]; omega)]
      simp
    | succ i =>
      simp at h
      rw [List.getElem?_append_right (by rw [hk, Nat.succ_mul]; omega), hk, ← ih i t h r hr]
      congr 1
      rw [Nat.succ_mul]
      omega

theorem drop_one {α : Type} (ts : List α) (i : Nat) (t : α) (h : ts[i]? = some t) : ts.drop i = t :: ts.drop (i + 1) := by
  obtain ⟨h1, h2⟩ := List.getElem?_eq_some_iff.1 h
  rw [List.drop_eq_getElem_cons h1, h2]

/-- An element of a slice that is read. -/
theorem Sl.elem {α : Type} {S : List Nat} {w : World} {k : Nat} {v : Value} {f : α → List Value} {ts : List α} (h : Sl S w k v ts.length (ts.flatMap f)) (hk : ∀ t, (f t).length = k) (i : Nat) (t : α) (hi : ts[i]? = some t) :
    ∃ b off cap, v = .slice (some ⟨b, off, none⟩) ts.length cap ∧ b < w.heap.size ∧ b ∉ S ∧ ∀ r, r < k → w.cell? ⟨b, off + (i * k + r), none⟩ = (f t)[r]? := by
  obtain ⟨h1, h2, a, cap, rfl, h4, h5, hN, h6⟩ := h
  have hlt : i < ts.length := (List.getElem?_eq_some_iff.1 hi).1
  rcases h6 with h6 | ⟨b, off, rfl, hn, hb, hc⟩
  · omega
  · refine ⟨b, off, cap, rfl, hb, hn, fun r hr => ?_⟩
    have h7 : i * k + r < ts.length * k := by
      have := Nat.mul_le_mul_right k (show i + 1 ≤ ts.length from hlt)
      rw [Nat.succ_mul] at this
      omega
    rw [hc _ h7, flat_get f k hk ts i t hi r hr]

set_option maxRecDepth 100000 in
set_option maxHeartbeats 800000 in
theorem all_val (S : List Nat) (w : World) (v : Value) (ts : List ValT) (h : Sl S w 4 v ts.length (ts.flatMap valC)) (hl : ts.length ≤ 1099511627776) :
    Calls Tryd.prog 106 #[v, .func (.func 75) #[] #[]] w fun e w' => e = .returned (.bool (ts.all plainVal)) ∧ Fr [] w w' := by
  have hh := h
  obtain ⟨_, _, a, cap, rfl, _⟩ := h
  go_enter Tryd.func106, Tryd.ntmps106
  go_wp2
  go_loopw [9] (fun n wr => ∃ (i : Nat), n = .int .i64 i ∧ i ≤ ts.length ∧ Fr [] w wr ∧ Hid (ts.all plainVal = (ts.drop i).all plainVal)) (fun n _ => ts.length - (intOf n).toNat)
  case atStart => exact ⟨0, rfl, by omega, Fr.refl _ _, Lib.hid rfl⟩
  case round =>
    obtain ⟨i, rfl, hi, hF, hg⟩ := hrel
    by_cases hlt : i < ts.length
    · obtain ⟨t, ht⟩ : ∃ t, ts[i]? = some t := ⟨ts[i], by simp [hlt]⟩
      obtain ⟨b, off, cap2, hv, hb, hnS, hc⟩ := Sl.elem hh (fun _ => rfl) i t ht
      injection hv with hv1 hv2 hv3
      subst hv1 hv3
      have hbw : b < wr.heap.size := Nat.lt_of_lt_of_le hb hF.size
      have hd := drop_one ts i t ht
      have e0 := (hF.cell hb (by simp) _).trans (hc 0 (by decide))
      have e1 := (hF.cell hb (by simp) _).trans (hc 1 (by decide))
      have e2 := (hF.cell hb (by simp) _).trans (hc 2 (by decide))
      have e3 := (hF.cell hb (by simp) _).trans (hc 3 (by decide))
      simp only [Nat.add_zero, ← Nat.add_assoc, valC, List.getElem?_cons_zero, List.getElem?_cons_succ] at e0 e1 e2 e3
      have f1 := fun o => hF.alloc o
      cases hp : plainVal t
      · have hall : ts.all plainVal = false := by rw [hg.out, hd]; simp [hp]
        have Hall := Lib.hid hall
        clear hall
        go_wp2_with (go_at_call 75; refine (plainVal_any _ t).mono ?_; rintro e w2 ⟨rfl, hF2⟩; rw [hp])
        go_ret
        exact ⟨by rw [Hall.out]; rfl, (f1 _).trans hF2⟩
      · have hall : ts.all plainVal = (ts.drop (i + 1)).all plainVal := by rw [hg.out, hd]; simp [hp]
        have Hall := Lib.hid hall
        clear hall
        go_wp2_with (go_at_call 75; refine (plainVal_any _ t).mono ?_; rintro e w2 ⟨rfl, hF2⟩; rw [hp])
        go_roundw
        case rel =>

          exact ⟨i + 1, by go_num, by omega, (f1 _).trans hF2, Hall⟩
        case measure => simp [intOf]; omega
    · have hk : i = ts.length := by omega
      subst hk
      have hall : ts.all plainVal = true := by rw [hg.out]; simp
      have Hall := Lib.hid hall
      clear hall
      go_wp2
      go_ret
      exact ⟨by rw [Hall.out]; rfl, hF⟩
end Go.Proofs.YtokneepfknepaaaDoor
