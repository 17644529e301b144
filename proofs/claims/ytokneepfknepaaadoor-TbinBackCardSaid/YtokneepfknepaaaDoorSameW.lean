/- The walks of layer 4: are two lists the same? -/
import Derived.Test.YtokneepfknepaaaDoorPutWC
import Derived.Laws.StructEq
namespace Go.Proofs.YtokneepfknepaaaDoor
open Go.RowKit

theorem beq_i {a b : Int} : (a == b) = true ∧ a = b ∨ (a == b) = false ∧ a ≠ b := by
  by_cases h : a = b
  · exact .inl ⟨by simpa using h, h⟩
  · exact .inr ⟨by simpa using h, h⟩
theorem beq_b {a b : Bool} : (a == b) = true ∧ a = b ∨ (a == b) = false ∧ a ≠ b := by
  cases a <;> cases b <;> simp
theorem take_eq_at {α : Type} {xs ys : List α} {i : Nat} {x y : α} (h : xs.take i = ys.take i) (hx : xs[i]? = some x) (hy : ys[i]? = some y) (he : x = y) : xs.take (i + 1) = ys.take (i + 1) := by
  rw [take_one xs i x hx, take_one ys i y hy, h, he]
theorem ne_at {α : Type} {xs ys : List α} {i : Nat} {x y : α} (hx : xs[i]? = some x) (hy : ys[i]? = some y) (he : x ≠ y) : xs ≠ ys := by
  rintro rfl
  exact he (Option.some.inj (hx.symm.trans hy))

set_option maxRecDepth 100000 in
set_option maxHeartbeats 3200000 in
theorem equal_heap (w : World) (a b : Value) (xs ys : List HeapT) (h1 : Sl [] w 2 a xs.length (xs.flatMap heapC)) (h2 : Sl [] w 2 b ys.length (ys.flatMap heapC)) :
    Calls Tryd.prog 117 #[a, b] w fun e w' => e = .returned (.bool (decide (xs = ys))) ∧ Fr [] w w' := by
  have hh1 := h1
  have hh2 := h2
  have hm1 := h1.2.2
  obtain ⟨a1, c1, rfl, hc1, hm1, _⟩ := hm1
  obtain ⟨a2, c2, rfl⟩ := h2.shape
  unfold maxLen at hm1
  have hbig : xs.length ≤ 9223372036854775807 := by omega
  clear hm1 hc1 h1 h2
  by_cases hlen : xs.length = ys.length
  · have gl : (((xs.length : Nat) : Int) != ((ys.length : Nat) : Int)) = false := by simp; omega
    have Hlen := Lib.hid hlen
    clear hlen
    go_enter Tryd.func117, Tryd.ntmps117
    go_wp2
    go_loopw [13] (fun n wr => ∃ (i : Nat), n = .int .i64 i ∧ i ≤ xs.length ∧ Fr [] w wr ∧ Hid (xs.take i = ys.take i)) (fun n _ => xs.length - (intOf n).toNat)
    case atStart => exact ⟨0, rfl, by omega, Fr.refl _ _, Lib.hid rfl⟩
    case round =>
      obtain ⟨i, rfl, hi, hF, ht⟩ := hrel
      by_cases hlt : i < xs.length
      · have hlt2 : i < ys.length := by have := Hlen.out; omega
        obtain ⟨x, hx⟩ : ∃ t, xs[i]? = some t := ⟨xs[i], by simp [hlt]⟩
        obtain ⟨y, hy⟩ : ∃ t, ys[i]? = some t := ⟨ys[i], by simp [hlt2]⟩
        obtain ⟨b1, o1, p1, hv1, hb1, _, hd1⟩ := Sl.elem hh1 (fun _ => rfl) i x hx
        obtain ⟨b2, o2, p2, hv2, hb2, _, hd2⟩ := Sl.elem hh2 (fun _ => rfl) i y hy
        injection hv1 with e1 _ e1c
        injection hv2 with e2 _ e2c
        subst e1 e2 e1c e2c
        have f10 := (hF.cell hb1 (by simp) _).trans (hd1 0 (by decide))
        have f11 := (hF.cell hb1 (by simp) _).trans (hd1 1 (by decide))
        have f20 := (hF.cell hb2 (by simp) _).trans (hd2 0 (by decide))
        have f21 := (hF.cell hb2 (by simp) _).trans (hd2 1 (by decide))
        clear hd1 hd2
        obtain ⟨k1, n1⟩ := x
        obtain ⟨k2, n2⟩ := y
        simp only [Nat.add_zero, ← Nat.add_assoc, heapC, List.getElem?_cons_zero, List.getElem?_cons_succ] at f10 f11 f20 f21
        have i1 : (i : Int) < (xs.length : Int) := by omega
        have i2 : (i : Int) < (ys.length : Int) := by omega
        have Hx := Lib.hid hx
        have Hy := Lib.hid hy
        clear hx hy
        rcases beq_i (a := k1) (b := k2) with ⟨g0, q0⟩ | ⟨g0, q0⟩
        rotate_left
        · have hne : decide (xs = ys) = false := decide_eq_false (ne_at Hx.out Hy.out (by intro h; injections; contradiction))
          have Hne := Lib.hid hne
          clear hne q0
          go_wp2_with fail
          go_quiet (fail)
          go_wp2
          go_ret
          exact ⟨by rw [Hne.out]; rfl, by repeat (first | (with_reducible exact Fr.refl _ _) | (with_reducible assumption) | (with_reducible apply Fr.alloc) | (with_reducible apply Fr.drew) | (with_reducible apply Fr.drewN) | (with_reducible refine Fr.setCell ?_ (by first | (left; simp; done) | (right; simp; done) | (right; simp; omega)) _))⟩
        rcases beq_i (a := n1) (b := n2) with ⟨g1, q1⟩ | ⟨g1, q1⟩
        rotate_left
        · have hne : decide (xs = ys) = false := decide_eq_false (ne_at Hx.out Hy.out (by intro h; injections; contradiction))
          have Hne := Lib.hid hne
          clear hne q0 q1
          go_wp2_with fail
          go_quiet (fail)
          go_wp2
          go_ret
          exact ⟨by rw [Hne.out]; rfl, by repeat (first | (with_reducible exact Fr.refl _ _) | (with_reducible assumption) | (with_reducible apply Fr.alloc) | (with_reducible apply Fr.drew) | (with_reducible apply Fr.drewN) | (with_reducible refine Fr.setCell ?_ (by first | (left; simp; done) | (right; simp; done) | (right; simp; omega)) _))⟩
        have hn := take_eq_at ht.out Hx.out Hy.out (by subst q0 q1; rfl)
        have Hn := Lib.hid hn
        clear hn q0 q1
        go_wp2_with fail
        go_quiet (fail)
        go_wp2
        go_roundw
        case rel => exact ⟨i + 1, by go_num, by omega, by repeat (first | (with_reducible exact Fr.refl _ _) | (with_reducible assumption) | (with_reducible apply Fr.alloc) | (with_reducible apply Fr.drew) | (with_reducible apply Fr.drewN) | (with_reducible refine Fr.setCell ?_ (by first | (left; simp; done) | (right; simp; done) | (right; simp; omega)) _)), Hn⟩
        case measure => simp [intOf]; omega
      · have hk : i = xs.length := by omega
        have he : decide (xs = ys) = true := decide_eq_true (by
          have := ht.out
          rw [List.take_of_length_le (by omega), List.take_of_length_le (by have := Hlen.out; omega)] at this
          exact this)
        have He := Lib.hid he
        clear he
        have i1 : ¬ (i : Int) < (xs.length : Int) := by omega
        go_wp2
        go_ret
        exact ⟨by rw [He.out]; rfl, hF⟩
  · have gl : (((xs.length : Nat) : Int) != ((ys.length : Nat) : Int)) = true := by simp; omega
    have he : decide (xs = ys) = false := decide_eq_false (fun h => hlen (by rw [h]))
    have He := Lib.hid he
    clear he hlen
    go_enter Tryd.func117, Tryd.ntmps117
    go_wp2
    go_ret
    exact ⟨by rw [He.out]; rfl, Fr.refl _ _⟩

set_option maxRecDepth 100000 in
set_option maxHeartbeats 3200000 in
theorem equal_val (w : World) (a b : Value) (xs ys : List ValT) (h1 : Sl [] w 4 a xs.length (xs.flatMap valC)) (h2 : Sl [] w 4 b ys.length (ys.flatMap valC)) :
    Calls Tryd.prog 143 #[a, b] w fun e w' => e = .returned (.bool (decide (xs = ys))) ∧ Fr [] w w' := by
  have hh1 := h1
  have hh2 := h2
  have hm1 := h1.2.2
  obtain ⟨a1, c1, rfl, hc1, hm1, _⟩ := hm1
  obtain ⟨a2, c2, rfl⟩ := h2.shape
  unfold maxLen at hm1
  have hbig : xs.length ≤ 9223372036854775807 := by omega
  clear hm1 hc1 h1 h2
  by_cases hlen : xs.length = ys.length
  · have gl : (((xs.length : Nat) : Int) != ((ys.length : Nat) : Int)) = false := by simp; omega
    have Hlen := Lib.hid hlen
    clear hlen
    go_enter Tryd.func143, Tryd.ntmps143
    go_wp2
    go_loopw [13] (fun n wr => ∃ (i : Nat), n = .int .i64 i ∧ i ≤ xs.length ∧ Fr [] w wr ∧ Hid (xs.take i = ys.take i)) (fun n _ => xs.length - (intOf n).toNat)
    case atStart => exact ⟨0, rfl, by omega, Fr.refl _ _, Lib.hid rfl⟩
    case round =>
      obtain ⟨i, rfl, hi, hF, ht⟩ := hrel
      by_cases hlt : i < xs.length
      · have hlt2 : i < ys.length := by have := Hlen.out; omega
        obtain ⟨x, hx⟩ : ∃ t, xs[i]? = some t := ⟨xs[i], by simp [hlt]⟩
        obtain ⟨y, hy⟩ : ∃ t, ys[i]? = some t := ⟨ys[i], by simp [hlt2]⟩
        obtain ⟨b1, o1, p1, hv1, hb1, _, hd1⟩ := Sl.elem hh1 (fun _ => rfl) i x hx
        obtain ⟨b2, o2, p2, hv2, hb2, _, hd2⟩ := Sl.elem hh2 (fun _ => rfl) i y hy
        injection hv1 with e1 _ e1c
        injection hv2 with e2 _ e2c
        subst e1 e2 e1c e2c
        have f10 := (hF.cell hb1 (by simp) _).trans (hd1 0 (by decide))
        have f11 := (hF.cell hb1 (by simp) _).trans (hd1 1 (by decide))
        have f12 := (hF.cell hb1 (by simp) _).trans (hd1 2 (by decide))
        have f13 := (hF.cell hb1 (by simp) _).trans (hd1 3 (by decide))
        have f20 := (hF.cell hb2 (by simp) _).trans (hd2 0 (by decide))
        have f21 := (hF.cell hb2 (by simp) _).trans (hd2 1 (by decide))
        have f22 := (hF.cell hb2 (by simp) _).trans (hd2 2 (by decide))
        have f23 := (hF.cell hb2 (by simp) _).trans (hd2 3 (by decide))
        clear hd1 hd2
        obtain ⟨k1, z1, ⟨hk1, hn1⟩⟩ := x
        obtain ⟨k2, z2, ⟨hk2, hn2⟩⟩ := y
        simp only [Nat.add_zero, ← Nat.add_assoc, valC, List.getElem?_cons_zero, List.getElem?_cons_succ] at f10 f11 f12 f13 f20 f21 f22 f23
        have i1 : (i : Int) < (xs.length : Int) := by omega
        have i2 : (i : Int) < (ys.length : Int) := by omega
        have Hx := Lib.hid hx
        have Hy := Lib.hid hy
        clear hx hy
        rcases beq_i (a := k1) (b := k2) with ⟨g0, q0⟩ | ⟨g0, q0⟩
        rotate_left
        · have hne : decide (xs = ys) = false := decide_eq_false (ne_at Hx.out Hy.out (by intro h; injections; contradiction))
          have Hne := Lib.hid hne
          clear hne q0
          go_wp2_with fail
          go_quiet (fail)
          go_wp2
          go_ret
          exact ⟨by rw [Hne.out]; rfl, by repeat (first | (with_reducible exact Fr.refl _ _) | (with_reducible assumption) | (with_reducible apply Fr.alloc) | (with_reducible apply Fr.drew) | (with_reducible apply Fr.drewN) | (with_reducible refine Fr.setCell ?_ (by first | (left; simp; done) | (right; simp; done) | (right; simp; omega)) _))⟩
        rcases beq_b (a := z1) (b := z2) with ⟨g1, q1⟩ | ⟨g1, q1⟩
        rotate_left
        · have hne : decide (xs = ys) = false := decide_eq_false (ne_at Hx.out Hy.out (by intro h; injections; contradiction))
          have Hne := Lib.hid hne
          clear hne q0 q1
          go_wp2_with fail
          go_quiet (fail)
          go_wp2
          go_ret
          exact ⟨by rw [Hne.out]; rfl, by repeat (first | (with_reducible exact Fr.refl _ _) | (with_reducible assumption) | (with_reducible apply Fr.alloc) | (with_reducible apply Fr.drew) | (with_reducible apply Fr.drewN) | (with_reducible refine Fr.setCell ?_ (by first | (left; simp; done) | (right; simp; done) | (right; simp; omega)) _))⟩
        rcases beq_i (a := hk1) (b := hk2) with ⟨g2, q2⟩ | ⟨g2, q2⟩
        rotate_left
        · have hne : decide (xs = ys) = false := decide_eq_false (ne_at Hx.out Hy.out (by intro h; injections; contradiction))
          have Hne := Lib.hid hne
          clear hne q0 q1 q2
          go_wp2_with fail
          go_quiet (fail)
          go_wp2
          go_ret
          exact ⟨by rw [Hne.out]; rfl, by repeat (first | (with_reducible exact Fr.refl _ _) | (with_reducible assumption) | (with_reducible apply Fr.alloc) | (with_reducible apply Fr.drew) | (with_reducible apply Fr.drewN) | (with_reducible refine Fr.setCell ?_ (by first | (left; simp; done) | (right; simp; done) | (right; simp; omega)) _))⟩
        rcases beq_i (a := hn1) (b := hn2) with ⟨g3, q3⟩ | ⟨g3, q3⟩
        rotate_left
        · have hne : decide (xs = ys) = false := decide_eq_false (ne_at Hx.out Hy.out (by intro h; injections; contradiction))
          have Hne := Lib.hid hne
          clear hne q0 q1 q2 q3
          go_wp2_with fail
          go_quiet (fail)
          go_wp2
          go_ret
          exact ⟨by rw [Hne.out]; rfl, by repeat (first | (with_reducible exact Fr.refl _ _) | (with_reducible assumption) | (with_reducible apply Fr.alloc) | (with_reducible apply Fr.drew) | (with_reducible apply Fr.drewN) | (with_reducible refine Fr.setCell ?_ (by first | (left; simp; done) | (right; simp; done) | (right; simp; omega)) _))⟩
        have hn := take_eq_at ht.out Hx.out Hy.out (by subst q0 q1 q2 q3; rfl)
        have Hn := Lib.hid hn
        clear hn q0 q1 q2 q3
        go_wp2_with fail
        go_quiet (fail)
        go_wp2
        go_roundw
        case rel => exact ⟨i + 1, by go_num, by omega, by repeat (first | (with_reducible exact Fr.refl _ _) | (with_reducible assumption) | (with_reducible apply Fr.alloc) | (with_reducible apply Fr.drew) | (with_reducible apply Fr.drewN) | (with_reducible refine Fr.setCell ?_ (by first | (left; simp; done) | (right; simp; done) | (right; simp; omega)) _)), Hn⟩
        case measure => simp [intOf]; omega
      · have hk : i = xs.length := by omega
        have he : decide (xs = ys) = true := decide_eq_true (by
          have := ht.out
          rw [List.take_of_length_le (by omega), List.take_of_length_le (by have := Hlen.out; omega)] at this
          exact this)
        have He := Lib.hid he
        clear he
        have i1 : ¬ (i : Int) < (xs.length : Int) := by omega
        go_wp2
        go_ret
        exact ⟨by rw [He.out]; rfl, hF⟩
  · have gl : (((xs.length : Nat) : Int) != ((ys.length : Nat) : Int)) = true := by simp; omega
    have he : decide (xs = ys) = false := decide_eq_false (fun h => hlen (by rw [h]))
    have He := Lib.hid he
    clear he hlen
    go_enter Tryd.func143, Tryd.ntmps143
    go_wp2
    go_ret
    exact ⟨by rw [He.out]; rfl, Fr.refl _ _⟩

set_option maxRecDepth 100000 in
set_option maxHeartbeats 3200000 in
theorem equal_field (w : World) (a b : Value) (xs ys : List FieldT) (h1 : Sl [] w 6 a xs.length (xs.flatMap fieldC)) (h2 : Sl [] w 6 b ys.length (ys.flatMap fieldC)) :
    Calls Tryd.prog 119 #[a, b] w fun e w' => e = .returned (.bool (decide (xs = ys))) ∧ Fr [] w w' := by
  have hh1 := h1
  have hh2 := h2
  have hm1 := h1.2.2
  obtain ⟨a1, c1, rfl, hc1, hm1, _⟩ := hm1
  obtain ⟨a2, c2, rfl⟩ := h2.shape
  unfold maxLen at hm1
  have hbig : xs.length ≤ 9223372036854775807 := by omega
  clear hm1 hc1 h1 h2
  by_cases hlen : xs.length = ys.length
  · have gl : (((xs.length : Nat) : Int) != ((ys.length : Nat) : Int)) = false := by simp; omega
    have Hlen := Lib.hid hlen
    clear hlen
    go_enter Tryd.func119, Tryd.ntmps119
    go_wp2
    go_loopw [13] (fun n wr => ∃ (i : Nat), n = .int .i64 i ∧ i ≤ xs.length ∧ Fr [] w wr ∧ Hid (xs.take i = ys.take i)) (fun n _ => xs.length - (intOf n).toNat)
    case atStart => exact ⟨0, rfl, by omega, Fr.refl _ _, Lib.hid rfl⟩
    case round =>
      obtain ⟨i, rfl, hi, hF, ht⟩ := hrel
      by_cases hlt : i < xs.length
      · have hlt2 : i < ys.length := by have := Hlen.out; omega
        obtain ⟨x, hx⟩ : ∃ t, xs[i]? = some t := ⟨xs[i], by simp [hlt]⟩
        obtain ⟨y, hy⟩ : ∃ t, ys[i]? = some t := ⟨ys[i], by simp [hlt2]⟩
        obtain ⟨b1, o1, p1, hv1, hb1, _, hd1⟩ := Sl.elem hh1 (fun _ => rfl) i x hx
        obtain ⟨b2, o2, p2, hv2, hb2, _, hd2⟩ := Sl.elem hh2 (fun _ => rfl) i y hy
        injection hv1 with e1 _ e1c
        injection hv2 with e2 _ e2c
        subst e1 e2 e1c e2c
        have f10 := (hF.cell hb1 (by simp) _).trans (hd1 0 (by decide))
        have f11 := (hF.cell hb1 (by simp) _).trans (hd1 1 (by decide))
        have f12 := (hF.cell hb1 (by simp) _).trans (hd1 2 (by decide))
        have f13 := (hF.cell hb1 (by simp) _).trans (hd1 3 (by decide))
        have f14 := (hF.cell hb1 (by simp) _).trans (hd1 4 (by decide))
        have f15 := (hF.cell hb1 (by simp) _).trans (hd1 5 (by decide))
        have f20 := (hF.cell hb2 (by simp) _).trans (hd2 0 (by decide))
        have f21 := (hF.cell hb2 (by simp) _).trans (hd2 1 (by decide))
        have f22 := (hF.cell hb2 (by simp) _).trans (hd2 2 (by decide))
        have f23 := (hF.cell hb2 (by simp) _).trans (hd2 3 (by decide))
        have f24 := (hF.cell hb2 (by simp) _).trans (hd2 4 (by decide))
        have f25 := (hF.cell hb2 (by simp) _).trans (hd2 5 (by decide))
        clear hd1 hd2
        obtain ⟨p1, ⟨k1, z1, ⟨hk1, hn1⟩⟩, m1⟩ := x
        obtain ⟨p2, ⟨k2, z2, ⟨hk2, hn2⟩⟩, m2⟩ := y
        simp only [Nat.add_zero, ← Nat.add_assoc, fieldC, List.getElem?_cons_zero, List.getElem?_cons_succ] at f10 f11 f12 f13 f14 f15 f20 f21 f22 f23 f24 f25
        have i1 : (i : Int) < (xs.length : Int) := by omega
        have i2 : (i : Int) < (ys.length : Int) := by omega
        have Hx := Lib.hid hx
        have Hy := Lib.hid hy
        clear hx hy
        rcases beq_i (a := p1) (b := p2) with ⟨g0, q0⟩ | ⟨g0, q0⟩
        rotate_left
        · have hne : decide (xs = ys) = false := decide_eq_false (ne_at Hx.out Hy.out (by intro h; injections; contradiction))
          have Hne := Lib.hid hne
          clear hne q0
          go_wp2_with fail
          go_quiet (fail)
          go_wp2
          go_ret
          exact ⟨by rw [Hne.out]; rfl, by repeat (first | (with_reducible exact Fr.refl _ _) | (with_reducible assumption) | (with_reducible apply Fr.alloc) | (with_reducible apply Fr.drew) | (with_reducible apply Fr.drewN) | (with_reducible refine Fr.setCell ?_ (by first | (left; simp; done) | (right; simp; done) | (right; simp; omega)) _))⟩
        rcases beq_i (a := k1) (b := k2) with ⟨g1, q1⟩ | ⟨g1, q1⟩
        rotate_left
        · have hne : decide (xs = ys) = false := decide_eq_false (ne_at Hx.out Hy.out (by intro h; injections; contradiction))
          have Hne := Lib.hid hne
          clear hne q0 q1
          go_wp2_with fail
          go_quiet (fail)
          go_wp2
          go_ret
          exact ⟨by rw [Hne.out]; rfl, by repeat (first | (with_reducible exact Fr.refl _ _) | (with_reducible assumption) | (with_reducible apply Fr.alloc) | (with_reducible apply Fr.drew) | (with_reducible apply Fr.drewN) | (with_reducible refine Fr.setCell ?_ (by first | (left; simp; done) | (right; simp; done) | (right; simp; omega)) _))⟩
        rcases beq_b (a := z1) (b := z2) with ⟨g2, q2⟩ | ⟨g2, q2⟩
        rotate_left
        · have hne : decide (xs = ys) = false := decide_eq_false (ne_at Hx.out Hy.out (by intro h; injections; contradiction))
          have Hne := Lib.hid hne
          clear hne q0 q1 q2
          go_wp2_with fail
          go_quiet (fail)
          go_wp2
          go_ret
          exact ⟨by rw [Hne.out]; rfl, by repeat (first | (with_reducible exact Fr.refl _ _) | (with_reducible assumption) | (with_reducible apply Fr.alloc) | (with_reducible apply Fr.drew) | (with_reducible apply Fr.drewN) | (with_reducible refine Fr.setCell ?_ (by first | (left; simp; done) | (right; simp; done) | (right; simp; omega)) _))⟩
        rcases beq_i (a := hk1) (b := hk2) with ⟨g3, q3⟩ | ⟨g3, q3⟩
        rotate_left
        · have hne : decide (xs = ys) = false := decide_eq_false (ne_at Hx.out Hy.out (by intro h; injections; contradiction))
          have Hne := Lib.hid hne
          clear hne q0 q1 q2 q3
          go_wp2_with fail
          go_quiet (fail)
          go_wp2
          go_ret
          exact ⟨by rw [Hne.out]; rfl, by repeat (first | (with_reducible exact Fr.refl _ _) | (with_reducible assumption) | (with_reducible apply Fr.alloc) | (with_reducible apply Fr.drew) | (with_reducible apply Fr.drewN) | (with_reducible refine Fr.setCell ?_ (by first | (left; simp; done) | (right; simp; done) | (right; simp; omega)) _))⟩
        rcases beq_i (a := hn1) (b := hn2) with ⟨g4, q4⟩ | ⟨g4, q4⟩
        rotate_left
        · have hne : decide (xs = ys) = false := decide_eq_false (ne_at Hx.out Hy.out (by intro h; injections; contradiction))
          have Hne := Lib.hid hne
          clear hne q0 q1 q2 q3 q4
          go_wp2_with fail
          go_quiet (fail)
          go_wp2
          go_ret
          exact ⟨by rw [Hne.out]; rfl, by repeat (first | (with_reducible exact Fr.refl _ _) | (with_reducible assumption) | (with_reducible apply Fr.alloc) | (with_reducible apply Fr.drew) | (with_reducible apply Fr.drewN) | (with_reducible refine Fr.setCell ?_ (by first | (left; simp; done) | (right; simp; done) | (right; simp; omega)) _))⟩
        rcases beq_b (a := m1) (b := m2) with ⟨g5, q5⟩ | ⟨g5, q5⟩
        rotate_left
        · have hne : decide (xs = ys) = false := decide_eq_false (ne_at Hx.out Hy.out (by intro h; injections; contradiction))
          have Hne := Lib.hid hne
          clear hne q0 q1 q2 q3 q4 q5
          go_wp2_with fail
          go_quiet (fail)
          go_wp2
          go_ret
          exact ⟨by rw [Hne.out]; rfl, by repeat (first | (with_reducible exact Fr.refl _ _) | (with_reducible assumption) | (with_reducible apply Fr.alloc) | (with_reducible apply Fr.drew) | (with_reducible apply Fr.drewN) | (with_reducible refine Fr.setCell ?_ (by first | (left; simp; done) | (right; simp; done) | (right; simp; omega)) _))⟩
        have hn := take_eq_at ht.out Hx.out Hy.out (by subst q0 q1 q2 q3 q4 q5; rfl)
        have Hn := Lib.hid hn
        clear hn q0 q1 q2 q3 q4 q5
        go_wp2_with fail
        go_quiet (fail)
        go_wp2
        go_roundw
        case rel => exact ⟨i + 1, by go_num, by omega, by repeat (first | (with_reducible exact Fr.refl _ _) | (with_reducible assumption) | (with_reducible apply Fr.alloc) | (with_reducible apply Fr.drew) | (with_reducible apply Fr.drewN) | (with_reducible refine Fr.setCell ?_ (by first | (left; simp; done) | (right; simp; done) | (right; simp; omega)) _)), Hn⟩
        case measure => simp [intOf]; omega
      · have hk : i = xs.length := by omega
        have he : decide (xs = ys) = true := decide_eq_true (by
          have := ht.out
          rw [List.take_of_length_le (by omega), List.take_of_length_le (by have := Hlen.out; omega)] at this
          exact this)
        have He := Lib.hid he
        clear he
        have i1 : ¬ (i : Int) < (xs.length : Int) := by omega
        go_wp2
        go_ret
        exact ⟨by rw [He.out]; rfl, hF⟩
  · have gl : (((xs.length : Nat) : Int) != ((ys.length : Nat) : Int)) = true := by simp; omega
    have he : decide (xs = ys) = false := decide_eq_false (fun h => hlen (by rw [h]))
    have He := Lib.hid he
    clear he hlen
    go_enter Tryd.func119, Tryd.ntmps119
    go_wp2
    go_ret
    exact ⟨by rw [He.out]; rfl, Fr.refl _ _⟩

set_option maxRecDepth 100000 in
theorem sameVals_any (w : World) (a b : Value) (xs ys : List ValT) (h1 : Sl [] w 4 a xs.length (xs.flatMap valC)) (h2 : Sl [] w 4 b ys.length (ys.flatMap valC)) :
    Calls Tryd.prog 118 #[a, b] w fun e w' => e = .returned (.bool (decide (xs = ys))) ∧ Fr [] w w' := by
  obtain ⟨a1, c1, rfl⟩ := h1.shape
  obtain ⟨a2, c2, rfl⟩ := h2.shape
  go_enter Tryd.func118, Tryd.ntmps118
  go_wp2_with (go_at_call 143; refine (equal_val w _ _ xs ys h1 h2).mono ?_; rintro e w1 ⟨rfl, hF1⟩)
  go_ret
  exact ⟨rfl, hF1⟩
end Go.Proofs.YtokneepfknepaaaDoor
