/- The walks of layer 4: are two lists the same? The walks of layer 7: indices, plain heap types, blocks, what is caught; lists of them. The walks of layer 7: are two lists of numbers, of what is caught, the same? -/
import Derived.Test.YtokneepfknepaaaGreatDoorG2
import Derived.Laws.StructEq
set_option linter.unusedSimpArgs false
set_option linter.unusedVariables false
namespace Go.Proofs.YtokneepfknepaaaGreatDoor
open Go.RowKit

theorem beq_i {a b : Int} : (a == b) = true ∧ a = b ∨ (a == b) = false ∧ a ≠ b := by
  by_cases h : a = b
  · exact .inl ⟨by simpa using h, h⟩
  · exact .inr ⟨by simpa using h, h⟩
theorem beq_b {a b : Bool} : (a == b) = true ∧ a = b ∨ (a == b) = false ∧ a ≠ b := by
  cases a <;> cases b <;> simp
theorem take_eq_at {α : Type} {xs ys : List α} {i : Nat} {x y : α} (h : xs.take i = ys.take i) (hx : xs[i]? = some x) (hy : ys[i]? = some y) (he : x = y) : xs.take (i + 1) = ys.take (i + 1) := by
  rw [take_one xs i x hx, take_one ys i y hy, h, he]
theorem ne_at {α : Type} {xs ys : List α} {i : Nat} {x y : α} (hx : xs[i]? = some x) (hy : ys[i]? = some y) (he : x ≠ y) : xs ≠ ys := by
  rintro rfl
  exact he (Option.some.inj (hx.symm.trans hy))

set_option maxRecDepth 100000 in
set_option maxHeartbeats 3200000 in
theorem equal_val (w : World) (a b : Value) (xs ys : List ValT) (h1 : Sl [] w 4 a xs.length (xs.flatMap valC)) (h2 : Sl [] w 4 b ys.length (ys.flatMap valC)) :
    Calls Tryz.prog 96 #[a, b] w fun e w' => e = .returned (.bool (decide (xs = ys))) ∧ Fr [] w w' := by
  have hh1 := h1
  have hh2 := h2
  have hm1 := h1.2.2
  obtain ⟨a1, c1, rfl, hc1, hm1, _⟩ := hm1
  obtain ⟨a2, c2, rfl⟩ := h2.shape
  unfold maxLen at hm1
  have hbig : xs.length ≤ 9223372036854775807 := by omega
  clear hm1 hc1 h1 h2
  by_cases hlen : xs.length = ys.length
  · have gl : (((xs.length : Nat) : Int) != ((ys.length : Nat) : Int)) = false := by simp; omega
    have Hlen := Lib.hid hlen
    clear hlen
    go_enter Tryz.func96, Tryz.ntmps96
    go_wp2
    go_loopw [13] (fun n wr => ∃ (i : Nat), n = .int .i64 i ∧ i ≤ xs.length ∧ Fr [] w wr ∧ Hid (xs.take i = ys.take i)) (fun n _ => xs.length - (intOf n).toNat)
    case atStart => exact ⟨0, rfl, by omega, Fr.refl _ _, Lib.hid rfl⟩
    case round =>
      obtain ⟨i, rfl, hi, hF, ht⟩ := hrel
      by_cases hlt : i < xs.length
      · have hlt2 : i < ys.length := by have := Hlen.out; omega
        obtain ⟨x, hx⟩ : ∃ t, xs[i]? = some t := ⟨xs[i], by simp [hlt]⟩
        obtain ⟨y, hy⟩ : ∃ t, ys[i]? = some t := ⟨ys[i], by simp [hlt2]⟩
        obtain ⟨b1, o1, p1, hv1, hb1, _, hd1⟩ := Sl.elem hh1 (fun _ => rfl) i x hx
        obtain ⟨b2, o2, p2, hv2, hb2, _, hd2⟩ := Sl.elem hh2 (fun _ => rfl) i y hy
        injection hv1 with e1 _ e1c
        injection hv2 with e2 _ e2c
        subst e1 e2 e1c e2c
        have f10 := (hF.cell hb1 (by simp) _).trans (hd1 0 (by decide))
        have f11 := (hF.cell hb1 (by simp) _).trans (hd1 1 (by decide))
        have f12 := (hF.cell hb1 (by simp) _).trans (hd1 2 (by decide))
        have f13 := (hF.cell hb1 (by simp) _).trans (hd1 3 (by decide))
        have f20 := (hF.cell hb2 (by simp) _).trans (hd2 0 (by decide))
        have f21 := (hF.cell hb2 (by simp) _).trans (hd2 1 (by decide))
        have f22 := (hF.cell hb2 (by simp) _).trans (hd2 2 (by decide))
        have f23 := (hF.cell hb2 (by simp) _).trans (hd2 3 (by decide))
        clear hd1 hd2
        obtain ⟨k1, z1, ⟨hk1, hn1⟩⟩ := x
        obtain ⟨k2, z2, ⟨hk2, hn2⟩⟩ := y
        simp only [Nat.add_zero, ← Nat.add_assoc, valC, List.getElem?_cons_zero, List.getElem?_cons_succ] at f10 f11 f12 f13 f20 f21 f22 f23
        have i1 : (i : Int) < (xs.length : Int) := by omega
        have i2 : (i : Int) < (ys.length : Int) := by omega
        have Hx := Lib.hid hx
        have Hy := Lib.hid hy
        clear hx hy
        rcases beq_i (a := k1) (b := k2) with ⟨g0, q0⟩ | ⟨g0, q0⟩
        rotate_left
        · have hne : decide (xs = ys) = false := decide_eq_false (ne_at Hx.out Hy.out (by intro h; injections; contradiction))
          have Hne := Lib.hid hne
          clear hne q0
          go_wp2_with fail
          go_quiet (fail)
          go_wp2
          go_ret
          exact ⟨by rw [Hne.out]; rfl, by repeat (first | (with_reducible exact Fr.refl _ _) | (with_reducible assumption) | (with_reducible apply Fr.alloc) | (with_reducible apply Fr.drew) | (with_reducible apply Fr.drewN) | (with_reducible refine Fr.setCell ?_ (by first | (left; simp; done) | (right; simp; done) | (right; simp; omega)) _))⟩
        rcases beq_b (a := z1) (b := z2) with ⟨g1, q1⟩ | ⟨g1, q1⟩
        rotate_left
        · have hne : decide (xs = ys) = false := decide_eq_false (ne_at Hx.out Hy.out (by intro h; injections; contradiction))
          have Hne := Lib.hid hne
          clear hne q0 q1
          go_wp2_with fail
          go_quiet (fail)
          go_wp2
          go_ret
          exact ⟨by rw [Hne.out]; rfl, by repeat (first | (with_reducible exact Fr.refl _ _) | (with_reducible assumption) | (with_reducible apply Fr.alloc) | (with_reducible apply Fr.drew) | (with_reducible apply Fr.drewN) | (with_reducible refine Fr.setCell ?_ (by first | (left; simp; done) | (right; simp; done) | (right; simp; omega)) _))⟩
        rcases beq_i (a := hk1) (b := hk2) with ⟨g2, q2⟩ | ⟨g2, q2⟩
        rotate_left
        · have hne : decide (xs = ys) = false := decide_eq_false (ne_at Hx.out Hy.out (by intro h; injections; contradiction))
          have Hne := Lib.hid hne
          clear hne q0 q1 q2
          go_wp2_with fail
          go_quiet (fail)
          go_wp2
          go_ret
          exact ⟨by rw [Hne.out]; rfl, by repeat (first | (with_reducible exact Fr.refl _ _) | (with_reducible assumption) | (with_reducible apply Fr.alloc) | (with_reducible apply Fr.drew) | (with_reducible apply Fr.drewN) | (with_reducible refine Fr.setCell ?_ (by first | (left; simp; done) | (right; simp; done) | (right; simp; omega)) _))⟩
        rcases beq_i (a := hn1) (b := hn2) with ⟨g3, q3⟩ | ⟨g3, q3⟩
        rotate_left
        · have hne : decide (xs = ys) = false := decide_eq_false (ne_at Hx.out Hy.out (by intro h; injections; contradiction))
          have Hne := Lib.hid hne
          clear hne q0 q1 q2 q3
          go_wp2_with fail
          go_quiet (fail)
          go_wp2
          go_ret
          exact ⟨by rw [Hne.out]; rfl, by repeat (first | (with_reducible exact Fr.refl _ _) | (with_reducible assumption) | (with_reducible apply Fr.alloc) | (with_reducible apply Fr.drew) | (with_reducible apply Fr.drewN) | (with_reducible refine Fr.setCell ?_ (by first | (left; simp; done) | (right; simp; done) | (right; simp; omega)) _))⟩
        have hn := take_eq_at ht.out Hx.out Hy.out (by subst q0 q1 q2 q3; rfl)
        have Hn := Lib.hid hn
        clear hn q0 q1 q2 q3
        go_wp2_with fail
        go_quiet (fail)
        go_wp2
        go_roundw
        case rel => exact ⟨i + 1, by go_num, by omega, by repeat (first | (with_reducible exact Fr.refl _ _) | (with_reducible assumption) | (with_reducible apply Fr.alloc) | (with_reducible apply Fr.drew) | (with_reducible apply Fr.drewN) | (with_reducible refine Fr.setCell ?_ (by first | (left; simp; done) | (right; simp; done) | (right; simp; omega)) _)), Hn⟩
        case measure => simp [intOf]; omega
      · have hk : i = xs.length := by omega
        have he : decide (xs = ys) = true := decide_eq_true (by
          have := ht.out
          rw [List.take_of_length_le (by omega), List.take_of_length_le (by have := Hlen.out; omega)] at this
          exact this)
        have He := Lib.hid he
        clear he
        have i1 : ¬ (i : Int) < (xs.length : Int) := by omega
        go_wp2
        go_ret
        exact ⟨by rw [He.out]; rfl, hF⟩
  · have gl : (((xs.length : Nat) : Int) != ((ys.length : Nat) : Int)) = true := by simp; omega
    have he : decide (xs = ys) = false := decide_eq_false (fun h => hlen (by rw [h]))
    have He := Lib.hid he
    clear he hlen
    go_enter Tryz.func96, Tryz.ntmps96
    go_wp2
    go_ret
    exact ⟨by rw [He.out]; rfl, Fr.refl _ _⟩

set_option maxRecDepth 100000 in
theorem sameVals_any (w : World) (a b : Value) (xs ys : List ValT) (h1 : Sl [] w 4 a xs.length (xs.flatMap valC)) (h2 : Sl [] w 4 b ys.length (ys.flatMap valC)) :
    Calls Tryz.prog 69 #[a, b] w fun e w' => e = .returned (.bool (decide (xs = ys))) ∧ Fr [] w w' := by
  obtain ⟨a1, c1, rfl⟩ := h1.shape
  obtain ⟨a2, c2, rfl⟩ := h2.shape
  go_enter Tryz.func69, Tryz.ntmps69
  go_wp2_with (go_at_call 96; refine (equal_val w _ _ xs ys h1 h2).mono ?_; rintro e w1 ⟨rfl, hF1⟩)
  go_ret
  exact ⟨rfl, hF1⟩
end Go.Proofs.YtokneepfknepaaaGreatDoor

set_option linter.unusedSimpArgs false
set_option linter.unusedVariables false
namespace Go.Proofs.YtokneepfknepaaaGreatDoor
open Go.RowKit

set_option maxRecDepth 100000 in
set_option maxHeartbeats 400000 in
theorem index_any (w : World) (n : Int) : Calls Tryz.prog 25 #[.int .i64 n] w fun e w' => e = .returned (.bool (idx n)) ∧ Fr [] w w' := by
  go_enter Tryz.func25, Tryz.ntmps25
  go_wp2
  all_goals
    go_ret
    refine ⟨congrArg (fun b => Ending.returned (Value.bool b)) ?_, by repeat (first | (with_reducible exact Fr.refl _ _) | (with_reducible assumption) | (with_reducible apply Fr.alloc) | (with_reducible apply Fr.drew) | (with_reducible apply Fr.drewN) | (with_reducible refine Fr.setCell ?_ (by first | (left; simp; done) | (right; simp; done) | (right; simp; omega)) _))⟩
    rw [Bool.eq_iff_iff]
    simp [idx]
    try omega
set_option maxRecDepth 100000 in
set_option maxHeartbeats 400000 in
theorem iplain_any (w : World) (h : HeapT) : Calls Tryz.prog 27 #[.agg #[.int .i64 h.kind, .int .i64 h.n]] w fun e w' => e = .returned (.bool (plainH h)) ∧ Fr [] w w' := by
  obtain ⟨k, n⟩ := h
  dsimp only
  go_enter Tryz.func27, Tryz.ntmps27
  go_wp2_with (go_at_call 29; refine (plainVal_any _ ⟨3, false, ⟨k, n⟩⟩).mono ?_; rintro e w2 ⟨rfl, hF2⟩)
  go_ret
  exact ⟨rfl, ((Fr.refl [] w).alloc _).trans hF2⟩
set_option maxRecDepth 100000 in
set_option maxHeartbeats 800000 in
theorem mayBlock_any (w : World) (b : BlockT) : Calls Tryz.prog 30 #[.agg #[.int .i64 b.kind, .int .i64 b.val.kind, .bool b.val.null, .int .i64 b.val.heap.kind, .int .i64 b.val.heap.n, .int .i64 b.n]] w fun e w' => e = .returned (.bool (mayBlock b)) ∧ Fr [] w w' := by
  obtain ⟨k, v, n⟩ := b
  obtain ⟨vk, vn, ⟨hk, hn⟩⟩ := v
  dsimp only
  have hS0 := St.start [] w
  go_enter Tryz.func30, Tryz.ntmps30
  go_wp2_with first | (go_at_call 29; refine (plainVal_any _ ⟨vk, vn, ⟨hk, hn⟩⟩).mono ?_; rintro e w2 ⟨rfl, hF2⟩; generalize hpb : plainVal ⟨vk, vn, ⟨hk, hn⟩⟩ = pb; have Hpb := Lib.hid hpb; clear hpb; refine st_fr hF2 ?_; (repeat (apply Exists.intro)); refine ⟨?_, ?_⟩; (· exact zsts1); (try simp only [World.size_alloc, World.size_setCell, size_drew, size_drewN]); intro hS; (try clear hQ); have hQ := St.facts hS; simp only [Facts, Res.fact, List.cons_append, List.nil_append, true_and, and_true] at hQ) | (go_at_call 25; refine (index_any _ n).mono ?_; rintro e w3 ⟨rfl, hF3⟩; generalize hpi : idx n = pi; have Hpi := Lib.hid hpi; clear hpi; refine st_fr hF3 ?_; (repeat (apply Exists.intro)); refine ⟨?_, ?_⟩; (· exact zsts1); (try simp only [World.size_alloc, World.size_setCell, size_drew, size_drewN]); intro hS; (try clear hQ); have hQ := St.facts hS; simp only [Facts, Res.fact, List.cons_append, List.nil_append, true_and, and_true] at hQ)
  all_goals
    go_ret
    refine ⟨congrArg (fun b => Ending.returned (Value.bool b)) ?_, by (first | exact hS.fr | (apply St.fr; (exact zsts1)) | (apply St.fr; (first | exact hS0 | (exact zsts1))))⟩
    unfold mayBlock
    simp only
    rw [Bool.eq_iff_iff]
    simp only [beq_iff_eq, beq_eq_false_iff_ne, ne_eq] at *
    first
      | (rw [Hpb.out]; simp_all; done)
      | (rw [Hpi.out]; simp_all [ValT.zero]; done)
      | (simp_all [BlockT.zero, ValT.zero]; done)
      | (simp_all [BlockT.zero, ValT.zero]; omega)
set_option maxRecDepth 100000 in
set_option maxHeartbeats 800000 in
theorem mayCatch_any (w : World) (c : CatchT) : Calls Tryz.prog 32 #[.agg #[.int .i64 c.kind, .int .i64 c.tag, .int .i64 c.label]] w fun e w' => e = .returned (.bool (mayCatch c)) ∧ Fr [] w w' := by
  obtain ⟨k, t, l⟩ := c
  dsimp only
  have hS0 := St.start [] w
  go_enter Tryz.func32, Tryz.ntmps32
  go_wp2_with first | (go_at_call 25; (with_reducible refine (index_any _ t).mono ?_); rintro e w2 ⟨rfl, hF2⟩; generalize hpt : idx t = pt; have Hpt := Lib.hid hpt; clear hpt; refine st_fr hF2 ?_; (repeat (apply Exists.intro)); refine ⟨?_, ?_⟩; (· exact zsts1); (try simp only [World.size_alloc, World.size_setCell, size_drew, size_drewN]); intro hS; (try clear hQ); have hQ := St.facts hS; simp only [Facts, Res.fact, List.cons_append, List.nil_append, true_and, and_true] at hQ) | (go_at_call 25; (with_reducible refine (index_any _ l).mono ?_); rintro e w3 ⟨rfl, hF3⟩; generalize hpl : idx l = pl; have Hpl := Lib.hid hpl; clear hpl; refine st_fr hF3 ?_; (repeat (apply Exists.intro)); refine ⟨?_, ?_⟩; (· exact zsts1); (try simp only [World.size_alloc, World.size_setCell, size_drew, size_drewN]); intro hS; (try clear hQ); have hQ := St.facts hS; simp only [Facts, Res.fact, List.cons_append, List.nil_append, true_and, and_true] at hQ)
  all_goals
    go_ret
    refine ⟨congrArg (fun b => Ending.returned (Value.bool b)) ?_, by (first | exact hS.fr | (apply St.fr; (exact zsts1)) | (apply St.fr; (first | exact hS0 | (exact zsts1))))⟩
    unfold mayCatch
    simp only
    rw [Bool.eq_iff_iff]
    simp only [beq_iff_eq, beq_eq_false_iff_ne, ne_eq] at *
    first
      | (rw [Hpt.out, Hpl.out]; simp_all; done)
      | (rw [Hpt.out]; simp_all; done)
      | (rw [Hpl.out]; simp_all; done)
      | (simp_all; done)
set_option maxRecDepth 100000 in
set_option maxHeartbeats 800000 in
theorem all_int (S : List Nat) (w : World) (v : Value) (ts : List Int) (h : Sl S w 1 v ts.length (ts.flatMap intC)) (hl : ts.length ≤ 1099511627776) :
    Calls Tryz.prog 26 #[v, .func (.func 25) #[] #[]] w fun e w' => e = .returned (.bool (ts.all idx)) ∧ Fr [] w w' := by
  have hh := h
  obtain ⟨_, _, a, cap, rfl, _⟩ := h
  go_enter Tryz.func26, Tryz.ntmps26
  go_wp2
  go_loopw [9] (fun n wr => ∃ (i : Nat), n = .int .i64 i ∧ i ≤ ts.length ∧ Fr [] w wr ∧ Hid (ts.all idx = (ts.drop i).all idx)) (fun n _ => ts.length - (intOf n).toNat)
  case atStart => exact ⟨0, rfl, by omega, Fr.refl _ _, Lib.hid rfl⟩
  case round =>
    obtain ⟨i, rfl, hi, hF, hg⟩ := hrel
    by_cases hlt : i < ts.length
    · obtain ⟨t, ht⟩ : ∃ t, ts[i]? = some t := ⟨ts[i], by simp [hlt]⟩
      obtain ⟨b, off, cap2, hv, hb, hnS, hc⟩ := Sl.elem hh (fun _ => rfl) i t ht
      injection hv with hv1 hv2 hv3
      subst hv1 hv3
      have hbw : b < wr.heap.size := Nat.lt_of_lt_of_le hb hF.size
      have hd := drop_one ts i t ht
      have e0 := (hF.cell hb (by simp) _).trans (hc 0 (by decide))
      simp only [Nat.add_zero, ← Nat.add_assoc, intC, Nat.mul_one, List.getElem?_cons_zero] at e0
      cases hp : idx t
      · have hall : ts.all idx = false := by rw [hg.out, hd]; simp [hp]
        have Hall := Lib.hid hall
        clear hall
        go_wp2_with (go_at_call 25; refine (index_any _ t).mono ?_; rintro e w2 ⟨rfl, hF2⟩; rw [hp])
        go_ret
        exact ⟨by rw [Hall.out]; rfl, hF.trans hF2⟩
      · have hall : ts.all idx = (ts.drop (i + 1)).all idx := by rw [hg.out, hd]; simp [hp]
        have Hall := Lib.hid hall
        clear hall
        go_wp2_with (go_at_call 25; refine (index_any _ t).mono ?_; rintro e w2 ⟨rfl, hF2⟩; rw [hp])
        go_roundw
        case rel =>

          exact ⟨i + 1, by go_num, by omega, hF.trans hF2, Hall⟩
        case measure => simp [intOf]; omega
    · have hk : i = ts.length := by omega
      subst hk
      have hall : ts.all idx = true := by rw [hg.out]; simp
      have Hall := Lib.hid hall
      clear hall
      go_wp2
      go_ret
      exact ⟨by rw [Hall.out]; rfl, hF⟩
set_option maxRecDepth 100000 in
set_option maxHeartbeats 800000 in
theorem iall_val (S : List Nat) (w : World) (v : Value) (ts : List ValT) (h : Sl S w 4 v ts.length (ts.flatMap valC)) (hl : ts.length ≤ 1099511627776) :
    Calls Tryz.prog 28 #[v, .func (.func 29) #[] #[]] w fun e w' => e = .returned (.bool (ts.all plainVal)) ∧ Fr [] w w' := by
  have hh := h
  obtain ⟨_, _, a, cap, rfl, _⟩ := h
  go_enter Tryz.func28, Tryz.ntmps28
  go_wp2
  go_loopw [9] (fun n wr => ∃ (i : Nat), n = .int .i64 i ∧ i ≤ ts.length ∧ Fr [] w wr ∧ Hid (ts.all plainVal = (ts.drop i).all plainVal)) (fun n _ => ts.length - (intOf n).toNat)
  case atStart => exact ⟨0, rfl, by omega, Fr.refl _ _, Lib.hid rfl⟩
  case round =>
    obtain ⟨i, rfl, hi, hF, hg⟩ := hrel
    by_cases hlt : i < ts.length
    · obtain ⟨t, ht⟩ : ∃ t, ts[i]? = some t := ⟨ts[i], by simp [hlt]⟩
      obtain ⟨b, off, cap2, hv, hb, hnS, hc⟩ := Sl.elem hh (fun _ => rfl) i t ht
      injection hv with hv1 hv2 hv3
      subst hv1 hv3
      have hbw : b < wr.heap.size := Nat.lt_of_lt_of_le hb hF.size
      have hd := drop_one ts i t ht
      have e0 := (hF.cell hb (by simp) _).trans (hc 0 (by decide))
      have e1 := (hF.cell hb (by simp) _).trans (hc 1 (by decide))
      have e2 := (hF.cell hb (by simp) _).trans (hc 2 (by decide))
      have e3 := (hF.cell hb (by simp) _).trans (hc 3 (by decide))
      simp only [Nat.add_zero, ← Nat.add_assoc, valC, List.getElem?_cons_zero, List.getElem?_cons_succ] at e0 e1 e2 e3
      have f1 := fun o => hF.alloc o
      cases hp : plainVal t
      · have hall : ts.all plainVal = false := by rw [hg.out, hd]; simp [hp]
        have Hall := Lib.hid hall
        clear hall
        go_wp2_with (go_at_call 29; refine (plainVal_any _ t).mono ?_; rintro e w2 ⟨rfl, hF2⟩; rw [hp])
        go_ret
        exact ⟨by rw [Hall.out]; rfl, (f1 _).trans hF2⟩
      · have hall : ts.all plainVal = (ts.drop (i + 1)).all plainVal := by rw [hg.out, hd]; simp [hp]
        have Hall := Lib.hid hall
        clear hall
        go_wp2_with (go_at_call 29; refine (plainVal_any _ t).mono ?_; rintro e w2 ⟨rfl, hF2⟩; rw [hp])
        go_roundw
        case rel =>

          exact ⟨i + 1, by go_num, by omega, (f1 _).trans hF2, Hall⟩
        case measure => simp [intOf]; omega
    · have hk : i = ts.length := by omega
      subst hk
      have hall : ts.all plainVal = true := by rw [hg.out]; simp
      have Hall := Lib.hid hall
      clear hall
      go_wp2
      go_ret
      exact ⟨by rw [Hall.out]; rfl, hF⟩
set_option maxRecDepth 100000 in
set_option maxHeartbeats 800000 in
theorem all_catch (S : List Nat) (w : World) (v : Value) (ts : List CatchT) (h : Sl S w 3 v ts.length (ts.flatMap catchC)) (hl : ts.length ≤ 1099511627776) :
    Calls Tryz.prog 31 #[v, .func (.func 32) #[] #[]] w fun e w' => e = .returned (.bool (ts.all mayCatch)) ∧ Fr [] w w' := by
  have hh := h
  obtain ⟨_, _, a, cap, rfl, _⟩ := h
  go_enter Tryz.func31, Tryz.ntmps31
  go_wp2
  go_loopw [9] (fun n wr => ∃ (i : Nat), n = .int .i64 i ∧ i ≤ ts.length ∧ Fr [] w wr ∧ Hid (ts.all mayCatch = (ts.drop i).all mayCatch)) (fun n _ => ts.length - (intOf n).toNat)
  case atStart => exact ⟨0, rfl, by omega, Fr.refl _ _, Lib.hid rfl⟩
  case round =>
    obtain ⟨i, rfl, hi, hF, hg⟩ := hrel
    by_cases hlt : i < ts.length
    · obtain ⟨t, ht⟩ : ∃ t, ts[i]? = some t := ⟨ts[i], by simp [hlt]⟩
      obtain ⟨b, off, cap2, hv, hb, hnS, hc⟩ := Sl.elem hh (fun _ => rfl) i t ht
      injection hv with hv1 hv2 hv3
      subst hv1 hv3
      have hbw : b < wr.heap.size := Nat.lt_of_lt_of_le hb hF.size
      have hd := drop_one ts i t ht
      have e0 := (hF.cell hb (by simp) _).trans (hc 0 (by decide))
      have e1 := (hF.cell hb (by simp) _).trans (hc 1 (by decide))
      have e2 := (hF.cell hb (by simp) _).trans (hc 2 (by decide))
      simp only [Nat.add_zero, ← Nat.add_assoc, catchC, List.getElem?_cons_zero, List.getElem?_cons_succ] at e0 e1 e2
      have f1 := fun o => hF.alloc o
      cases hp : mayCatch t
      · have hall : ts.all mayCatch = false := by rw [hg.out, hd]; simp [hp]
        have Hall := Lib.hid hall
        clear hall
        go_wp2_with (go_at_call 32; refine (mayCatch_any _ t).mono ?_; rintro e w2 ⟨rfl, hF2⟩; rw [hp])
        go_ret
        exact ⟨by rw [Hall.out]; rfl, (f1 _).trans hF2⟩
      · have hall : ts.all mayCatch = (ts.drop (i + 1)).all mayCatch := by rw [hg.out, hd]; simp [hp]
        have Hall := Lib.hid hall
        clear hall
        go_wp2_with (go_at_call 32; refine (mayCatch_any _ t).mono ?_; rintro e w2 ⟨rfl, hF2⟩; rw [hp])
        go_roundw
        case rel =>

          exact ⟨i + 1, by go_num, by omega, (f1 _).trans hF2, Hall⟩
        case measure => simp [intOf]; omega
    · have hk : i = ts.length := by omega
      subst hk
      have hall : ts.all mayCatch = true := by rw [hg.out]; simp
      have Hall := Lib.hid hall
      clear hall
      go_wp2
      go_ret
      exact ⟨by rw [Hall.out]; rfl, hF⟩
end Go.Proofs.YtokneepfknepaaaGreatDoor

set_option linter.unusedSimpArgs false
set_option linter.unusedVariables false
namespace Go.Proofs.YtokneepfknepaaaGreatDoor
open Go.RowKit

set_option maxRecDepth 100000 in
set_option maxHeartbeats 3200000 in
theorem equal_int (w : World) (a b : Value) (xs ys : List Int) (h1 : Sl [] w 1 a xs.length (xs.flatMap intC)) (h2 : Sl [] w 1 b ys.length (ys.flatMap intC)) :
    Calls Tryz.prog 70 #[a, b] w fun e w' => e = .returned (.bool (decide (xs = ys))) ∧ Fr [] w w' := by
  have hh1 := h1
  have hh2 := h2
  have hm1 := h1.2.2
  obtain ⟨a1, c1, rfl, hc1, hm1, _⟩ := hm1
  obtain ⟨a2, c2, rfl⟩ := h2.shape
  unfold maxLen at hm1
  have hbig : xs.length ≤ 9223372036854775807 := by omega
  clear hm1 hc1 h1 h2
  by_cases hlen : xs.length = ys.length
  · have gl : (((xs.length : Nat) : Int) != ((ys.length : Nat) : Int)) = false := by simp; omega
    have Hlen := Lib.hid hlen
    clear hlen
    go_enter Tryz.func70, Tryz.ntmps70
    go_wp2
    go_loopw [13] (fun n wr => ∃ (i : Nat), n = .int .i64 i ∧ i ≤ xs.length ∧ Fr [] w wr ∧ Hid (xs.take i = ys.take i)) (fun n _ => xs.length - (intOf n).toNat)
    case atStart => exact ⟨0, rfl, by omega, Fr.refl _ _, Lib.hid rfl⟩
    case round =>
      obtain ⟨i, rfl, hi, hF, ht⟩ := hrel
      by_cases hlt : i < xs.length
      · have hlt2 : i < ys.length := by have := Hlen.out; omega
        obtain ⟨x, hx⟩ : ∃ t, xs[i]? = some t := ⟨xs[i], by simp [hlt]⟩
        obtain ⟨y, hy⟩ : ∃ t, ys[i]? = some t := ⟨ys[i], by simp [hlt2]⟩
        obtain ⟨b1, o1, p1, hv1, hb1, _, hd1⟩ := Sl.elem hh1 (fun _ => rfl) i x hx
        obtain ⟨b2, o2, p2, hv2, hb2, _, hd2⟩ := Sl.elem hh2 (fun _ => rfl) i y hy
        injection hv1 with e1 _ e1c
        injection hv2 with e2 _ e2c
        subst e1 e2 e1c e2c
        have f10 := (hF.cell hb1 (by simp) _).trans (hd1 0 (by decide))
        have f20 := (hF.cell hb2 (by simp) _).trans (hd2 0 (by decide))
        clear hd1 hd2
        simp only [Nat.add_zero, ← Nat.add_assoc, intC, Nat.mul_one, List.getElem?_cons_zero] at f10 f20
        have i1 : (i : Int) < (xs.length : Int) := by omega
        have i2 : (i : Int) < (ys.length : Int) := by omega
        have Hx := Lib.hid hx
        have Hy := Lib.hid hy
        clear hx hy
        rcases beq_i (a := x) (b := y) with ⟨g0, q0⟩ | ⟨g0, q0⟩
        rotate_left
        · have hne : decide (xs = ys) = false := decide_eq_false (ne_at Hx.out Hy.out (by intro h; contradiction))
          have Hne := Lib.hid hne
          clear hne q0
          go_wp2_with fail
          go_quiet (fail)
          go_wp2
          go_ret
          exact ⟨by rw [Hne.out]; rfl, by repeat (first | (with_reducible exact Fr.refl _ _) | (with_reducible assumption) | (with_reducible apply Fr.alloc) | (with_reducible apply Fr.drew) | (with_reducible apply Fr.drewN) | (with_reducible refine Fr.setCell ?_ (by first | (left; simp; done) | (right; simp; done) | (right; simp; omega)) _))⟩
        have hn := take_eq_at ht.out Hx.out Hy.out (by subst q0; rfl)
        have Hn := Lib.hid hn
        clear hn q0
        go_wp2_with fail
        go_quiet (fail)
        go_wp2
        go_roundw
        case rel => exact ⟨i + 1, by go_num, by omega, by repeat (first | (with_reducible exact Fr.refl _ _) | (with_reducible assumption) | (with_reducible apply Fr.alloc) | (with_reducible apply Fr.drew) | (with_reducible apply Fr.drewN) | (with_reducible refine Fr.setCell ?_ (by first | (left; simp; done) | (right; simp; done) | (right; simp; omega)) _)), Hn⟩
        case measure => simp [intOf]; omega
      · have hk : i = xs.length := by omega
        have he : decide (xs = ys) = true := decide_eq_true (by
          have := ht.out
          rw [List.take_of_length_le (by omega), List.take_of_length_le (by have := Hlen.out; omega)] at this
          exact this)
        have He := Lib.hid he
        clear he
        have i1 : ¬ (i : Int) < (xs.length : Int) := by omega
        go_wp2
        go_ret
        exact ⟨by rw [He.out]; rfl, hF⟩
  · have gl : (((xs.length : Nat) : Int) != ((ys.length : Nat) : Int)) = true := by simp; omega
    have he : decide (xs = ys) = false := decide_eq_false (fun h => hlen (by rw [h]))
    have He := Lib.hid he
    clear he hlen
    go_enter Tryz.func70, Tryz.ntmps70
    go_wp2
    go_ret
    exact ⟨by rw [He.out]; rfl, Fr.refl _ _⟩

set_option maxRecDepth 100000 in
set_option maxHeartbeats 3200000 in
theorem equal_catch (w : World) (a b : Value) (xs ys : List CatchT) (h1 : Sl [] w 3 a xs.length (xs.flatMap catchC)) (h2 : Sl [] w 3 b ys.length (ys.flatMap catchC)) :
    Calls Tryz.prog 71 #[a, b] w fun e w' => e = .returned (.bool (decide (xs = ys))) ∧ Fr [] w w' := by
  have hh1 := h1
  have hh2 := h2
  have hm1 := h1.2.2
  obtain ⟨a1, c1, rfl, hc1, hm1, _⟩ := hm1
  obtain ⟨a2, c2, rfl⟩ := h2.shape
  unfold maxLen at hm1
  have hbig : xs.length ≤ 9223372036854775807 := by omega
  clear hm1 hc1 h1 h2
  by_cases hlen : xs.length = ys.length
  · have gl : (((xs.length : Nat) : Int) != ((ys.length : Nat) : Int)) = false := by simp; omega
    have Hlen := Lib.hid hlen
    clear hlen
    go_enter Tryz.func71, Tryz.ntmps71
    go_wp2
    go_loopw [13] (fun n wr => ∃ (i : Nat), n = .int .i64 i ∧ i ≤ xs.length ∧ Fr [] w wr ∧ Hid (xs.take i = ys.take i)) (fun n _ => xs.length - (intOf n).toNat)
    case atStart => exact ⟨0, rfl, by omega, Fr.refl _ _, Lib.hid rfl⟩
    case round =>
      obtain ⟨i, rfl, hi, hF, ht⟩ := hrel
      by_cases hlt : i < xs.length
      · have hlt2 : i < ys.length := by have := Hlen.out; omega
        obtain ⟨x, hx⟩ : ∃ t, xs[i]? = some t := ⟨xs[i], by simp [hlt]⟩
        obtain ⟨y, hy⟩ : ∃ t, ys[i]? = some t := ⟨ys[i], by simp [hlt2]⟩
        obtain ⟨b1, o1, p1, hv1, hb1, _, hd1⟩ := Sl.elem hh1 (fun _ => rfl) i x hx
        obtain ⟨b2, o2, p2, hv2, hb2, _, hd2⟩ := Sl.elem hh2 (fun _ => rfl) i y hy
        injection hv1 with e1 _ e1c
        injection hv2 with e2 _ e2c
        subst e1 e2 e1c e2c
        have f10 := (hF.cell hb1 (by simp) _).trans (hd1 0 (by decide))
        have f11 := (hF.cell hb1 (by simp) _).trans (hd1 1 (by decide))
        have f12 := (hF.cell hb1 (by simp) _).trans (hd1 2 (by decide))
        have f20 := (hF.cell hb2 (by simp) _).trans (hd2 0 (by decide))
        have f21 := (hF.cell hb2 (by simp) _).trans (hd2 1 (by decide))
        have f22 := (hF.cell hb2 (by simp) _).trans (hd2 2 (by decide))
        clear hd1 hd2
        obtain ⟨k1, t1, l1⟩ := x
        obtain ⟨k2, t2, l2⟩ := y
        simp only [Nat.add_zero, ← Nat.add_assoc, catchC, List.getElem?_cons_zero, List.getElem?_cons_succ] at f10 f11 f12 f20 f21 f22
        have i1 : (i : Int) < (xs.length : Int) := by omega
        have i2 : (i : Int) < (ys.length : Int) := by omega
        have Hx := Lib.hid hx
        have Hy := Lib.hid hy
        clear hx hy
        rcases beq_i (a := k1) (b := k2) with ⟨g0, q0⟩ | ⟨g0, q0⟩
        rotate_left
        · have hne : decide (xs = ys) = false := decide_eq_false (ne_at Hx.out Hy.out (by intro h; injections; contradiction))
          have Hne := Lib.hid hne
          clear hne q0
          go_wp2_with fail
          go_quiet (fail)
          go_wp2
          go_ret
          exact ⟨by rw [Hne.out]; rfl, by repeat (first | (with_reducible exact Fr.refl _ _) | (with_reducible assumption) | (with_reducible apply Fr.alloc) | (with_reducible apply Fr.drew) | (with_reducible apply Fr.drewN) | (with_reducible refine Fr.setCell ?_ (by first | (left; simp; done) | (right; simp; done) | (right; simp; omega)) _))⟩
        rcases beq_i (a := t1) (b := t2) with ⟨g1, q1⟩ | ⟨g1, q1⟩
        rotate_left
        · have hne : decide (xs = ys) = false := decide_eq_false (ne_at Hx.out Hy.out (by intro h; injections; contradiction))
          have Hne := Lib.hid hne
          clear hne q0 q1
          go_wp2_with fail
          go_quiet (fail)
          go_wp2
          go_ret
          exact ⟨by rw [Hne.out]; rfl, by repeat (first | (with_reducible exact Fr.refl _ _) | (with_reducible assumption) | (with_reducible apply Fr.alloc) | (with_reducible apply Fr.drew) | (with_reducible apply Fr.drewN) | (with_reducible refine Fr.setCell ?_ (by first | (left; simp; done) | (right; simp; done) | (right; simp; omega)) _))⟩
        rcases beq_i (a := l1) (b := l2) with ⟨g2, q2⟩ | ⟨g2, q2⟩
        rotate_left
        · have hne : decide (xs = ys) = false := decide_eq_false (ne_at Hx.out Hy.out (by intro h; injections; contradiction))
          have Hne := Lib.hid hne
          clear hne q0 q1 q2
          go_wp2_with fail
          go_quiet (fail)
          go_wp2
          go_ret
          exact ⟨by rw [Hne.out]; rfl, by repeat (first | (with_reducible exact Fr.refl _ _) | (with_reducible assumption) | (with_reducible apply Fr.alloc) | (with_reducible apply Fr.drew) | (with_reducible apply Fr.drewN) | (with_reducible refine Fr.setCell ?_ (by first | (left; simp; done) | (right; simp; done) | (right; simp; omega)) _))⟩
        have hn := take_eq_at ht.out Hx.out Hy.out (by subst q0 q1 q2; rfl)
        have Hn := Lib.hid hn
        clear hn q0 q1 q2
        go_wp2_with fail
        go_quiet (fail)
        go_wp2
        go_roundw
        case rel => exact ⟨i + 1, by go_num, by omega, by repeat (first | (with_reducible exact Fr.refl _ _) | (with_reducible assumption) | (with_reducible apply Fr.alloc) | (with_reducible apply Fr.drew) | (with_reducible apply Fr.drewN) | (with_reducible refine Fr.setCell ?_ (by first | (left; simp; done) | (right; simp; done) | (right; simp; omega)) _)), Hn⟩
        case measure => simp [intOf]; omega
      · have hk : i = xs.length := by omega
        have he : decide (xs = ys) = true := decide_eq_true (by
          have := ht.out
          rw [List.take_of_length_le (by omega), List.take_of_length_le (by have := Hlen.out; omega)] at this
          exact this)
        have He := Lib.hid he
        clear he
        have i1 : ¬ (i : Int) < (xs.length : Int) := by omega
        go_wp2
        go_ret
        exact ⟨by rw [He.out]; rfl, hF⟩
  · have gl : (((xs.length : Nat) : Int) != ((ys.length : Nat) : Int)) = true := by simp; omega
    have he : decide (xs = ys) = false := decide_eq_false (fun h => hlen (by rw [h]))
    have He := Lib.hid he
    clear he hlen
    go_enter Tryz.func71, Tryz.ntmps71
    go_wp2
    go_ret
    exact ⟨by rw [He.out]; rfl, Fr.refl _ _⟩
end Go.Proofs.YtokneepfknepaaaGreatDoor
