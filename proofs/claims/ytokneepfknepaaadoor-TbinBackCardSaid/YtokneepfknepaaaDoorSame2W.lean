/- The walks of layers 4 and 6: are two types, two groups the same? -/
import Derived.Test.YtokneepfknepaaaDoorSameW
import Derived.Test.YtokneepfknepaaaDoorKnownW
namespace Go.Proofs.YtokneepfknepaaaDoor
open Go.RowKit

theorem sub_eqB (f1 f2 : Bool) (s1 s2 : List HeapT) (k1 k2 : Int) (p1 p2 r1 r2 : List ValT) (l1 l2 : List FieldT) {b1 b2 b3 b4 : Bool} (h1 : decide (s1 = s2) = b1) (h2 : decide (p1 = p2) = b2) (h3 : decide (r1 = r2) = b3) (h4 : decide (l1 = l2) = b4) :
    decide ((⟨f1, s1, ⟨k1, p1, r1, l1⟩⟩ : SubT) = ⟨f2, s2, ⟨k2, p2, r2, l2⟩⟩) = ((f1 == f2) && b1 && (k1 == k2) && b2 && b3 && b4) := by
  subst h1 h2 h3 h4
  rw [Bool.eq_iff_iff]
  simp only [decide_eq_true_eq, SubT.mk.injEq, CompT.mk.injEq, Bool.and_eq_true, beq_iff_eq]
  constructor
  · rintro ⟨a, b, c, d, e, f⟩; exact ⟨⟨⟨⟨⟨a, b⟩, c⟩, d⟩, e⟩, f⟩
  · rintro ⟨⟨⟨⟨⟨a, b⟩, c⟩, d⟩, e⟩, f⟩; exact ⟨a, b, c, d, e, f⟩

set_option maxRecDepth 100000 in
set_option maxHeartbeats 3200000 in
theorem same_any (w : World) (t u : SubT) (hv pv rv fv hv' pv' rv' fv' : Value) (h : SubR [] w t hv pv rv fv) (h' : SubR [] w u hv' pv' rv' fv') :
    Calls Tryd.prog 80 #[.agg #[.bool t.final_, hv, .int .i64 t.comp.kind, pv, rv, fv], .agg #[.bool u.final_, hv', .int .i64 u.comp.kind, pv', rv', fv']] w fun e w' => e = .returned (.bool (decide (t = u))) ∧ Fr [] w w' := by
  obtain ⟨f1, s1, ⟨k1, p1, r1, l1⟩⟩ := t
  obtain ⟨f2, s2, ⟨k2, p2, r2, l2⟩⟩ := u
  obtain ⟨x1, x2, x3, x4⟩ := h
  obtain ⟨y1, y2, y3, y4⟩ := h'
  dsimp only at x1 x2 x3 x4 y1 y2 y3 y4 ⊢
  obtain ⟨a1, c1, rfl⟩ := x1.shape
  obtain ⟨a2, c2, rfl⟩ := x2.shape
  obtain ⟨a3, c3, rfl⟩ := x3.shape
  obtain ⟨a4, c4, rfl⟩ := x4.shape
  obtain ⟨d1, e1, rfl⟩ := y1.shape
  obtain ⟨d2, e2, rfl⟩ := y2.shape
  obtain ⟨d3, e3, rfl⟩ := y3.shape
  obtain ⟨d4, e4, rfl⟩ := y4.shape
  by_cases hf : f1 = f2
  · subst hf
    have fo := ((Fr.refl [] w).alloc (.cells #[.bool f1, .slice a1 s1.length c1, .int .i64 k1, .slice a2 p1.length c2, .slice a3 r1.length c3, .slice a4 l1.length c4] 60)).alloc (.cells #[.bool f1, .slice d1 s2.length e1, .int .i64 k2, .slice d2 p2.length e2, .slice d3 r2.length e3, .slice d4 l2.length e4] 60)
    have L1 : Loc ((w.alloc (.cells #[.bool f1, .slice a1 s1.length c1, .int .i64 k1, .slice a2 p1.length c2, .slice a3 r1.length c3, .slice a4 l1.length c4] 60)).alloc (.cells #[.bool f1, .slice d1 s2.length e1, .int .i64 k2, .slice d2 p2.length e2, .slice d3 r2.length e3, .slice d4 l2.length e4] 60)) w.heap.size [.bool f1, .slice a1 s1.length c1, .int .i64 k1, .slice a2 p1.length c2, .slice a3 r1.length c3, .slice a4 l1.length c4] 60 := (Loc.new _ _ _).alloc _
    have L2 : Loc ((w.alloc (.cells #[.bool f1, .slice a1 s1.length c1, .int .i64 k1, .slice a2 p1.length c2, .slice a3 r1.length c3, .slice a4 l1.length c4] 60)).alloc (.cells #[.bool f1, .slice d1 s2.length e1, .int .i64 k2, .slice d2 p2.length e2, .slice d3 r2.length e3, .slice d4 l2.length e4] 60)) (w.heap.size + 1) [.bool f1, .slice d1 s2.length e1, .int .i64 k2, .slice d2 p2.length e2, .slice d3 r2.length e3, .slice d4 l2.length e4] 60 := loc_at (by simp) [.bool f1, .slice d1 s2.length e1, .int .i64 k2, .slice d2 p2.length e2, .slice d3 r2.length e3, .slice d4 l2.length e4] _
    have z1 := x1.fr fo (by simp)
    have z2 := x2.fr fo (by simp)
    have z3 := x3.fr fo (by simp)
    have z4 := x4.fr fo (by simp)
    have v1 := y1.fr fo (by simp)
    have v2 := y2.fr fo (by simp)
    have v3 := y3.fr fo (by simp)
    have v4 := y4.fr fo (by simp)
    clear x1 x2 x3 x4 y1 y2 y3 y4
    go_enter Tryd.func80, Tryd.ntmps80
    go_wp2_with first | (go_at_call 117; (with_reducible refine (equal_heap _ _ _ s1 s2 z1 v1).mono ?_); rintro e w1 ⟨rfl, ff1⟩; generalize hb1 : decide (s1 = s2) = b1; have Hb1 := Lib.hid hb1; clear hb1; have L11 := L1.fr ff1 (by simp); have L21 := L2.fr ff1 (by simp); have hLC1 := L11.cell; have hLF1 := L11.frz; have hLT1 := L11.lt; have hLC2 := L21.cell; have hLF2 := L21.frz; have hLT2 := L21.lt; have z21 := z2.fr ff1 (by simp); have v21 := v2.fr ff1 (by simp)) | (go_at_call 118; (with_reducible refine (sameVals_any _ _ _ p1 p2 z21 v21).mono ?_); rintro e w2 ⟨rfl, ff2⟩; generalize hb2 : decide (p1 = p2) = b2; have Hb2 := Lib.hid hb2; clear hb2; have L12 := L11.fr ff2 (by simp); have L22 := L21.fr ff2 (by simp); have hLC3 := L12.cell; have hLF3 := L12.frz; have hLT3 := L12.lt; have hLC4 := L22.cell; have hLF4 := L22.frz; have hLT4 := L22.lt; have z32 := z3.fr (ff1.trans ff2) (by simp); have v32 := v3.fr (ff1.trans ff2) (by simp)) | (go_at_call 118; (with_reducible refine (sameVals_any _ _ _ r1 r2 z32 v32).mono ?_); rintro e w3 ⟨rfl, ff3⟩; generalize hb3 : decide (r1 = r2) = b3; have Hb3 := Lib.hid hb3; clear hb3; have L13 := L12.fr ff3 (by simp); have L23 := L22.fr ff3 (by simp); have hLC5 := L13.cell; have hLF5 := L13.frz; have hLT5 := L13.lt; have hLC6 := L23.cell; have hLF6 := L23.frz; have hLT6 := L23.lt; have z43 := z4.fr ((ff1.trans ff2).trans ff3) (by simp); have v43 := v4.fr ((ff1.trans ff2).trans ff3) (by simp)) | (go_at_call 119; (with_reducible refine (equal_field _ _ _ l1 l2 z43 v43).mono ?_); rintro e w4 ⟨rfl, ff4⟩; generalize hb4 : decide (l1 = l2) = b4; have Hb4 := Lib.hid hb4; clear hb4)
    all_goals
      go_ret
      refine ⟨congrArg Ending.returned (congrArg Value.bool ?_), by first | exact fo.trans (((ff1.trans ff2).trans ff3).trans ff4) | exact fo.trans ((ff1.trans ff2).trans ff3) | exact fo.trans (ff1.trans ff2) | exact fo.trans ff1⟩
      first | rw [sub_eqB _ _ _ _ _ _ _ _ _ _ _ _ Hb1.out Hb2.out Hb3.out Hb4.out] | rw [sub_eqB _ _ _ _ _ _ _ _ _ _ _ _ Hb1.out Hb2.out Hb3.out rfl] | rw [sub_eqB _ _ _ _ _ _ _ _ _ _ _ _ Hb1.out Hb2.out rfl rfl] | rw [sub_eqB _ _ _ _ _ _ _ _ _ _ _ _ Hb1.out rfl rfl rfl]
      simp_all
  · have g : (f1 == f2) = false := by simpa using hf
    rw [sub_eqB _ _ _ _ _ _ _ _ _ _ _ _ rfl rfl rfl rfl, g]
    clear hf
    have fo := ((Fr.refl [] w).alloc (.cells #[.bool f1, .slice a1 s1.length c1, .int .i64 k1, .slice a2 p1.length c2, .slice a3 r1.length c3, .slice a4 l1.length c4] 60)).alloc (.cells #[.bool f2, .slice d1 s2.length e1, .int .i64 k2, .slice d2 p2.length e2, .slice d3 r2.length e3, .slice d4 l2.length e4] 60)
    go_enter Tryd.func80, Tryd.ntmps80
    go_wp2
    go_ret
    exact ⟨by simp, fo⟩

set_option maxRecDepth 100000 in
set_option maxHeartbeats 3200000 in
theorem same6_any (w : World) (a b : Value) (xs ys : List SubT) (gs hs : List Value) (h1 : Sl [] w 6 a xs.length gs) (g1 : SubsR [] w xs gs) (h2 : Sl [] w 6 b ys.length hs) (g2 : SubsR [] w ys hs) :
    Calls Tryd.prog 37 #[a, b] w fun e w' => e = .returned (.bool (decide (xs = ys))) ∧ Fr [] w w' := by
  have hh1 := h1
  have hh2 := h2
  have hm1 := h1.2.2
  obtain ⟨a1, c1, rfl, hc1, hm1, _⟩ := hm1
  obtain ⟨a2, c2, rfl⟩ := h2.shape
  unfold maxLen at hm1
  have hbig : xs.length ≤ 9223372036854775807 := by omega
  clear hm1 hc1 h1 h2
  by_cases hlen : xs.length = ys.length
  · have gl : (((xs.length : Nat) : Int) != ((ys.length : Nat) : Int)) = false := by simp; omega
    have Hlen := Lib.hid hlen
    clear hlen
    go_enter Tryd.func37, Tryd.ntmps37
    go_wp2
    go_loopw [5] (fun n wr => ∃ (i : Nat), n = .int .i64 i ∧ i ≤ xs.length ∧ Fr [] w wr ∧ Hid (xs.take i = ys.take i)) (fun n _ => xs.length - (intOf n).toNat)
    case atStart => exact ⟨0, rfl, by omega, Fr.refl _ _, Lib.hid rfl⟩
    case round =>
      obtain ⟨i, rfl, hi, hF, ht⟩ := hrel
      by_cases hlt : i < xs.length
      · have hlt2 : i < ys.length := by have := Hlen.out; omega
        obtain ⟨x, hx⟩ : ∃ t, xs[i]? = some t := ⟨xs[i], by simp [hlt]⟩
        obtain ⟨y, hy⟩ : ∃ t, ys[i]? = some t := ⟨ys[i], by simp [hlt2]⟩
        obtain ⟨b1, o1, cp1, xh, xp, xr, xf, hv1, hb1, _, hs1, hd1⟩ := Sl.sub_elem hh1 g1 i x hx
        obtain ⟨b2, o2, cp2, yh, yp, yr, yf, hv2, hb2, _, hs2, hd2⟩ := Sl.sub_elem hh2 g2 i y hy
        injection hv1 with e1 _ e1c
        injection hv2 with e2 _ e2c
        subst e1 e2 e1c e2c
        have hw1 : b1 < wr.drew.heap.size := Nat.lt_of_lt_of_le hb1 hF.size
        have hw2 : b2 < wr.drew.heap.size := Nat.lt_of_lt_of_le hb2 hF.size
        have hx2 := (hs1.fr hF (by simp)).fr (Fr.refl [] _).drew (by simp)
        have hy2 := (hs2.fr hF (by simp)).fr (Fr.refl [] _).drew (by simp)
        obtain ⟨p1, q1, rfl⟩ := hs1.1.shape
        obtain ⟨p2, q2, rfl⟩ := hs1.2.1.shape
        obtain ⟨p3, q3, rfl⟩ := hs1.2.2.1.shape
        obtain ⟨p4, q4, rfl⟩ := hs1.2.2.2.shape
        obtain ⟨r1, s1, rfl⟩ := hs2.1.shape
        obtain ⟨r2, s2, rfl⟩ := hs2.2.1.shape
        obtain ⟨r3, s3, rfl⟩ := hs2.2.2.1.shape
        obtain ⟨r4, s4, rfl⟩ := hs2.2.2.2.shape
        have f10 := (hF.cell hb1 (by simp) _).trans (hd1 0 (by decide))
        have f11 := (hF.cell hb1 (by simp) _).trans (hd1 1 (by decide))
        have f12 := (hF.cell hb1 (by simp) _).trans (hd1 2 (by decide))
        have f13 := (hF.cell hb1 (by simp) _).trans (hd1 3 (by decide))
        have f14 := (hF.cell hb1 (by simp) _).trans (hd1 4 (by decide))
        have f15 := (hF.cell hb1 (by simp) _).trans (hd1 5 (by decide))
        have f20 := (hF.cell hb2 (by simp) _).trans (hd2 0 (by decide))
        have f21 := (hF.cell hb2 (by simp) _).trans (hd2 1 (by decide))
        have f22 := (hF.cell hb2 (by simp) _).trans (hd2 2 (by decide))
        have f23 := (hF.cell hb2 (by simp) _).trans (hd2 3 (by decide))
        have f24 := (hF.cell hb2 (by simp) _).trans (hd2 4 (by decide))
        have f25 := (hF.cell hb2 (by simp) _).trans (hd2 5 (by decide))
        clear hd1 hd2 hs1 hs2
        simp only [Nat.add_zero, ← Nat.add_assoc, subC, List.getElem?_cons_zero, List.getElem?_cons_succ] at f10 f11 f12 f13 f14 f15 f20 f21 f22 f23 f24 f25
        have i1 : (i : Int) < (xs.length : Int) := by omega
        have i2 : (i : Int) < (ys.length : Int) := by omega
        have Hx := Lib.hid hx
        have Hy := Lib.hid hy
        clear hx hy
        cases hd : decide (x = y)
        · have hne : decide (xs = ys) = false := decide_eq_false (ne_at Hx.out Hy.out (of_decide_eq_false hd))
          have Hne := Lib.hid hne
          clear hne
          go_wp2_with fail
          go_region_held3 (fun w' => w'.cell? ⟨b1, o1 + i * 6, none⟩ = some (.bool x.final_) ∧ w'.cell? ⟨b1, o1 + i * 6 + 1, none⟩ = some (.slice p1 x.supers.length q1) ∧ w'.cell? ⟨b1, o1 + i * 6 + 2, none⟩ = some (.int .i64 x.comp.kind) ∧ w'.cell? ⟨b1, o1 + i * 6 + 3, none⟩ = some (.slice p2 x.comp.params.length q2) ∧ w'.cell? ⟨b1, o1 + i * 6 + 4, none⟩ = some (.slice p3 x.comp.results.length q3) ∧ w'.cell? ⟨b1, o1 + i * 6 + 5, none⟩ = some (.slice p4 x.comp.fields.length q4) ∧ w'.cell? ⟨b2, o2 + i * 6, none⟩ = some (.bool y.final_) ∧ w'.cell? ⟨b2, o2 + i * 6 + 1, none⟩ = some (.slice r1 y.supers.length s1) ∧ w'.cell? ⟨b2, o2 + i * 6 + 2, none⟩ = some (.int .i64 y.comp.kind) ∧ w'.cell? ⟨b2, o2 + i * 6 + 3, none⟩ = some (.slice r2 y.comp.params.length s2) ∧ w'.cell? ⟨b2, o2 + i * 6 + 4, none⟩ = some (.slice r3 y.comp.results.length s3) ∧ w'.cell? ⟨b2, o2 + i * 6 + 5, none⟩ = some (.slice r4 y.comp.fields.length s4))
            (first | (exact ⟨f10, f11, f12, f13, f14, f15, f20, f21, f22, f23, f24, f25⟩) | (exact ⟨(hF2.cell hw1 (by simp) _).trans f10, (hF2.cell hw1 (by simp) _).trans f11, (hF2.cell hw1 (by simp) _).trans f12, (hF2.cell hw1 (by simp) _).trans f13, (hF2.cell hw1 (by simp) _).trans f14, (hF2.cell hw1 (by simp) _).trans f15, (hF2.cell hw2 (by simp) _).trans f20, (hF2.cell hw2 (by simp) _).trans f21, (hF2.cell hw2 (by simp) _).trans f22, (hF2.cell hw2 (by simp) _).trans f23, (hF2.cell hw2 (by simp) _).trans f24, (hF2.cell hw2 (by simp) _).trans f25⟩) | (go_keep; done))
            (first | (go_at_call 80; refine (same_any _ x y _ _ _ _ _ _ _ _ hx2 hy2).mono ?_; rintro e w2 ⟨rfl, hF2⟩; rw [hd]))
          have f2 : Fr [] w w2 := Fr.trans (by repeat (first | (with_reducible exact Fr.refl _ _) | (with_reducible assumption) | (with_reducible apply Fr.alloc) | (with_reducible apply Fr.drew) | (with_reducible apply Fr.drewN) | (with_reducible refine Fr.setCell ?_ (by first | (left; simp; done) | (right; simp; done) | (right; simp; omega)) _))) hF2
          go_wp2
          go_ret
          exact ⟨by rw [Hne.out]; rfl, f2⟩
        · have hn := take_eq_at ht.out Hx.out Hy.out (of_decide_eq_true hd)
          have Hn := Lib.hid hn
          clear hn
          go_wp2_with fail
          go_region_held3 (fun w' => w'.cell? ⟨b1, o1 + i * 6, none⟩ = some (.bool x.final_) ∧ w'.cell? ⟨b1, o1 + i * 6 + 1, none⟩ = some (.slice p1 x.supers.length q1) ∧ w'.cell? ⟨b1, o1 + i * 6 + 2, none⟩ = some (.int .i64 x.comp.kind) ∧ w'.cell? ⟨b1, o1 + i * 6 + 3, none⟩ = some (.slice p2 x.comp.params.length q2) ∧ w'.cell? ⟨b1, o1 + i * 6 + 4, none⟩ = some (.slice p3 x.comp.results.length q3) ∧ w'.cell? ⟨b1, o1 + i * 6 + 5, none⟩ = some (.slice p4 x.comp.fields.length q4) ∧ w'.cell? ⟨b2, o2 + i * 6, none⟩ = some (.bool y.final_) ∧ w'.cell? ⟨b2, o2 + i * 6 + 1, none⟩ = some (.slice r1 y.supers.length s1) ∧ w'.cell? ⟨b2, o2 + i * 6 + 2, none⟩ = some (.int .i64 y.comp.kind) ∧ w'.cell? ⟨b2, o2 + i * 6 + 3, none⟩ = some (.slice r2 y.comp.params.length s2) ∧ w'.cell? ⟨b2, o2 + i * 6 + 4, none⟩ = some (.slice r3 y.comp.results.length s3) ∧ w'.cell? ⟨b2, o2 + i * 6 + 5, none⟩ = some (.slice r4 y.comp.fields.length s4))
            (first | (exact ⟨f10, f11, f12, f13, f14, f15, f20, f21, f22, f23, f24, f25⟩) | (exact ⟨(hF2.cell hw1 (by simp) _).trans f10, (hF2.cell hw1 (by simp) _).trans f11, (hF2.cell hw1 (by simp) _).trans f12, (hF2.cell hw1 (by simp) _).trans f13, (hF2.cell hw1 (by simp) _).trans f14, (hF2.cell hw1 (by simp) _).trans f15, (hF2.cell hw2 (by simp) _).trans f20, (hF2.cell hw2 (by simp) _).trans f21, (hF2.cell hw2 (by simp) _).trans f22, (hF2.cell hw2 (by simp) _).trans f23, (hF2.cell hw2 (by simp) _).trans f24, (hF2.cell hw2 (by simp) _).trans f25⟩) | (go_keep; done))
            (first | (go_at_call 80; refine (same_any _ x y _ _ _ _ _ _ _ _ hx2 hy2).mono ?_; rintro e w2 ⟨rfl, hF2⟩; rw [hd]))
          have f2 : Fr [] w w2 := Fr.trans (by repeat (first | (with_reducible exact Fr.refl _ _) | (with_reducible assumption) | (with_reducible apply Fr.alloc) | (with_reducible apply Fr.drew) | (with_reducible apply Fr.drewN) | (with_reducible refine Fr.setCell ?_ (by first | (left; simp; done) | (right; simp; done) | (right; simp; omega)) _))) hF2
          go_wp2
          go_roundw
          case rel => exact ⟨i + 1, by go_num, by omega, f2, Hn⟩
          case measure => simp [intOf]; omega
      · have hk : i = xs.length := by omega
        have he : decide (xs = ys) = true := decide_eq_true (by
          have := ht.out
          rw [List.take_of_length_le (by omega), List.take_of_length_le (by have := Hlen.out; omega)] at this
          exact this)
        have He := Lib.hid he
        clear he
        have i1 : ¬ (i : Int) < (xs.length : Int) := by omega
        go_wp2
        go_ret
        exact ⟨by rw [He.out]; rfl, hF⟩
  · have gl : (((xs.length : Nat) : Int) != ((ys.length : Nat) : Int)) = true := by simp; omega
    have he : decide (xs = ys) = false := decide_eq_false (fun h => hlen (by rw [h]))
    have He := Lib.hid he
    clear he hlen
    go_enter Tryd.func37, Tryd.ntmps37
    go_wp2
    go_ret
    exact ⟨by rw [He.out]; rfl, Fr.refl _ _⟩
end Go.Proofs.YtokneepfknepaaaDoor
