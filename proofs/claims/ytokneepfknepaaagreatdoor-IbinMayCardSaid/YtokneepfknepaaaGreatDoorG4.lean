/- The walk of layer 7: are two instructions the same? -/
import Derived.Test.YtokneepfknepaaaGreatDoorG3
set_option linter.unusedSimpArgs false
set_option linter.unusedVariables false
namespace Go.Proofs.YtokneepfknepaaaGreatDoor
open Go.RowKit

theorem ins_eqB (o1 x1 y1 : Int) (u1 : Nat) (hk1 hn1 jk1 jn1 : Int) (n1 m1 : Bool) (t1 : List ValT) (l1 : List Int) (bk1 vk1 : Int) (vn1 : Bool) (wk1 wn1 bn1 : Int) (c1 : List CatchT)
    (o2 x2 y2 : Int) (u2 : Nat) (hk2 hn2 jk2 jn2 : Int) (n2 m2 : Bool) (t2 : List ValT) (l2 : List Int) (bk2 vk2 : Int) (vn2 : Bool) (wk2 wn2 bn2 : Int) (c2 : List CatchT) {b1 b2 b3 : Bool} (h1 : decide (t1 = t2) = b1) (h2 : decide (l1 = l2) = b2) (h3 : decide (c1 = c2) = b3) :
    decide ((⟨o1, x1, y1, u1, ⟨hk1, hn1⟩, ⟨jk1, jn1⟩, n1, m1, t1, l1, ⟨bk1, ⟨vk1, vn1, ⟨wk1, wn1⟩⟩, bn1⟩, c1⟩ : InstrT) = ⟨o2, x2, y2, u2, ⟨hk2, hn2⟩, ⟨jk2, jn2⟩, n2, m2, t2, l2, ⟨bk2, ⟨vk2, vn2, ⟨wk2, wn2⟩⟩, bn2⟩, c2⟩) =
      ((o1 == o2) && (x1 == x2) && (y1 == y2) && ((u1 : Int) == (u2 : Int)) && ((hk1 == hk2) && (hn1 == hn2)) && ((jk1 == jk2) && (jn1 == jn2)) && (n1 == n2) && (m1 == m2) && ((bk1 == bk2) && ((vk1 == vk2) && ((vn1 == vn2) && ((wk1 == wk2) && ((wn1 == wn2) && (bn1 == bn2)))))) && b1 && b2 && b3) := by
  subst h1 h2 h3
  rw [Bool.eq_iff_iff]
  simp only [decide_eq_true_eq, InstrT.mk.injEq, HeapT.mk.injEq, BlockT.mk.injEq, ValT.mk.injEq, Bool.and_eq_true, beq_iff_eq]
  constructor
  · rintro ⟨rfl, rfl, rfl, rfl, ⟨rfl, rfl⟩, ⟨rfl, rfl⟩, rfl, rfl, rfl, rfl, ⟨rfl, ⟨rfl, rfl, ⟨rfl, rfl⟩⟩, rfl⟩, rfl⟩
    simp
  · rintro ⟨⟨⟨⟨⟨⟨⟨⟨⟨⟨⟨rfl, rfl⟩, rfl⟩, hu⟩, rfl, rfl⟩, rfl, rfl⟩, rfl⟩, rfl⟩, rfl, rfl, rfl, rfl, rfl, rfl⟩, rfl⟩, rfl⟩, rfl⟩
    have : u1 = u2 := by omega
    subst this
    simp
set_option maxRecDepth 100000 in
set_option maxHeartbeats 12800000 in
theorem same_i (w : World) (i j : InstrT) (tv lv cv tv' lv' cv' : Value) (h : InsR [] w i tv lv cv) (h' : InsR [] w j tv' lv' cv') :
    Calls Tryz.prog 33 #[.agg (insC i tv lv cv).toArray, .agg (insC j tv' lv' cv').toArray] w fun e w' => e = .returned (.bool (decide (i = j))) ∧ Fr [] w w' := by
  obtain ⟨o1, x1, y1, u1, ⟨hk1, hn1⟩, ⟨jk1, jn1⟩, n1, m1, t1, l1, ⟨bk1, ⟨vk1, vn1, ⟨wk1, wn1⟩⟩, bn1⟩, c1⟩ := i
  obtain ⟨o2, x2, y2, u2, ⟨hk2, hn2⟩, ⟨jk2, jn2⟩, n2, m2, t2, l2, ⟨bk2, ⟨vk2, vn2, ⟨wk2, wn2⟩⟩, bn2⟩, c2⟩ := j
  obtain ⟨ht, hl, hc⟩ := h
  obtain ⟨ht', hl', hc'⟩ := h'
  unfold insC
  dsimp only at ht hl hc ht' hl' hc' ⊢
  have hS0 := St.start [] w
  go_enter Tryz.func33, Tryz.ntmps33
  go_wp2_with first
    | (go_at_call 69; (with_reducible refine (sameVals_any _ _ _ t1 t2 ?_ ?_).mono ?_); (· (apply St.sl (hs := ht); (exact zsts1))); (· (apply St.sl (hs := ht'); (exact zsts1))); rintro e w1 ⟨rfl, hF1⟩; generalize hb1 : decide (t1 = t2) = b1; have Hb1 := Lib.hid hb1; clear hb1; refine st_fr hF1 ?_; (repeat (apply Exists.intro)); refine ⟨?_, ?_⟩; (· exact zsts1); (try simp only [World.size_alloc, World.size_setCell, size_drew, size_drewN]); intro hS; (try clear hQ); have hQ := St.facts hS; simp only [Facts, Res.fact, List.cons_append, List.nil_append, true_and, and_true] at hQ)
    | (go_at_call 70; (with_reducible refine (equal_int _ _ _ l1 l2 ?_ ?_).mono ?_); (· (apply St.sl (hs := hl); (exact zsts1))); (· (apply St.sl (hs := hl'); (exact zsts1))); rintro e w2 ⟨rfl, hF2⟩; generalize hb2 : decide (l1 = l2) = b2; have Hb2 := Lib.hid hb2; clear hb2; refine st_fr hF2 ?_; (repeat (apply Exists.intro)); refine ⟨?_, ?_⟩; (· exact zsts1); (try simp only [World.size_alloc, World.size_setCell, size_drew, size_drewN]); intro hS; (try clear hQ); have hQ := St.facts hS; simp only [Facts, Res.fact, List.cons_append, List.nil_append, true_and, and_true] at hQ)
    | (go_at_call 71; (with_reducible refine (equal_catch _ _ _ c1 c2 ?_ ?_).mono ?_); (· (apply St.sl (hs := hc); (exact zsts1))); (· (apply St.sl (hs := hc'); (exact zsts1))); rintro e w3 ⟨rfl, hF3⟩; generalize hb3 : decide (c1 = c2) = b3; have Hb3 := Lib.hid hb3; clear hb3; refine st_fr hF3 ?_; (repeat (apply Exists.intro)); refine ⟨?_, ?_⟩; (· exact zsts1); (try simp only [World.size_alloc, World.size_setCell, size_drew, size_drewN]); intro hS; (try clear hQ); have hQ := St.facts hS; simp only [Facts, Res.fact, List.cons_append, List.nil_append, true_and, and_true] at hQ)
  all_goals
    go_ret
    refine ⟨congrArg (fun b => Ending.returned (Value.bool b)) ?_, by (first | exact hS.fr | (apply St.fr; (exact zsts1)) | (apply St.fr; (first | exact hS0 | (exact zsts1))))⟩
    first
      | rw [ins_eqB _ _ _ _ _ _ _ _ _ _ _ _ _ _ _ _ _ _ _ _ _ _ _ _ _ _ _ _ _ _ _ _ _ _ _ _ _ _ Hb1.out Hb2.out Hb3.out]
      | rw [ins_eqB _ _ _ _ _ _ _ _ _ _ _ _ _ _ _ _ _ _ _ _ _ _ _ _ _ _ _ _ _ _ _ _ _ _ _ _ _ _ Hb1.out Hb2.out rfl]
      | rw [ins_eqB _ _ _ _ _ _ _ _ _ _ _ _ _ _ _ _ _ _ _ _ _ _ _ _ _ _ _ _ _ _ _ _ _ _ _ _ _ _ Hb1.out rfl rfl]
      | rw [ins_eqB _ _ _ _ _ _ _ _ _ _ _ _ _ _ _ _ _ _ _ _ _ _ _ _ _ _ _ _ _ _ _ _ _ _ _ _ _ _ rfl rfl rfl]
    first
      | (simp_all; done)
end Go.Proofs.YtokneepfknepaaaGreatDoor
