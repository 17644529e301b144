
/- MapsBits: any truths as bits, and any bits, are the document's; the walk of the law. -/
import Derived.Test.YthdbddolkfibkaaGreatDoorMbR
import Derived.Test.YthdbddolkfibkaaGreatDoorMbH2
import Derived.Test.YthdbddolkfibkaaGreatDoorKn19
import Derived.Deep.RegionHeld3
set_option linter.unusedSimpArgs false
set_option linter.unusedVariables false
namespace Go.Proofs.YthdbddolkfibkaaGreatDoor
open Go.RowKit
theorem bits_lt (l : List Bool) : ∀ x ∈ bitsB l, x < 2 ^ 64 := by
  intro x hx
  simp only [bitsB, wordsB, List.mem_map] at hx
  obtain ⟨j, _, rfl⟩ := hx
  exact wordAt_lt _ _
theorem one_same (w : World) (a b : Value) (xs : List Nat) (h1 : Sl [] w 1 a xs.length (wordsC xs)) (h2 : Sl [] w 1 b xs.length (wordsC xs)) :
    Calls Tryz.prog 7 #[a, b] w fun e w' => e = .returned (.bool true) ∧ Fr [] w w' :=
  (one_any w a b xs xs h1 h2).mono fun e w' ⟨h, k⟩ => ⟨by rw [h]; simp, k⟩
set_option maxRecDepth 100000 in
set_option maxHeartbeats 6400000 in
theorem mapsBits_any {w : World} (hm : laidMet Tryz.prog Rows.mapsBitsRow.laid w) (a b : Value) (l : List Bool) (bs : List Nat) (i : Int) (hA : Sl [] w 1 a l.length (boolsC l)) (hB : Sl [] w 1 b bs.length (wordsC bs)) (hx : ∀ x ∈ bs, x < 2 ^ 64)
    (hi : i ≤ 9223372036854775807) (hi0 : -9223372036854775808 ≤ i) :
    Calls Tryz.prog 3 #[a, b, .int .i64 i] w fun e w' => e = .returned (.bool true) ∧ Fr [] w w' := by
  obtain ⟨a1, c1, rfl, hn1, hc1⟩ := sl_cells hA
  obtain ⟨a2, c2, rfl, hn2, _⟩ := sl_cells hB
  have Hc := Lib.hid hc1
  clear hc1
  have hK := known_any hm
  by_cases h1 : l.length ≤ 1000
  · by_cases h2 : bs.length ≤ 50
    · have i1 : ¬ (1000 < (l.length : Int)) := by omega
      have i2 : ¬ (50 < (bs.length : Int)) := by omega
      go_enter Tryz.func3, Tryz.ntmps3
      go_wp2_with first | (go_at_call 4; refine hK.mono ?_; rintro e w1 ⟨rfl, hF1⟩) | (go_at_call 5; refine (of_any _ _ l h1 (hA.fr hF1 (by simp))).mono ?_; rintro e w2 ⟨v2, rfl, hs2, hF2⟩)
      go_loopw [8] (fun k wr => ∃ (j : Nat), k = .int .i64 (j : Int) ∧ j ≤ l.length ∧ Fr [] w2 wr) (fun k _ => l.length - (intOf k).toNat)
      case atStart => exact ⟨0, rfl, by omega, Fr.refl _ _⟩
      case round =>
        obtain ⟨j, rfl, hj, hF3⟩ := hrel
        have hF := (hF1.trans hF2).trans hF3
        by_cases hlt : j < l.length
        · obtain ⟨t, ht⟩ : ∃ t, l[j]? = some t := ⟨l[j], by simp⟩
          obtain ⟨g1, o1, rfl, hd1, hg1⟩ := Hc.out j hlt
          have f1 : wr.cell? ⟨g1, o1 + j, none⟩ = some (.bool t) := (hF.cell hg1 (by simp) _).trans (hd1.trans (by rw [boolsC, List.getElem?_map, ht]; rfl))
          have hb := has_bits l j t ht
          have i3 : (j : Int) < (l.length : Int) := by omega
          have HH : ∀ w', Sl [] w' 1 v2 (bitsB l).length (wordsC (bitsB l)) → Calls Tryz.prog 6 #[v2, .int .i64 (j : Int)] w' fun e w'' => e = .returned (.bool t) ∧ w'' = w' := fun w' h =>
            (has_any w' v2 (bitsB l) j (bits_lt l) h (by omega) (by omega)).mono fun e w'' ⟨p, q⟩ => ⟨by rw [p, hb], q⟩
          clear hb hd1 ht
          go_wp2_with fail
          go_region_held3 (fun w' => w'.cell? ⟨g1, o1 + j, none⟩ = some (.bool t)) (first | (go_keep; done) | (simp [f1]; done)) (first | (go_at_call 6; refine (HH _ (hs2.fr (by repeat (first | (with_reducible exact Fr.refl _ _) | (with_reducible assumption) | (with_reducible apply Fr.alloc) | (with_reducible apply Fr.drew) | (with_reducible apply Fr.drewN) | (with_reducible refine Fr.setCell ?_ (by first | (left; simp; done) | (right; simp; done) | (right; simp; omega)) _))) (by simp))).mono ?_; rintro e w' ⟨rfl, rfl⟩))
          go_wp2
          go_roundw
          case rel => exact ⟨j + 1, by first | (congr 1; omega) | go_num, by omega, by repeat (first | (with_reducible exact Fr.refl _ _) | (with_reducible assumption) | (with_reducible apply Fr.alloc) | (with_reducible apply Fr.drew) | (with_reducible apply Fr.drewN) | (with_reducible refine Fr.setCell ?_ (by first | (left; simp; done) | (right; simp; done) | (right; simp; omega)) _))⟩
          case measure => simp [intOf]; omega
        · obtain rfl : j = l.length := by omega
          have hb4 : ∀ w', Sl [] w' 1 (.slice a2 bs.length c2) bs.length (wordsC bs) → Calls Tryz.prog 6 #[.slice a2 bs.length c2, .int .i64 i] w' fun e w'' => e = .returned (.bool (hasB bs i)) ∧ Fr [] w' w'' := fun w' h =>
            (has_any w' _ bs i hx h hi hi0).mono fun e w'' ⟨p, q⟩ => ⟨p, q ▸ Fr.refl _ _⟩
          go_wp2_with first | (go_at_call 8; refine (refOf_any _ _ l h1 (hA.fr hF (by simp))).mono ?_; rintro e w4 ⟨v4, rfl, hs4, hF4⟩) | (go_at_call 7; refine (one_same _ _ _ (bitsB l) (hs2.fr (hF3.trans hF4) (by simp)) hs4).mono ?_; rintro e w5 ⟨rfl, hF5⟩) | (go_at_call 6; refine (hb4 _ (hB.fr ((hF.trans hF4).trans hF5) (by simp))).mono ?_; rintro e w6 ⟨rfl, hF6⟩) | (go_at_call 9; refine (refHas_any _ _ bs i hx (hB.fr (((hF.trans hF4).trans hF5).trans hF6) (by simp)) (by omega) hi hi0).mono ?_; rintro e w7 ⟨rfl, hF7⟩)
          go_ret
          refine ⟨?_, (((hF.trans hF4).trans hF5).trans hF6).trans hF7⟩
          rfl
    · have i1 : ¬ (1000 < (l.length : Int)) := by omega
      have i2 : (50 < (bs.length : Int)) := by omega
      go_enter Tryz.func3, Tryz.ntmps3
      go_wp2_with first | (go_at_call 4; refine hK.mono ?_; rintro e w1 ⟨rfl, hF1⟩)
      go_ret
      exact ⟨rfl, by repeat (first | (with_reducible exact Fr.refl _ _) | (with_reducible assumption) | (with_reducible apply Fr.alloc) | (with_reducible apply Fr.drew) | (with_reducible apply Fr.drewN) | (with_reducible refine Fr.setCell ?_ (by first | (left; simp; done) | (right; simp; done) | (right; simp; omega)) _))⟩
  · have i1 : (1000 < (l.length : Int)) := by omega
    go_enter Tryz.func3, Tryz.ntmps3
    go_wp2_with first | (go_at_call 4; refine hK.mono ?_; rintro e w1 ⟨rfl, hF1⟩)
    go_ret
    exact ⟨rfl, by repeat (first | (with_reducible exact Fr.refl _ _) | (with_reducible assumption) | (with_reducible apply Fr.alloc) | (with_reducible apply Fr.drew) | (with_reducible apply Fr.drewN) | (with_reducible refine Fr.setCell ?_ (by first | (left; simp; done) | (right; simp; done) | (right; simp; omega)) _))⟩
end Go.Proofs.YthdbddolkfibkaaGreatDoor
