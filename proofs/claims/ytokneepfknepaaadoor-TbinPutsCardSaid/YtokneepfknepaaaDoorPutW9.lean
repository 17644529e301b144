/- The walks of layer 6: plain sub types. -/
import Derived.Test.YtokneepfknepaaaDoorPutW8
set_option linter.unusedSimpArgs false
set_option linter.unusedVariables false
namespace Go.Proofs.YtokneepfknepaaaDoor
open Go.RowKit

theorem nat_eq0 (n : Nat) : (((n : Nat) : Int) == 0) = (n == 0) := by
  by_cases h : n = 0
  · subst h; rfl
  · have : (((n : Nat) : Int) == 0) = false := by simp; omega
    rw [this]; simp [h]
theorem nat_eq1 (n : Nat) : (((n : Nat) : Int) == 1) = (n == 1) := bit_eq n
theorem nat_add0 (n m : Nat) : (((n : Nat) : Int) + (m : Int) == 0) = (n + m == 0) := by
  rw [← nat_eq0]; simp
theorem plainSub_bools (b1 b2 b3 b4 : Bool) (fb : Bool) (sup : List HeapT) (ck : Int) (ps rs : List ValT) (fs : List FieldT) (h1 : sup.all indexedH = b1) (h2 : ps.all plainVal = b2) (h3 : rs.all plainVal = b3) (h4 : fs.all plainField = b4) :
    plainSub ⟨fb, sup, ⟨ck, ps, rs, fs⟩⟩ = (b1 && (b2 && b3 && b4) && (if ck == 1 then fs.length == 0 else if ck == 2 then ps.length + rs.length == 0 else if ck == 3 then ps.length + rs.length == 0 && fs.length == 1 else false)) := by
  simp [plainSub, h1, h2, h3, h4]

set_option maxRecDepth 100000 in
set_option maxHeartbeats 3200000 in
theorem plainSub_any (S : List Nat) (w : World) (t : SubT) (hv pv rv fv : Value) (h : SubR S w t hv pv rv fv) (hl : t.supers.length ≤ 1099511627776 ∧ t.comp.params.length ≤ 1099511627776 ∧ t.comp.results.length ≤ 1099511627776 ∧ t.comp.fields.length ≤ 1099511627776) :
    Calls Tryd.prog 66 #[.agg #[.bool t.final_, hv, .int .i64 t.comp.kind, pv, rv, fv]] w fun e w' => e = .returned (.bool (plainSub t)) ∧ Fr [] w w' := by
  obtain ⟨fb, sup, ⟨ck, ps, rs, fs⟩⟩ := t
  obtain ⟨l1, l2, l3, l4⟩ := hl
  obtain ⟨hs1, hs2, hs3, hs4⟩ := h
  dsimp only at l1 l2 l3 l4 hs1 hs2 hs3 hs4 ⊢
  obtain ⟨ha, hc, rfl⟩ := hs1.shape
  obtain ⟨pa, pc, rfl⟩ := hs2.shape
  obtain ⟨ra, rc, rfl⟩ := hs3.shape
  obtain ⟨fa, fc, rfl⟩ := hs4.shape
  have fo := ((Fr.refl [] w).alloc (.cells #[.bool fb, .slice ha sup.length hc, .int .i64 ck, .slice pa ps.length pc, .slice ra rs.length rc, .slice fa fs.length fc] 60)).alloc (.cells #[.int .i64 ck, .slice pa ps.length pc, .slice ra rs.length rc, .slice fa fs.length fc] 58)
  have k1 := hs1.fr fo (by simp)
  have k2 := hs2.fr fo (by simp)
  have k3 := hs3.fr fo (by simp)
  have k4 := hs4.fr fo (by simp)
  have hM : ∀ o1, Loc ((w.alloc o1).alloc (.cells #[.int .i64 ck, .slice pa ps.length pc, .slice ra rs.length rc, .slice fa fs.length fc] 58)) (w.heap.size + 1) [.int .i64 ck, .slice pa ps.length pc, .slice ra rs.length rc, .slice fa fs.length fc] 58 := by
    intro o1
    have h1 := Loc.new (w.alloc o1) [.int .i64 ck, .slice pa ps.length pc, .slice ra rs.length rc, .slice fa fs.length fc] 58
    rw [World.size_alloc] at h1
    exact h1
  go_enter Tryd.func66, Tryd.ntmps66
  go_wp2_with first | (go_at_call 104; (with_reducible refine (all_heap S _ _ sup k1 l1).mono ?_); rintro e w1 ⟨rfl, hF1⟩; generalize hb1 : sup.all indexedH = b1; have Hb1 := Lib.hid hb1; clear hb1; have hM1 := (hM (.cells #[.bool fb, .slice ha sup.length hc, .int .i64 ck, .slice pa ps.length pc, .slice ra rs.length rc, .slice fa fs.length fc] 60)).fr hF1 (by simp); have kk2 := k2.fr hF1 (by simp); have kk3 := k3.fr hF1 (by simp); have kk4 := k4.fr hF1 (by simp); have ff1 := fo.trans hF1; have hLC1 := hM1.cell; have hLF1 := hM1.frz; have hLT1 := hM1.lt) | (go_at_call 106; (with_reducible refine (all_val S _ _ ps kk2 l2).mono ?_); rintro e w2 ⟨rfl, hF2⟩; generalize hb2 : ps.all plainVal = b2; have Hb2 := Lib.hid hb2; clear hb2; have hM2 := hM1.fr hF2 (by simp); have km3 := kk3.fr hF2 (by simp); have km4 := kk4.fr hF2 (by simp); have ff2 := ff1.trans hF2; have hLC2 := hM2.cell; have hLF2 := hM2.frz; have hLT2 := hM2.lt) | (go_at_call 106; (with_reducible refine (all_val S _ _ rs km3 l3).mono ?_); rintro e w3 ⟨rfl, hF3⟩; generalize hb3 : rs.all plainVal = b3; have Hb3 := Lib.hid hb3; clear hb3; have hM3 := hM2.fr hF3 (by simp); have kn4 := km4.fr hF3 (by simp); have ff3 := ff2.trans hF3; have hLC3 := hM3.cell; have hLF3 := hM3.frz; have hLT3 := hM3.lt) | (go_at_call 107; (with_reducible refine (all_field S _ _ fs kn4 l4).mono ?_); rintro e w4 ⟨rfl, hF4⟩; generalize hb4 : fs.all plainField = b4; have Hb4 := Lib.hid hb4; clear hb4; have hM4 := hM3.fr hF4 (by simp); have ff4 := ff3.trans hF4; have hLC4 := hM4.cell; have hLF4 := hM4.frz; have hLT4 := hM4.lt)
  all_goals
    go_ret
    refine ⟨congrArg Ending.returned (congrArg Value.bool ?_), by first | exact ff4 | exact ff3 | exact ff2 | exact ff1⟩
    first | rw [plainSub_bools b1 b2 b3 b4 _ _ _ _ _ _ Hb1.out Hb2.out Hb3.out Hb4.out] | rw [plainSub_bools b1 b2 b3 _ _ _ _ _ _ _ Hb1.out Hb2.out Hb3.out rfl] | rw [plainSub_bools b1 b2 _ _ _ _ _ _ _ _ Hb1.out Hb2.out rfl rfl] | rw [plainSub_bools b1 _ _ _ _ _ _ _ _ _ Hb1.out rfl rfl rfl]
    try simp only [nat_eq0, nat_eq1, nat_add0]
    try (have q : (ps.length + rs.length == 0) = true := by (simp only [beq_iff_eq]; omega)); try simp only [q]
    try (have q : (ps.length + rs.length == 0) = false := by (simp only [beq_eq_false_iff_ne]; omega)); try simp only [q]
    simp_all
end Go.Proofs.YtokneepfknepaaaDoor
