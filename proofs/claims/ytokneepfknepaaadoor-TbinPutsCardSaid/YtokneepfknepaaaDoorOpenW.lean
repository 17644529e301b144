/- The walks of layer 6: a reader is opened. -/
import Derived.Test.YtokneepfknepaaaDoorRdWC
import Derived.Lib.SliceRun
set_option linter.unusedSimpArgs false
set_option linter.unusedVariables false
namespace Go.Proofs.YtokneepfknepaaaDoor
open Go.RowKit

theorem info_byte_slice : Tryd.prog.underlying 26 = some (.slice 5) := und_bytes

set_option maxRecDepth 100000 in
set_option maxHeartbeats 800000 in
theorem clone_any {S : List Nat} {w : World} {bv : Value} {bs : List UInt8} (h : Sl S w 1 bv bs.length (bs.map B)) (hl : bs.length ≤ 1099511627776) :
    Calls Tryd.prog 56 #[bv] w fun e w' => ∃ v, e = .returned v ∧ Own [] w' 5 1 v bs.length (bs.map B) ∧ New w v ∧ Fr [] w w' := by
  have hs := h
  have hq := fun (w : World) (a : Option Addr) (n c : Nat) => Go.Lib.run_eql_slice_nil (P := Tryd.prog) w 26 5 a n c 0 0 und_bytes
  obtain ⟨_, _, a, cap, rfl, hcap, hmax, hN, hdat⟩ := h
  cases a with
  | none =>
    have hn : bs.length = 0 := by have := hN rfl; omega
    have hbs : bs = [] := List.length_eq_zero_iff.1 hn
    subst hbs
    go_enter Tryd.func56, Tryd.ntmps56
    go_wp2
    go_ret
    exact ⟨_, rfl, Own.nil _ _ _ _, New.nil _, Fr.refl _ _⟩
  | some a =>
    have hq1 := fun (w : World) (n c : Nat) => hq w (some a) n c
    simp only [Option.isNone_some] at hq1
    go_enter Tryd.func56, Tryd.ntmps56
    have hO : Own [] (w.alloc (.cells #[] 5)) 5 1 (.slice (some ⟨w.heap.size, 0, none⟩) 0 0) 0 [] := Own.made (S := []) 5 1 0 [] (by simp) rfl (by simp) (by decide)
    have hs2 := hs.fr ((Fr.refl [] w).alloc (.cells #[] 5)) (by simp)
    have hb : 0 + bs.length ≤ 140737488355328 := by omega
    go_wp2_with (at_builtin; refine app_u8 rfl (.tmp 5) (.tmp 6) _ rfl _ 0 [] rfl hO _ bs.length (bs.map B) rfl (hs2.src und_bytes) hb ?_; intro v' w3 hown hf hb3)
    go_ret
    have hnew : New w (.slice (some ⟨w.heap.size, 0, none⟩) 0 0) := by intro b hb; simp [Value.blk] at hb; omega
    refine ⟨v', rfl, by simpa using hown, hnew.app hb3 (by simp), (((Fr.refl [] w).alloc _).app hf hnew)⟩

set_option maxRecDepth 100000 in
set_option maxHeartbeats 800000 in
theorem open_any {S : List Nat} {w : World} {bv : Value} {bs : List UInt8} (h : Sl S w 1 bv bs.length (bs.map B)) (hg : Gl [] w) (hl : bs.length ≤ 1099511627776) :
    Calls Tryd.prog 27 #[bv] w fun e w' => ∃ rb v, e = .returned (.pointer (some ⟨rb, 0, none⟩)) ∧ Rd [rb] w' rb v bs rOpen ∧ w.heap.size ≤ rb ∧ Fr [] w w' := by
  go_enter Tryd.func27, Tryd.ntmps27
  go_wp2_with (go_at_call 56; refine (clone_any h hl).mono ?_; rintro e w2 ⟨v2, rfl, hO2, hN2, hF2⟩; obtain ⟨a2, c2, rfl, _⟩ := hO2.shape)
  go_ret
  have hsl : Sl [w2.heap.size] w2 1 (.slice a2 bs.length c2) bs.length (bs.map B) := hO2.sl (by
    intro b hb hm
    have := (hO2.blk_lt b hb).1
    simp at hm
    omega)
  refine ⟨w2.heap.size, _, rfl, ⟨by simp, by simp, Loc.new w2 (rdCells w2.heap.size (.slice a2 bs.length c2) rOpen) _, hsl.fr ((Fr.refl [] _).alloc _) (by simp), ?_, by simp [rOpen], hl⟩, hF2.size, hF2.alloc _⟩
  have hg2 := hg.fr hF2 (by simp)
  refine Gl.fr (S := [w2.heap.size]) (S' := []) ⟨hg2.lt, ?_, hg2.cell⟩ ((Fr.refl [] _).alloc _) (by simp)
  have := hg2.lt
  simp
  omega
end Go.Proofs.YtokneepfknepaaaDoor
