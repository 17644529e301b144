/- Bytes of the call's own as a string. The walks of the document's PutRec, and of the program's PutVals (layer 6). Plain: the bytes of a plain group that are cut are refused; what is put is read, whatever stands behind. The walks of layer 6: the chapter's rows. The walk of the law TbinCut. The walk of the law TbinPuts. The walk of the document's bytes of an instruction (layer 7). Made by tools/one.py. -/
import Derived.Test.YtokneepfknepaaaGreatDoorG5
import Derived.Laws.IdiomStrings
import Derived.Test.YtokneepfknepaaaGreatDoorG8
import Derived.Test.YtokneepfknepaaaGreatDoorG2
import Derived.Laws.StructEq
import Derived.Test.YtokneepfknepaaaGreatDoorG9
import Derived.Test.YtokneepfknepaaaGreatDoorG6
set_option linter.unusedSimpArgs false
set_option linter.unusedVariables false
namespace Go.Proofs.YtokneepfknepaaaGreatDoor
open Go.RowKit
theorem und_string : Tryz.prog.underlying 9 = some .string := by kernel_rfl
theorem und_byte : Tryz.prog.underlying 5 = some (.int .u8) := by kernel_rfl
/-- Bytes as a string. -/
theorem Out.conv {w : World} {v : Value} {X : List UInt8} (h : Out w v X) : (convert 26 9 v).run Tryz.prog w = .ok (.string ⟨X.toArray⟩) w := by
  obtain ⟨h1, h2, h3⟩ := h
  rcases h3 with ⟨rfl, h0⟩ | ⟨g, cap, cur, rfl, hg, hh, h4, h5, h6, h7⟩
  · have : X = [] := List.length_eq_zero_iff.1 h0
    subst this
    rw [run_convert_bytes_string w _ _ _ _ _ _ und_bytes und_byte und_string]
    rfl
  · refine run_convert_bytes_back w _ _ _ ⟨g, 0, none⟩ cap X und_bytes und_byte und_string (fun j hj => ?_)
    have hadd : (⟨g, 0, none⟩ : Addr).add j = ⟨g, j, none⟩ := by unfold Addr.add; split <;> simp_all
    rw [hadd, cell_of_row w g j cur _ (0, 0) hh]
    have h8 := congrArg (fun l => l[j]?) h7
    simp only [List.getElem?_take, List.getElem?_map] at h8
    rw [if_pos (by omega)] at h8
    simp only [Array.getElem?_toList] at h8
    rw [h8, List.getElem?_eq_getElem hj]
    rfl
theorem St.conv {S : List Nat} {w0 w : World} {G G' : List Res} {v : Value} {X : List UInt8} (h : St S w0 w G) (p : Pick G (.own 5 1 (v) (X).length ((X).map B)) G') : (convert 26 9 v).run Tryz.prog w = .ok (.string ⟨X.toArray⟩) w :=
  Out.conv (h.outOf p)
theorem Out.take {w : World} {a : Option Addr} {n c : Nat} {X : List UInt8} (h : Out w (.slice a n c) X) (m : Nat) (hm : m ≤ n) : Out w (.slice a m c) (X.take m) := by
  have h1 : Own [] w 5 1 (.slice a n c) X.length (X.map B) := h
  obtain ⟨_, _, e, _, _⟩ := h1.shape
  injection e with _ e2 _
  subst e2
  have h2 := h1.take hm
  have e3 : (X.take m).length = m := by rw [List.length_take]; omega
  have e4 : (X.map B).take (m * 1) = (X.take m).map B := by rw [Nat.mul_one, List.map_take]
  rw [e4] at h2
  show Own [] w 5 1 (.slice a m c) (X.take m).length ((X.take m).map B)
  rw [e3]
  exact h2
end Go.Proofs.YtokneepfknepaaaGreatDoor

set_option linter.unusedSimpArgs false
set_option linter.unusedVariables false
namespace Go.Proofs.YtokneepfknepaaaGreatDoor
open Go.RowKit

end Go.Proofs.YtokneepfknepaaaGreatDoor

set_option linter.unusedSimpArgs false
set_option linter.unusedVariables false
namespace Go.Proofs.YtokneepfknepaaaGreatDoor

end Go.Proofs.YtokneepfknepaaaGreatDoor

set_option linter.unusedSimpArgs false
set_option linter.unusedVariables false
namespace Go.Proofs.YtokneepfknepaaaGreatDoor
open Go.RowKit

theorem k1 : rVal [100, 133, 0] rOpen = (⟨3, false, ⟨13, 5⟩⟩, ⟨3, 0, 0⟩) := by decide
theorem k2 : (rVal [100, 127] rOpen).2 = ⟨1, 60, 1⟩ := by decide
theorem k3 : (rVal [125] rOpen).2 = ⟨0, 61, 0⟩ := by decide
theorem k4 : (rRec [96, 1, 127, 0] rOpen).1 = [⟨true, [], ⟨1, [⟨1, false, ⟨0, 0⟩⟩], [], []⟩⟩] := by decide


end Go.Proofs.YtokneepfknepaaaGreatDoor

set_option linter.unusedSimpArgs false
set_option linter.unusedVariables false
namespace Go.Proofs.YtokneepfknepaaaGreatDoor
open Go.RowKit

def SubT.small (t : SubT) : Prop := t.supers.length ≤ 60 ∧ t.comp.params.length ≤ 60 ∧ t.comp.results.length ≤ 60 ∧ t.comp.fields.length ≤ 60

end Go.Proofs.YtokneepfknepaaaGreatDoor

set_option linter.unusedSimpArgs false
set_option linter.unusedVariables false
namespace Go.Proofs.YtokneepfknepaaaGreatDoor
open Go.RowKit


theorem rPutHeap (w : World) (h : HeapT) (hp : refH h = true) : Calls Tryz.prog 62 #[.agg #[.int .i64 h.kind, .int .i64 h.n]] w fun e w' => ∃ v', e = .returned v' ∧ St [] w w' [.own 5 1 (v') (pHeap h).length ((pHeap h).map B)] :=
  (refPutHeap_any w h hp).mono fun e w' ⟨v, h1, h2, h3, h4⟩ => ⟨v, h1, St.ofOut h2 h3 h4⟩
theorem refH_plain (n : Bool) (h : HeapT) : plainVal ⟨3, n, h⟩ = refH h := by obtain ⟨k, m⟩ := h; rw [plainVal_ref]; simp

end Go.Proofs.YtokneepfknepaaaGreatDoor

set_option linter.unusedSimpArgs false
set_option linter.unusedVariables false
namespace Go.Proofs.YtokneepfknepaaaGreatDoor
open Go.RowKit
theorem rPutS (n : Int) (w : World) (h1 : -9223372036854775808 ≤ n) (h2 : n < 9223372036854775808) : Calls Tryz.prog 59 #[.int .i64 n] w fun e w' => ∃ v, e = .returned v ∧ St [] w w' [.own 5 1 (v) (putS n).length ((putS n).map B)] :=
  (refPutS_any n.natAbs n w (Nat.le_refl _) h1 h2).mono fun e w' ⟨v, h1, h2, h3, h4⟩ => ⟨v, h1, St.ofOut h2 h3 h4⟩
theorem refU_wrap (w : World) (n : Int) (h : 0 ≤ n) (h2 : n < 9223372036854775808) : Calls Tryz.prog 57 #[.int .i64 (IntKind.i64.wrap n)] w fun e w' => ∃ v, e = .returned v ∧ St [] w w' [.own 5 1 v (pNum n).length ((pNum n).map B)] := by
  rw [show IntKind.i64.wrap n = n by rw [IntKind.wrap_i64]; omega]
  exact refU_any w n h h2
set_option maxRecDepth 100000 in
set_option maxHeartbeats 25600000 in
theorem oneB1 (w : World) (o x y : Int) (u : Nat) (hk hn jk jn : Int) (n1 n2 : Bool) (ts : List ValT) (ls : List Int) (bk vk : Int) (vn : Bool) (wk wn bn : Int) (cs : List CatchT) (tv lv cv : Value) (hR : InsR [] w (⟨o, x, y, u, ⟨hk, hn⟩, ⟨jk, jn⟩, n1, n2, ts, ls, ⟨bk, ⟨vk, vn, ⟨wk, wn⟩⟩, bn⟩, cs⟩ : InstrT) tv lv cv)
    (hm : mayI (⟨o, x, y, u, ⟨hk, hn⟩, ⟨jk, jn⟩, n1, n2, ts, ls, ⟨bk, ⟨vk, vn, ⟨wk, wn⟩⟩, bn⟩, cs⟩ : InstrT) = true) (hs : SmI (⟨o, x, y, u, ⟨hk, hn⟩, ⟨jk, jn⟩, n1, n2, ts, ls, ⟨bk, ⟨vk, vn, ⟨wk, wn⟩⟩, bn⟩, cs⟩ : InstrT)) (h : shNone o) :
    Calls Tryz.prog 22 #[.agg (insC (⟨o, x, y, u, ⟨hk, hn⟩, ⟨jk, jn⟩, n1, n2, ts, ls, ⟨bk, ⟨vk, vn, ⟨wk, wn⟩⟩, bn⟩, cs⟩ : InstrT) tv lv cv).toArray] w fun e w' => ∃ v', e = .returned v' ∧ St [] w w' [.own 5 1 (v') (pInstr (⟨o, x, y, u, ⟨hk, hn⟩, ⟨jk, jn⟩, n1, n2, ts, ls, ⟨bk, ⟨vk, vn, ⟨wk, wn⟩⟩, bn⟩, cs⟩ : InstrT)).length ((pInstr (⟨o, x, y, u, ⟨hk, hn⟩, ⟨jk, jn⟩, n1, n2, ts, ls, ⟨bk, ⟨vk, vn, ⟨wk, wn⟩⟩, bn⟩, cs⟩ : InstrT)).map B)] := by
  have hb := shape_ok (mayI_shape hm)
  dsimp only at hb
  have ho0 := hb.1
  have ho1 : o < 251 ∨ o / 256 = 251 ∨ o / 256 = 252 := hb.2.1
  clear hb
  obtain ⟨tS, lS, cS⟩ := hR
  obtain ⟨ta, tc, rfl⟩ := tS.shape
  obtain ⟨la, lc, rfl⟩ := lS.shape
  obtain ⟨ca, cc, rfl⟩ := cS.shape
  dsimp only at tS lS cS
  obtain ⟨h1, h2, h3, h4⟩ := hs
  dsimp only at h1 h2 h3 h4
  have HM := Lib.hid hm
  clear hm
  have e0 : pInstr (⟨o, x, y, u, ⟨hk, hn⟩, ⟨jk, jn⟩, n1, n2, ts, ls, ⟨bk, ⟨vk, vn, ⟨wk, wn⟩⟩, bn⟩, cs⟩ : InstrT) = pOp o ++ pRest (⟨o, x, y, u, ⟨hk, hn⟩, ⟨jk, jn⟩, n1, n2, ts, ls, ⟨bk, ⟨vk, vn, ⟨wk, wn⟩⟩, bn⟩, cs⟩ : InstrT) := rfl
  have E0 := Lib.hid e0
  clear e0
  generalize pInstr (⟨o, x, y, u, ⟨hk, hn⟩, ⟨jk, jn⟩, n1, n2, ts, ls, ⟨bk, ⟨vk, vn, ⟨wk, wn⟩⟩, bn⟩, cs⟩ : InstrT) = Y at E0 ⊢
  have lP := pOp_len ho0
  have hS := (St.start [] w).alloc [.int .i64 o, .int .i64 x, .int .i64 y, .int .u64 (u : Int), .int .i64 hk, .int .i64 hn, .int .i64 jk, .int .i64 jn, .bool n1, .bool n2, .slice ta ts.length tc, .slice la ls.length lc, .int .i64 bk, .int .i64 vk, .bool vn, .int .i64 wk, .int .i64 wn, .int .i64 bn, .slice ca cs.length cc] 44
  unfold insC
  dsimp only
  go_enter Tryz.func22, Tryz.ntmps22
  go_upto_if 18 with fail
  have hS := hS.alloc [.int .u8 (o % 256)] 5
  go_cut [3] (fun s wx => St [] w wx [.own 5 1 (s) (pOp o).length ((pOp o).map B), .loc w.heap.size [.int .i64 o, .int .i64 x, .int .i64 y, .int .u64 (u : Int), .int .i64 hk, .int .i64 hn, .int .i64 jk, .int .i64 jn, .bool n1, .bool n2, .slice ta ts.length tc, .slice la ls.length lc, .int .i64 bk, .int .i64 vk, .bool vn, .int .i64 wk, .int .i64 wn, .int .i64 bn, .slice ca cs.length cc] 44])
  case first =>
    (try clear hQ); have hQ := St.facts hS; simp only [Facts, Res.fact, List.cons_append, List.nil_append, true_and, and_true] at hQ
    by_cases h8 : o < 256
    · have i1 : ¬ ((255 : Int) < o) := by omega
      go_wp2_with fail
      go_meet
      have hS := hS.dst (.lit .here (by omega))
      rw [show pOp o = [UInt8.ofNat (o % 256).toNat] by unfold pOp; rw [if_pos h8, show o % 256 = o by omega]]
      exact hS.sel (by exact zsub1)
    · have i1 : (255 : Int) < o := by omega
      have i2 : 0 ≤ o / 256 ∧ o / 256 < 256 := by omega
      have lX := pNum_len (o % 256) (by omega)
      have HT : Hid (o.tmod 256 = o % 256) := Lib.hid (Int.tmod_eq_emod_of_nonneg ho0)
      have hq : IntKind.u8.wrap (IntKind.i64.wrap (o.tdiv 256)) = o / 256 := by
        rw [Int.tdiv_eq_ediv_of_nonneg ho0, show IntKind.i64.wrap (o / 256) = o / 256 by rw [IntKind.wrap_i64]; omega]
        show (o / 256) % 256 = o / 256
        omega
      have i3 : 0 ≤ IntKind.u8.wrap (IntKind.i64.wrap (o.tdiv 256)) ∧ IntKind.u8.wrap (IntKind.i64.wrap (o.tdiv 256)) < 256 := by rw [hq]; omega
      have HP : Hid (pOp o = [UInt8.ofNat (IntKind.u8.wrap (IntKind.i64.wrap (o.tdiv 256))).toNat] ++ pNum (o % 256)) := Lib.hid (by unfold pOp; rw [if_neg h8, hq]; rfl)
      clear hq
      go_wp2_with fail
      go_region_held3 (fun w' => w'.cell? ⟨w.heap.size, 0, none⟩ = some (.int .i64 o)) (first | (go_keep; done) | (simp [hQ]; done)) (first | (refine step_st rfl rfl rfl rfl ?_; (repeat (apply Exists.intro)); refine ⟨?_, ?_, ?_, ?_, ?_⟩; (· exact zsts2); (· exact zdst1); (· exact zsrc1); (· exact zlen1); intro vN wN hS; (try clear hQ); have hQ := St.facts hS; simp only [Facts, Res.fact, List.cons_append, List.nil_append, true_and, and_true] at hQ) | (go_at_call 57; rw [HT.out]; (with_reducible refine (refU_any _ (o % 256) (by omega) (by omega)).mono ?_); rintro e w4 ⟨v4, rfl, s4⟩; refine st_go s4 ?_; (repeat (apply Exists.intro)); refine ⟨?_, ?_⟩; (· exact zsts2); (try simp only [World.size_alloc, World.size_setCell, size_drew, size_drewN]); intro hS; simp only [List.cons_append, List.nil_append] at hS; (try clear hQ); have hQ := St.facts hS; simp only [Facts, Res.fact, List.cons_append, List.nil_append, true_and, and_true] at hQ))
      all_goals
        go_wp2_with fail
        go_meet
        rw [HP.out]
        exact hS.sel (by exact zsub1)
  case rest =>
    clear hS
    have hS := hcut
    clear hcut
    (try clear hQ); have hQ := St.facts hS; simp only [Facts, Res.fact, List.cons_append, List.nil_append, true_and, and_true] at hQ
    have HN : Hid (nineC (shapeP o) = [.bool false, .bool false, .bool false, .bool false, .bool false, .bool false, .bool false, .bool false, .bool false]) := Lib.hid (by
      obtain ⟨h4, h6, h7, h5, h8, h9, h10, h11, h12, h2, h3, h13⟩ := h
      unfold nineC hasL
      repeat rw [if_neg (by omega)]
      rfl)
    have EP : Hid (pRest (⟨o, x, y, u, ⟨hk, hn⟩, ⟨jk, jn⟩, n1, n2, ts, ls, ⟨bk, ⟨vk, vn, ⟨wk, wn⟩⟩, bn⟩, cs⟩ : InstrT) = []) := Lib.hid (rest1 h)
    have EQ : Hid (pOp o ++ [] = pOp o) := Lib.hid (List.append_nil _)
    have hr := shape_range o
    have HK : Hid (shapeP o = shapeP o) := Lib.hid rfl
    have q5 : (shapeP o == 5) = false := by have := h.2.2.2.1; simpa using this
    have q8 : (shapeP o == 8) = false := by have := h.2.2.2.2.1; simpa using this
    have q9 : (shapeP o == 9) = false := by have := h.2.2.2.2.2.1; simpa using this
    have q10 : (shapeP o == 10) = false := by have := h.2.2.2.2.2.2.1; simpa using this
    have q12 : (shapeP o == 12) = false := by have := h.2.2.2.2.2.2.2.2.1; simpa using this
    have q13 : (shapeP o == 13) = false := by have := h.2.2.2.2.2.2.2.2.2.2.2; simpa using this
    clear h HM
    go_wp2_with first | (go_at_call 34; (with_reducible refine (refShape_any _ o).mono ?_); rintro e w1 ⟨rfl, hw1⟩; subst w1; (try rw [HK.out])) | (go_at_call 35; (with_reducible refine (refHas_any _ _ ?_ ?_).mono ?_); (· omega); (· omega); rintro e w2 ⟨rfl, hF2⟩; refine st_fr hF2 ?_; (repeat (apply Exists.intro)); refine ⟨?_, ?_⟩; (· exact zsts2); (try simp only [World.size_alloc, World.size_setCell, size_drew, size_drewN]); intro hS; (try clear hQ); have hQ := St.facts hS; simp only [Facts, Res.fact, List.cons_append, List.nil_append, true_and, and_true] at hQ; rw [HN.out]) | (refine st_store (ty := 69) rfl rfl rfl rfl ?_; (repeat (apply Exists.intro)); refine ⟨?_, ?_, ?_, ?_, ?_, ?_⟩; (· exact zsts2); (· (try simp only [World.size_alloc, World.size_setCell, size_drew, size_drewN]); (exact zpk1)); (· rfl); (· exact size_nine); (· simp [Value.oneCell']); intro wN hS; (try clear hQ); have hQ := St.facts hS; simp only [Facts, Res.fact, List.cons_append, List.nil_append, true_and, and_true] at hQ) | (at_builtin; refine st_app rfl rfl rfl rfl ?_; (repeat (apply Exists.intro)); refine ⟨?_, ?_, ?_, ?_, ?_⟩; (· exact zsts2); (· exact zdst1); (· exact zsrc1); (· exact zlen1); intro vN wN hS; (try clear hQ); have hQ := St.facts hS; simp only [Facts, Res.fact, List.cons_append, List.nil_append, true_and, and_true] at hQ)
    go_ret; refine ⟨_, rfl, ?_⟩; rw [E0.out, EP.out]; (try rw [EQ.out]); (try rw [← List.append_assoc]); (try rw [← List.append_assoc]); (try rw [← List.append_assoc]); exact hS.sel (by exact zsub1)
set_option maxRecDepth 100000 in
set_option maxHeartbeats 25600000 in
theorem oneB4 (w : World) (o x y : Int) (u : Nat) (hk hn jk jn : Int) (n1 n2 : Bool) (ts : List ValT) (ls : List Int) (bk vk : Int) (vn : Bool) (wk wn bn : Int) (cs : List CatchT) (tv lv cv : Value) (hR : InsR [] w (⟨o, x, y, u, ⟨hk, hn⟩, ⟨jk, jn⟩, n1, n2, ts, ls, ⟨bk, ⟨vk, vn, ⟨wk, wn⟩⟩, bn⟩, cs⟩ : InstrT) tv lv cv)
    (hm : mayI (⟨o, x, y, u, ⟨hk, hn⟩, ⟨jk, jn⟩, n1, n2, ts, ls, ⟨bk, ⟨vk, vn, ⟨wk, wn⟩⟩, bn⟩, cs⟩ : InstrT) = true) (hs : SmI (⟨o, x, y, u, ⟨hk, hn⟩, ⟨jk, jn⟩, n1, n2, ts, ls, ⟨bk, ⟨vk, vn, ⟨wk, wn⟩⟩, bn⟩, cs⟩ : InstrT)) (h : shapeP o = 4) :
    Calls Tryz.prog 22 #[.agg (insC (⟨o, x, y, u, ⟨hk, hn⟩, ⟨jk, jn⟩, n1, n2, ts, ls, ⟨bk, ⟨vk, vn, ⟨wk, wn⟩⟩, bn⟩, cs⟩ : InstrT) tv lv cv).toArray] w fun e w' => ∃ v', e = .returned v' ∧ St [] w w' [.own 5 1 (v') (pInstr (⟨o, x, y, u, ⟨hk, hn⟩, ⟨jk, jn⟩, n1, n2, ts, ls, ⟨bk, ⟨vk, vn, ⟨wk, wn⟩⟩, bn⟩, cs⟩ : InstrT)).length ((pInstr (⟨o, x, y, u, ⟨hk, hn⟩, ⟨jk, jn⟩, n1, n2, ts, ls, ⟨bk, ⟨vk, vn, ⟨wk, wn⟩⟩, bn⟩, cs⟩ : InstrT)).map B)] := by
  have hb := shape_ok (mayI_shape hm)
  dsimp only at hb
  have ho0 := hb.1
  have ho1 : o < 251 ∨ o / 256 = 251 ∨ o / 256 = 252 := hb.2.1
  clear hb
  obtain ⟨tS, lS, cS⟩ := hR
  obtain ⟨ta, tc, rfl⟩ := tS.shape
  obtain ⟨la, lc, rfl⟩ := lS.shape
  obtain ⟨ca, cc, rfl⟩ := cS.shape
  dsimp only at tS lS cS
  obtain ⟨h1, h2, h3, h4⟩ := hs
  dsimp only at h1 h2 h3 h4
  have HM := Lib.hid hm
  clear hm
  have e0 : pInstr (⟨o, x, y, u, ⟨hk, hn⟩, ⟨jk, jn⟩, n1, n2, ts, ls, ⟨bk, ⟨vk, vn, ⟨wk, wn⟩⟩, bn⟩, cs⟩ : InstrT) = pOp o ++ pRest (⟨o, x, y, u, ⟨hk, hn⟩, ⟨jk, jn⟩, n1, n2, ts, ls, ⟨bk, ⟨vk, vn, ⟨wk, wn⟩⟩, bn⟩, cs⟩ : InstrT) := rfl
  have E0 := Lib.hid e0
  clear e0
  generalize pInstr (⟨o, x, y, u, ⟨hk, hn⟩, ⟨jk, jn⟩, n1, n2, ts, ls, ⟨bk, ⟨vk, vn, ⟨wk, wn⟩⟩, bn⟩, cs⟩ : InstrT) = Y at E0 ⊢
  have lP := pOp_len ho0
  have hS := (St.start [] w).alloc [.int .i64 o, .int .i64 x, .int .i64 y, .int .u64 (u : Int), .int .i64 hk, .int .i64 hn, .int .i64 jk, .int .i64 jn, .bool n1, .bool n2, .slice ta ts.length tc, .slice la ls.length lc, .int .i64 bk, .int .i64 vk, .bool vn, .int .i64 wk, .int .i64 wn, .int .i64 bn, .slice ca cs.length cc] 44
  unfold insC
  dsimp only
  go_enter Tryz.func22, Tryz.ntmps22
  go_upto_if 18 with fail
  have hS := hS.alloc [.int .u8 (o % 256)] 5
  go_cut [3] (fun s wx => St [] w wx [.own 5 1 (s) (pOp o).length ((pOp o).map B), .loc w.heap.size [.int .i64 o, .int .i64 x, .int .i64 y, .int .u64 (u : Int), .int .i64 hk, .int .i64 hn, .int .i64 jk, .int .i64 jn, .bool n1, .bool n2, .slice ta ts.length tc, .slice la ls.length lc, .int .i64 bk, .int .i64 vk, .bool vn, .int .i64 wk, .int .i64 wn, .int .i64 bn, .slice ca cs.length cc] 44])
  case first =>
    (try clear hQ); have hQ := St.facts hS; simp only [Facts, Res.fact, List.cons_append, List.nil_append, true_and, and_true] at hQ
    by_cases h8 : o < 256
    · have i1 : ¬ ((255 : Int) < o) := by omega
      go_wp2_with fail
      go_meet
      have hS := hS.dst (.lit .here (by omega))
      rw [show pOp o = [UInt8.ofNat (o % 256).toNat] by unfold pOp; rw [if_pos h8, show o % 256 = o by omega]]
      exact hS.sel (by exact zsub1)
    · have i1 : (255 : Int) < o := by omega
      have i2 : 0 ≤ o / 256 ∧ o / 256 < 256 := by omega
      have lX := pNum_len (o % 256) (by omega)
      have HT : Hid (o.tmod 256 = o % 256) := Lib.hid (Int.tmod_eq_emod_of_nonneg ho0)
      have hq : IntKind.u8.wrap (IntKind.i64.wrap (o.tdiv 256)) = o / 256 := by
        rw [Int.tdiv_eq_ediv_of_nonneg ho0, show IntKind.i64.wrap (o / 256) = o / 256 by rw [IntKind.wrap_i64]; omega]
        show (o / 256) % 256 = o / 256
        omega
      have i3 : 0 ≤ IntKind.u8.wrap (IntKind.i64.wrap (o.tdiv 256)) ∧ IntKind.u8.wrap (IntKind.i64.wrap (o.tdiv 256)) < 256 := by rw [hq]; omega
      have HP : Hid (pOp o = [UInt8.ofNat (IntKind.u8.wrap (IntKind.i64.wrap (o.tdiv 256))).toNat] ++ pNum (o % 256)) := Lib.hid (by unfold pOp; rw [if_neg h8, hq]; rfl)
      clear hq
      go_wp2_with fail
      go_region_held3 (fun w' => w'.cell? ⟨w.heap.size, 0, none⟩ = some (.int .i64 o)) (first | (go_keep; done) | (simp [hQ]; done)) (first | (refine step_st rfl rfl rfl rfl ?_; (repeat (apply Exists.intro)); refine ⟨?_, ?_, ?_, ?_, ?_⟩; (· exact zsts2); (· exact zdst1); (· exact zsrc1); (· exact zlen1); intro vN wN hS; (try clear hQ); have hQ := St.facts hS; simp only [Facts, Res.fact, List.cons_append, List.nil_append, true_and, and_true] at hQ) | (go_at_call 57; rw [HT.out]; (with_reducible refine (refU_any _ (o % 256) (by omega) (by omega)).mono ?_); rintro e w4 ⟨v4, rfl, s4⟩; refine st_go s4 ?_; (repeat (apply Exists.intro)); refine ⟨?_, ?_⟩; (· exact zsts2); (try simp only [World.size_alloc, World.size_setCell, size_drew, size_drewN]); intro hS; simp only [List.cons_append, List.nil_append] at hS; (try clear hQ); have hQ := St.facts hS; simp only [Facts, Res.fact, List.cons_append, List.nil_append, true_and, and_true] at hQ))
      all_goals
        go_wp2_with fail
        go_meet
        rw [HP.out]
        exact hS.sel (by exact zsub1)
  case rest =>
    clear hS
    have hS := hcut
    clear hcut
    (try clear hQ); have hQ := St.facts hS; simp only [Facts, Res.fact, List.cons_append, List.nil_append, true_and, and_true] at hQ
    have HK := Lib.hid h
    have HN : Hid (nineC 4 = [.bool true, .bool false, .bool false, .bool false, .bool false, .bool false, .bool false, .bool false, .bool false]) := Lib.hid rfl
    have EP : Hid (pRest (⟨o, x, y, u, ⟨hk, hn⟩, ⟨jk, jn⟩, n1, n2, ts, ls, ⟨bk, ⟨vk, vn, ⟨wk, wn⟩⟩, bn⟩, cs⟩ : InstrT) = pNum x) := Lib.hid (rest46 (.inl h))
    have hX := (idx_iff _).1 (inv46 (i := (⟨o, x, y, u, ⟨hk, hn⟩, ⟨jk, jn⟩, n1, n2, ts, ls, ⟨bk, ⟨vk, vn, ⟨wk, wn⟩⟩, bn⟩, cs⟩ : InstrT)) (.inl h) HM.out).1
    dsimp only at hX
    clear h HM
    have lX := pNum_len x (by omega)
    go_wp2_with first | (go_at_call 34; (with_reducible refine (refShape_any _ o).mono ?_); rintro e w1 ⟨rfl, hw1⟩; subst w1; (try rw [HK.out])) | (go_at_call 35; (with_reducible refine (refHas_any _ _ ?_ ?_).mono ?_); (· omega); (· omega); rintro e w2 ⟨rfl, hF2⟩; refine st_fr hF2 ?_; (repeat (apply Exists.intro)); refine ⟨?_, ?_⟩; (· exact zsts2); (try simp only [World.size_alloc, World.size_setCell, size_drew, size_drewN]); intro hS; (try clear hQ); have hQ := St.facts hS; simp only [Facts, Res.fact, List.cons_append, List.nil_append, true_and, and_true] at hQ; rw [HN.out]) | (refine st_store (ty := 69) rfl rfl rfl rfl ?_; (repeat (apply Exists.intro)); refine ⟨?_, ?_, ?_, ?_, ?_, ?_⟩; (· exact zsts2); (· (try simp only [World.size_alloc, World.size_setCell, size_drew, size_drewN]); (exact zpk1)); (· rfl); (· exact size_nine); (· simp [Value.oneCell']); intro wN hS; (try clear hQ); have hQ := St.facts hS; simp only [Facts, Res.fact, List.cons_append, List.nil_append, true_and, and_true] at hQ) | (at_builtin; refine st_app rfl rfl rfl rfl ?_; (repeat (apply Exists.intro)); refine ⟨?_, ?_, ?_, ?_, ?_⟩; (· exact zsts2); (· exact zdst1); (· exact zsrc1); (· exact zlen1); intro vN wN hS; (try clear hQ); have hQ := St.facts hS; simp only [Facts, Res.fact, List.cons_append, List.nil_append, true_and, and_true] at hQ) | (go_at_call 57; (with_reducible refine (refU_any _ _ ?_ ?_).mono ?_); (· omega); (· omega); rintro e w4 ⟨v4, rfl, s4⟩; refine st_go s4 ?_; (repeat (apply Exists.intro)); refine ⟨?_, ?_⟩; (· exact zsts2); (try simp only [World.size_alloc, World.size_setCell, size_drew, size_drewN]); intro hS; simp only [List.cons_append, List.nil_append] at hS; (try clear hQ); have hQ := St.facts hS; simp only [Facts, Res.fact, List.cons_append, List.nil_append, true_and, and_true] at hQ)
    go_ret; refine ⟨_, rfl, ?_⟩; rw [E0.out, EP.out]; (try rw [EQ.out]); (try rw [← List.append_assoc]); (try rw [← List.append_assoc]); (try rw [← List.append_assoc]); exact hS.sel (by exact zsub1)
set_option maxRecDepth 100000 in
set_option maxHeartbeats 25600000 in
theorem oneB6 (w : World) (o x y : Int) (u : Nat) (hk hn jk jn : Int) (n1 n2 : Bool) (ts : List ValT) (ls : List Int) (bk vk : Int) (vn : Bool) (wk wn bn : Int) (cs : List CatchT) (tv lv cv : Value) (hR : InsR [] w (⟨o, x, y, u, ⟨hk, hn⟩, ⟨jk, jn⟩, n1, n2, ts, ls, ⟨bk, ⟨vk, vn, ⟨wk, wn⟩⟩, bn⟩, cs⟩ : InstrT) tv lv cv)
    (hm : mayI (⟨o, x, y, u, ⟨hk, hn⟩, ⟨jk, jn⟩, n1, n2, ts, ls, ⟨bk, ⟨vk, vn, ⟨wk, wn⟩⟩, bn⟩, cs⟩ : InstrT) = true) (hs : SmI (⟨o, x, y, u, ⟨hk, hn⟩, ⟨jk, jn⟩, n1, n2, ts, ls, ⟨bk, ⟨vk, vn, ⟨wk, wn⟩⟩, bn⟩, cs⟩ : InstrT)) (h : shapeP o = 6) :
    Calls Tryz.prog 22 #[.agg (insC (⟨o, x, y, u, ⟨hk, hn⟩, ⟨jk, jn⟩, n1, n2, ts, ls, ⟨bk, ⟨vk, vn, ⟨wk, wn⟩⟩, bn⟩, cs⟩ : InstrT) tv lv cv).toArray] w fun e w' => ∃ v', e = .returned v' ∧ St [] w w' [.own 5 1 (v') (pInstr (⟨o, x, y, u, ⟨hk, hn⟩, ⟨jk, jn⟩, n1, n2, ts, ls, ⟨bk, ⟨vk, vn, ⟨wk, wn⟩⟩, bn⟩, cs⟩ : InstrT)).length ((pInstr (⟨o, x, y, u, ⟨hk, hn⟩, ⟨jk, jn⟩, n1, n2, ts, ls, ⟨bk, ⟨vk, vn, ⟨wk, wn⟩⟩, bn⟩, cs⟩ : InstrT)).map B)] := by
  have hb := shape_ok (mayI_shape hm)
  dsimp only at hb
  have ho0 := hb.1
  have ho1 : o < 251 ∨ o / 256 = 251 ∨ o / 256 = 252 := hb.2.1
  clear hb
  obtain ⟨tS, lS, cS⟩ := hR
  obtain ⟨ta, tc, rfl⟩ := tS.shape
  obtain ⟨la, lc, rfl⟩ := lS.shape
  obtain ⟨ca, cc, rfl⟩ := cS.shape
  dsimp only at tS lS cS
  obtain ⟨h1, h2, h3, h4⟩ := hs
  dsimp only at h1 h2 h3 h4
  have HM := Lib.hid hm
  clear hm
  have e0 : pInstr (⟨o, x, y, u, ⟨hk, hn⟩, ⟨jk, jn⟩, n1, n2, ts, ls, ⟨bk, ⟨vk, vn, ⟨wk, wn⟩⟩, bn⟩, cs⟩ : InstrT) = pOp o ++ pRest (⟨o, x, y, u, ⟨hk, hn⟩, ⟨jk, jn⟩, n1, n2, ts, ls, ⟨bk, ⟨vk, vn, ⟨wk, wn⟩⟩, bn⟩, cs⟩ : InstrT) := rfl
  have E0 := Lib.hid e0
  clear e0
  generalize pInstr (⟨o, x, y, u, ⟨hk, hn⟩, ⟨jk, jn⟩, n1, n2, ts, ls, ⟨bk, ⟨vk, vn, ⟨wk, wn⟩⟩, bn⟩, cs⟩ : InstrT) = Y at E0 ⊢
  have lP := pOp_len ho0
  have hS := (St.start [] w).alloc [.int .i64 o, .int .i64 x, .int .i64 y, .int .u64 (u : Int), .int .i64 hk, .int .i64 hn, .int .i64 jk, .int .i64 jn, .bool n1, .bool n2, .slice ta ts.length tc, .slice la ls.length lc, .int .i64 bk, .int .i64 vk, .bool vn, .int .i64 wk, .int .i64 wn, .int .i64 bn, .slice ca cs.length cc] 44
  unfold insC
  dsimp only
  go_enter Tryz.func22, Tryz.ntmps22
  go_upto_if 18 with fail
  have hS := hS.alloc [.int .u8 (o % 256)] 5
  go_cut [3] (fun s wx => St [] w wx [.own 5 1 (s) (pOp o).length ((pOp o).map B), .loc w.heap.size [.int .i64 o, .int .i64 x, .int .i64 y, .int .u64 (u : Int), .int .i64 hk, .int .i64 hn, .int .i64 jk, .int .i64 jn, .bool n1, .bool n2, .slice ta ts.length tc, .slice la ls.length lc, .int .i64 bk, .int .i64 vk, .bool vn, .int .i64 wk, .int .i64 wn, .int .i64 bn, .slice ca cs.length cc] 44])
  case first =>
    (try clear hQ); have hQ := St.facts hS; simp only [Facts, Res.fact, List.cons_append, List.nil_append, true_and, and_true] at hQ
    by_cases h8 : o < 256
    · have i1 : ¬ ((255 : Int) < o) := by omega
      go_wp2_with fail
      go_meet
      have hS := hS.dst (.lit .here (by omega))
      rw [show pOp o = [UInt8.ofNat (o % 256).toNat] by unfold pOp; rw [if_pos h8, show o % 256 = o by omega]]
      exact hS.sel (by exact zsub1)
    · have i1 : (255 : Int) < o := by omega
      have i2 : 0 ≤ o / 256 ∧ o / 256 < 256 := by omega
      have lX := pNum_len (o % 256) (by omega)
      have HT : Hid (o.tmod 256 = o % 256) := Lib.hid (Int.tmod_eq_emod_of_nonneg ho0)
      have hq : IntKind.u8.wrap (IntKind.i64.wrap (o.tdiv 256)) = o / 256 := by
        rw [Int.tdiv_eq_ediv_of_nonneg ho0, show IntKind.i64.wrap (o / 256) = o / 256 by rw [IntKind.wrap_i64]; omega]
        show (o / 256) % 256 = o / 256
        omega
      have i3 : 0 ≤ IntKind.u8.wrap (IntKind.i64.wrap (o.tdiv 256)) ∧ IntKind.u8.wrap (IntKind.i64.wrap (o.tdiv 256)) < 256 := by rw [hq]; omega
      have HP : Hid (pOp o = [UInt8.ofNat (IntKind.u8.wrap (IntKind.i64.wrap (o.tdiv 256))).toNat] ++ pNum (o % 256)) := Lib.hid (by unfold pOp; rw [if_neg h8, hq]; rfl)
      clear hq
      go_wp2_with fail
      go_region_held3 (fun w' => w'.cell? ⟨w.heap.size, 0, none⟩ = some (.int .i64 o)) (first | (go_keep; done) | (simp [hQ]; done)) (first | (refine step_st rfl rfl rfl rfl ?_; (repeat (apply Exists.intro)); refine ⟨?_, ?_, ?_, ?_, ?_⟩; (· exact zsts2); (· exact zdst1); (· exact zsrc1); (· exact zlen1); intro vN wN hS; (try clear hQ); have hQ := St.facts hS; simp only [Facts, Res.fact, List.cons_append, List.nil_append, true_and, and_true] at hQ) | (go_at_call 57; rw [HT.out]; (with_reducible refine (refU_any _ (o % 256) (by omega) (by omega)).mono ?_); rintro e w4 ⟨v4, rfl, s4⟩; refine st_go s4 ?_; (repeat (apply Exists.intro)); refine ⟨?_, ?_⟩; (· exact zsts2); (try simp only [World.size_alloc, World.size_setCell, size_drew, size_drewN]); intro hS; simp only [List.cons_append, List.nil_append] at hS; (try clear hQ); have hQ := St.facts hS; simp only [Facts, Res.fact, List.cons_append, List.nil_append, true_and, and_true] at hQ))
      all_goals
        go_wp2_with fail
        go_meet
        rw [HP.out]
        exact hS.sel (by exact zsub1)
  case rest =>
    clear hS
    have hS := hcut
    clear hcut
    (try clear hQ); have hQ := St.facts hS; simp only [Facts, Res.fact, List.cons_append, List.nil_append, true_and, and_true] at hQ
    have HK := Lib.hid h
    have HN : Hid (nineC 6 = [.bool true, .bool false, .bool false, .bool false, .bool false, .bool false, .bool false, .bool false, .bool false]) := Lib.hid rfl
    have EP : Hid (pRest (⟨o, x, y, u, ⟨hk, hn⟩, ⟨jk, jn⟩, n1, n2, ts, ls, ⟨bk, ⟨vk, vn, ⟨wk, wn⟩⟩, bn⟩, cs⟩ : InstrT) = pNum x) := Lib.hid (rest46 (.inr h))
    have hX := (idx_iff _).1 (inv46 (i := (⟨o, x, y, u, ⟨hk, hn⟩, ⟨jk, jn⟩, n1, n2, ts, ls, ⟨bk, ⟨vk, vn, ⟨wk, wn⟩⟩, bn⟩, cs⟩ : InstrT)) (.inr h) HM.out).1
    dsimp only at hX
    clear h HM
    have lX := pNum_len x (by omega)
    go_wp2_with first | (go_at_call 34; (with_reducible refine (refShape_any _ o).mono ?_); rintro e w1 ⟨rfl, hw1⟩; subst w1; (try rw [HK.out])) | (go_at_call 35; (with_reducible refine (refHas_any _ _ ?_ ?_).mono ?_); (· omega); (· omega); rintro e w2 ⟨rfl, hF2⟩; refine st_fr hF2 ?_; (repeat (apply Exists.intro)); refine ⟨?_, ?_⟩; (· exact zsts2); (try simp only [World.size_alloc, World.size_setCell, size_drew, size_drewN]); intro hS; (try clear hQ); have hQ := St.facts hS; simp only [Facts, Res.fact, List.cons_append, List.nil_append, true_and, and_true] at hQ; rw [HN.out]) | (refine st_store (ty := 69) rfl rfl rfl rfl ?_; (repeat (apply Exists.intro)); refine ⟨?_, ?_, ?_, ?_, ?_, ?_⟩; (· exact zsts2); (· (try simp only [World.size_alloc, World.size_setCell, size_drew, size_drewN]); (exact zpk1)); (· rfl); (· exact size_nine); (· simp [Value.oneCell']); intro wN hS; (try clear hQ); have hQ := St.facts hS; simp only [Facts, Res.fact, List.cons_append, List.nil_append, true_and, and_true] at hQ) | (at_builtin; refine st_app rfl rfl rfl rfl ?_; (repeat (apply Exists.intro)); refine ⟨?_, ?_, ?_, ?_, ?_⟩; (· exact zsts2); (· exact zdst1); (· exact zsrc1); (· exact zlen1); intro vN wN hS; (try clear hQ); have hQ := St.facts hS; simp only [Facts, Res.fact, List.cons_append, List.nil_append, true_and, and_true] at hQ) | (go_at_call 57; (with_reducible refine (refU_any _ _ ?_ ?_).mono ?_); (· omega); (· omega); rintro e w4 ⟨v4, rfl, s4⟩; refine st_go s4 ?_; (repeat (apply Exists.intro)); refine ⟨?_, ?_⟩; (· exact zsts2); (try simp only [World.size_alloc, World.size_setCell, size_drew, size_drewN]); intro hS; simp only [List.cons_append, List.nil_append] at hS; (try clear hQ); have hQ := St.facts hS; simp only [Facts, Res.fact, List.cons_append, List.nil_append, true_and, and_true] at hQ)
    go_ret; refine ⟨_, rfl, ?_⟩; rw [E0.out, EP.out]; (try rw [EQ.out]); (try rw [← List.append_assoc]); (try rw [← List.append_assoc]); (try rw [← List.append_assoc]); exact hS.sel (by exact zsub1)
set_option maxRecDepth 100000 in
set_option maxHeartbeats 25600000 in
theorem oneB7 (w : World) (o x y : Int) (u : Nat) (hk hn jk jn : Int) (n1 n2 : Bool) (ts : List ValT) (ls : List Int) (bk vk : Int) (vn : Bool) (wk wn bn : Int) (cs : List CatchT) (tv lv cv : Value) (hR : InsR [] w (⟨o, x, y, u, ⟨hk, hn⟩, ⟨jk, jn⟩, n1, n2, ts, ls, ⟨bk, ⟨vk, vn, ⟨wk, wn⟩⟩, bn⟩, cs⟩ : InstrT) tv lv cv)
    (hm : mayI (⟨o, x, y, u, ⟨hk, hn⟩, ⟨jk, jn⟩, n1, n2, ts, ls, ⟨bk, ⟨vk, vn, ⟨wk, wn⟩⟩, bn⟩, cs⟩ : InstrT) = true) (hs : SmI (⟨o, x, y, u, ⟨hk, hn⟩, ⟨jk, jn⟩, n1, n2, ts, ls, ⟨bk, ⟨vk, vn, ⟨wk, wn⟩⟩, bn⟩, cs⟩ : InstrT)) (h : shapeP o = 7) :
    Calls Tryz.prog 22 #[.agg (insC (⟨o, x, y, u, ⟨hk, hn⟩, ⟨jk, jn⟩, n1, n2, ts, ls, ⟨bk, ⟨vk, vn, ⟨wk, wn⟩⟩, bn⟩, cs⟩ : InstrT) tv lv cv).toArray] w fun e w' => ∃ v', e = .returned v' ∧ St [] w w' [.own 5 1 (v') (pInstr (⟨o, x, y, u, ⟨hk, hn⟩, ⟨jk, jn⟩, n1, n2, ts, ls, ⟨bk, ⟨vk, vn, ⟨wk, wn⟩⟩, bn⟩, cs⟩ : InstrT)).length ((pInstr (⟨o, x, y, u, ⟨hk, hn⟩, ⟨jk, jn⟩, n1, n2, ts, ls, ⟨bk, ⟨vk, vn, ⟨wk, wn⟩⟩, bn⟩, cs⟩ : InstrT)).map B)] := by
  have hb := shape_ok (mayI_shape hm)
  dsimp only at hb
  have ho0 := hb.1
  have ho1 : o < 251 ∨ o / 256 = 251 ∨ o / 256 = 252 := hb.2.1
  clear hb
  obtain ⟨tS, lS, cS⟩ := hR
  obtain ⟨ta, tc, rfl⟩ := tS.shape
  obtain ⟨la, lc, rfl⟩ := lS.shape
  obtain ⟨ca, cc, rfl⟩ := cS.shape
  dsimp only at tS lS cS
  obtain ⟨h1, h2, h3, h4⟩ := hs
  dsimp only at h1 h2 h3 h4
  have HM := Lib.hid hm
  clear hm
  have e0 : pInstr (⟨o, x, y, u, ⟨hk, hn⟩, ⟨jk, jn⟩, n1, n2, ts, ls, ⟨bk, ⟨vk, vn, ⟨wk, wn⟩⟩, bn⟩, cs⟩ : InstrT) = pOp o ++ pRest (⟨o, x, y, u, ⟨hk, hn⟩, ⟨jk, jn⟩, n1, n2, ts, ls, ⟨bk, ⟨vk, vn, ⟨wk, wn⟩⟩, bn⟩, cs⟩ : InstrT) := rfl
  have E0 := Lib.hid e0
  clear e0
  generalize pInstr (⟨o, x, y, u, ⟨hk, hn⟩, ⟨jk, jn⟩, n1, n2, ts, ls, ⟨bk, ⟨vk, vn, ⟨wk, wn⟩⟩, bn⟩, cs⟩ : InstrT) = Y at E0 ⊢
  have lP := pOp_len ho0
  have hS := (St.start [] w).alloc [.int .i64 o, .int .i64 x, .int .i64 y, .int .u64 (u : Int), .int .i64 hk, .int .i64 hn, .int .i64 jk, .int .i64 jn, .bool n1, .bool n2, .slice ta ts.length tc, .slice la ls.length lc, .int .i64 bk, .int .i64 vk, .bool vn, .int .i64 wk, .int .i64 wn, .int .i64 bn, .slice ca cs.length cc] 44
  unfold insC
  dsimp only
  go_enter Tryz.func22, Tryz.ntmps22
  go_upto_if 18 with fail
  have hS := hS.alloc [.int .u8 (o % 256)] 5
  go_cut [3] (fun s wx => St [] w wx [.own 5 1 (s) (pOp o).length ((pOp o).map B), .loc w.heap.size [.int .i64 o, .int .i64 x, .int .i64 y, .int .u64 (u : Int), .int .i64 hk, .int .i64 hn, .int .i64 jk, .int .i64 jn, .bool n1, .bool n2, .slice ta ts.length tc, .slice la ls.length lc, .int .i64 bk, .int .i64 vk, .bool vn, .int .i64 wk, .int .i64 wn, .int .i64 bn, .slice ca cs.length cc] 44])
  case first =>
    (try clear hQ); have hQ := St.facts hS; simp only [Facts, Res.fact, List.cons_append, List.nil_append, true_and, and_true] at hQ
    by_cases h8 : o < 256
    · have i1 : ¬ ((255 : Int) < o) := by omega
      go_wp2_with fail
      go_meet
      have hS := hS.dst (.lit .here (by omega))
      rw [show pOp o = [UInt8.ofNat (o % 256).toNat] by unfold pOp; rw [if_pos h8, show o % 256 = o by omega]]
      exact hS.sel (by exact zsub1)
    · have i1 : (255 : Int) < o := by omega
      have i2 : 0 ≤ o / 256 ∧ o / 256 < 256 := by omega
      have lX := pNum_len (o % 256) (by omega)
      have HT : Hid (o.tmod 256 = o % 256) := Lib.hid (Int.tmod_eq_emod_of_nonneg ho0)
      have hq : IntKind.u8.wrap (IntKind.i64.wrap (o.tdiv 256)) = o / 256 := by
        rw [Int.tdiv_eq_ediv_of_nonneg ho0, show IntKind.i64.wrap (o / 256) = o / 256 by rw [IntKind.wrap_i64]; omega]
        show (o / 256) % 256 = o / 256
        omega
      have i3 : 0 ≤ IntKind.u8.wrap (IntKind.i64.wrap (o.tdiv 256)) ∧ IntKind.u8.wrap (IntKind.i64.wrap (o.tdiv 256)) < 256 := by rw [hq]; omega
      have HP : Hid (pOp o = [UInt8.ofNat (IntKind.u8.wrap (IntKind.i64.wrap (o.tdiv 256))).toNat] ++ pNum (o % 256)) := Lib.hid (by unfold pOp; rw [if_neg h8, hq]; rfl)
      clear hq
      go_wp2_with fail
      go_region_held3 (fun w' => w'.cell? ⟨w.heap.size, 0, none⟩ = some (.int .i64 o)) (first | (go_keep; done) | (simp [hQ]; done)) (first | (refine step_st rfl rfl rfl rfl ?_; (repeat (apply Exists.intro)); refine ⟨?_, ?_, ?_, ?_, ?_⟩; (· exact zsts2); (· exact zdst1); (· exact zsrc1); (· exact zlen1); intro vN wN hS; (try clear hQ); have hQ := St.facts hS; simp only [Facts, Res.fact, List.cons_append, List.nil_append, true_and, and_true] at hQ) | (go_at_call 57; rw [HT.out]; (with_reducible refine (refU_any _ (o % 256) (by omega) (by omega)).mono ?_); rintro e w4 ⟨v4, rfl, s4⟩; refine st_go s4 ?_; (repeat (apply Exists.intro)); refine ⟨?_, ?_⟩; (· exact zsts2); (try simp only [World.size_alloc, World.size_setCell, size_drew, size_drewN]); intro hS; simp only [List.cons_append, List.nil_append] at hS; (try clear hQ); have hQ := St.facts hS; simp only [Facts, Res.fact, List.cons_append, List.nil_append, true_and, and_true] at hQ))
      all_goals
        go_wp2_with fail
        go_meet
        rw [HP.out]
        exact hS.sel (by exact zsub1)
  case rest =>
    clear hS
    have hS := hcut
    clear hcut
    (try clear hQ); have hQ := St.facts hS; simp only [Facts, Res.fact, List.cons_append, List.nil_append, true_and, and_true] at hQ
    have HK := Lib.hid h
    have HN : Hid (nineC 7 = [.bool true, .bool true, .bool false, .bool false, .bool false, .bool false, .bool false, .bool false, .bool false]) := Lib.hid rfl
    have EP : Hid (pRest (⟨o, x, y, u, ⟨hk, hn⟩, ⟨jk, jn⟩, n1, n2, ts, ls, ⟨bk, ⟨vk, vn, ⟨wk, wn⟩⟩, bn⟩, cs⟩ : InstrT) = pNum x ++ pNum y) := Lib.hid (rest7 h)
    have hp := may_inv HM.out (part7 (i := (⟨o, x, y, u, ⟨hk, hn⟩, ⟨jk, jn⟩, n1, n2, ts, ls, ⟨bk, ⟨vk, vn, ⟨wk, wn⟩⟩, bn⟩, cs⟩ : InstrT)) h)
    have hp1 := hp.1
    simp only [Bool.and_eq_true, idx_iff] at hp1
    clear hp
    clear h HM
    have lX := pNum_len x (by omega)
    have lY := pNum_len y (by omega)
    go_wp2_with first | (go_at_call 34; (with_reducible refine (refShape_any _ o).mono ?_); rintro e w1 ⟨rfl, hw1⟩; subst w1; (try rw [HK.out])) | (go_at_call 35; (with_reducible refine (refHas_any _ _ ?_ ?_).mono ?_); (· omega); (· omega); rintro e w2 ⟨rfl, hF2⟩; refine st_fr hF2 ?_; (repeat (apply Exists.intro)); refine ⟨?_, ?_⟩; (· exact zsts2); (try simp only [World.size_alloc, World.size_setCell, size_drew, size_drewN]); intro hS; (try clear hQ); have hQ := St.facts hS; simp only [Facts, Res.fact, List.cons_append, List.nil_append, true_and, and_true] at hQ; rw [HN.out]) | (refine st_store (ty := 69) rfl rfl rfl rfl ?_; (repeat (apply Exists.intro)); refine ⟨?_, ?_, ?_, ?_, ?_, ?_⟩; (· exact zsts2); (· (try simp only [World.size_alloc, World.size_setCell, size_drew, size_drewN]); (exact zpk1)); (· rfl); (· exact size_nine); (· simp [Value.oneCell']); intro wN hS; (try clear hQ); have hQ := St.facts hS; simp only [Facts, Res.fact, List.cons_append, List.nil_append, true_and, and_true] at hQ) | (at_builtin; refine st_app rfl rfl rfl rfl ?_; (repeat (apply Exists.intro)); refine ⟨?_, ?_, ?_, ?_, ?_⟩; (· exact zsts2); (· exact zdst1); (· exact zsrc1); (· exact zlen1); intro vN wN hS; (try clear hQ); have hQ := St.facts hS; simp only [Facts, Res.fact, List.cons_append, List.nil_append, true_and, and_true] at hQ) | (go_at_call 57; (with_reducible refine (refU_any _ _ ?_ ?_).mono ?_); (· omega); (· omega); rintro e w4 ⟨v4, rfl, s4⟩; refine st_go s4 ?_; (repeat (apply Exists.intro)); refine ⟨?_, ?_⟩; (· exact zsts2); (try simp only [World.size_alloc, World.size_setCell, size_drew, size_drewN]); intro hS; simp only [List.cons_append, List.nil_append] at hS; (try clear hQ); have hQ := St.facts hS; simp only [Facts, Res.fact, List.cons_append, List.nil_append, true_and, and_true] at hQ)
    go_ret; refine ⟨_, rfl, ?_⟩; rw [E0.out, EP.out]; (try rw [EQ.out]); (try rw [← List.append_assoc]); (try rw [← List.append_assoc]); (try rw [← List.append_assoc]); exact hS.sel (by exact zsub1)
end Go.Proofs.YtokneepfknepaaaGreatDoor
