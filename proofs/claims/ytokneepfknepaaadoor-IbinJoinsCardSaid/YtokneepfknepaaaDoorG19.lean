/- Bytes of the call's own as a string. The law IbinJoins, walked. -/
import Derived.Test.YtokneepfknepaaaDoorG6
import Derived.Laws.IdiomStrings
import Derived.Test.YtokneepfknepaaaDoorG11
set_option linter.unusedSimpArgs false
set_option linter.unusedVariables false
namespace Go.Proofs.YtokneepfknepaaaDoor
open Go.RowKit
theorem und_string : Tryd.prog.underlying 9 = some .string := by kernel_rfl
theorem und_byte : Tryd.prog.underlying 5 = some (.int .u8) := by kernel_rfl
/-- Bytes as a string. -/
theorem Out.conv {w : World} {v : Value} {X : List UInt8} (h : Out w v X) : (convert 26 9 v).run Tryd.prog w = .ok (.string ⟨X.toArray⟩) w := by
  obtain ⟨h1, h2, h3⟩ := h
  rcases h3 with ⟨rfl, h0⟩ | ⟨g, cap, cur, rfl, hg, hh, h4, h5, h6, h7⟩
  · have : X = [] := List.length_eq_zero_iff.1 h0
    subst this
    rw [run_convert_bytes_string w _ _ _ _ _ _ und_bytes und_byte und_string]
    rfl
  · refine run_convert_bytes_back w _ _ _ ⟨g, 0, none⟩ cap X und_bytes und_byte und_string (fun j hj => ?_)
    have hadd : (⟨g, 0, none⟩ : Addr).add j = ⟨g, j, none⟩ := by unfold Addr.add; split <;> simp_all
    rw [hadd, cell_of_row w g j cur _ (0, 0) hh]
    have h8 := congrArg (fun l => l[j]?) h7
    simp only [List.getElem?_take, List.getElem?_map] at h8
    rw [if_pos (by omega)] at h8
    simp only [Array.getElem?_toList] at h8
    rw [h8, List.getElem?_eq_getElem hj]
    rfl
theorem St.conv {S : List Nat} {w0 w : World} {G G' : List Res} {v : Value} {X : List UInt8} (h : St S w0 w G) (p : Pick G (.own 5 1 (v) (X).length ((X).map B)) G') : (convert 26 9 v).run Tryd.prog w = .ok (.string ⟨X.toArray⟩) w :=
  Out.conv (h.outOf p)
theorem Out.take {w : World} {a : Option Addr} {n c : Nat} {X : List UInt8} (h : Out w (.slice a n c) X) (m : Nat) (hm : m ≤ n) : Out w (.slice a m c) (X.take m) := by
  have h1 : Own [] w 5 1 (.slice a n c) X.length (X.map B) := h
  obtain ⟨_, _, e, _, _⟩ := h1.shape
  injection e with _ e2 _
  subst e2
  have h2 := h1.take hm
  have e3 : (X.take m).length = m := by rw [List.length_take]; omega
  have e4 : (X.map B).take (m * 1) = (X.take m).map B := by rw [Nat.mul_one, List.map_take]
  rw [e4] at h2
  show Own [] w 5 1 (.slice a m c) (X.take m).length ((X.take m).map B)
  rw [e3]
  exact h2
/-- Strings, one behind the other. -/
theorem str_app (a b : List UInt8) : (⟨a.toArray⟩ : ByteArray) ++ (⟨b.toArray⟩ : ByteArray) = ⟨(a ++ b).toArray⟩ := by
  apply ByteArray.ext
  rw [ByteArray.data_append]
  simp
end Go.Proofs.YtokneepfknepaaaDoor

set_option linter.unusedSimpArgs false
set_option linter.unusedVariables false
namespace Go.Proofs.YtokneepfknepaaaDoor
open Go.RowKit
set_option maxRecDepth 100000 in
set_option maxHeartbeats 1600000 in
theorem ibinJoins_any (hM : MayOk) {w : World} (hg : Gl7 [] w) (lv : Value) (is : List InstrT) (ds : List Value) (h : Sl [] w 19 lv is.length ds) (hs : InssR [] w is ds) (hop : ∀ i, i ∈ is → -9223372036854775808 ≤ i.op ∧ i.op < 9223372036854775808) (hu : ∀ i, i ∈ is → i.u < 18446744073709551616)
    (mv : Value) (ms : List InstrT) (es : List Value) (h2 : Sl [] w 19 mv ms.length es) (hs2 : InssR [] w ms es) (hop2 : ∀ i, i ∈ ms → -9223372036854775808 ≤ i.op ∧ i.op < 9223372036854775808) (hu2 : ∀ i, i ∈ ms → i.u < 18446744073709551616) :
    Calls Tryd.prog 7 #[lv, mv] w fun e w' => e = .returned (.bool true) ∧ Fr [] w w' := by
  obtain ⟨la, lc, rfl⟩ := h.shape
  obtain ⟨ma, mc, rfl⟩ := h2.shape
  cases hg1 : greatL is with
  | true =>
    have Hg1 := Lib.hid hg1
    clear hg1
    go_enter Tryd.func7, Tryd.ntmps7
    go_wp2_with first | (go_at_call 38; refine (known7 hM hg).mono ?_; rintro e w1 ⟨rfl, hF1⟩) | (go_at_call 39; refine (great7 _ _ is ds (h.fr hF1 (by simp)) (InssR.fr hF1 (by simp) hs)).mono ?_; rintro e w2 ⟨rfl, hF2⟩; rw [Hg1.out]; have f2 := hF1.trans hF2)
    go_ret
    exact ⟨rfl, f2⟩
  | false =>
    have Hg1 := Lib.hid hg1
    obtain ⟨hsm1, hS41⟩ := great_sm hg1 hu
    have h120 := (great_no hg1).1
    have hwf1 : ∀ i, i ∈ is → WfI i := fun i hi => by
      have h1 := (great_no hg1).2 i hi
      exact ⟨(hop i hi).1, (hop i hi).2, by omega, by omega, by omega⟩
    have hl1 : is.length ≤ 65536 := by omega
    clear hg1
    cases hg2 : greatL ms with
    | true =>
      have Hg2 := Lib.hid hg2
      clear hg2
      go_enter Tryd.func7, Tryd.ntmps7
      go_wp2_with first | (go_at_call 38; refine (known7 hM hg).mono ?_; rintro e w1 ⟨rfl, hF1⟩) | (go_at_call 39; refine (great7 _ _ ms es (h2.fr f2 (by simp)) (InssR.fr f2 (by simp) hs2)).mono ?_; rintro e w3 ⟨rfl, hF3⟩; rw [Hg2.out]; have f3 := f2.trans hF3) | (go_at_call 39; refine (great7 _ _ is ds (h.fr hF1 (by simp)) (InssR.fr hF1 (by simp) hs)).mono ?_; rintro e w2 ⟨rfl, hF2⟩; rw [Hg1.out]; have f2 := hF1.trans hF2)
      go_ret
      exact ⟨rfl, f3⟩
    | false =>
      have Hg2 := Lib.hid hg2
      obtain ⟨hsm2, hS42⟩ := great_sm hg2 hu2
      have h121 := (great_no hg2).1
      have hwf2 : ∀ i, i ∈ ms → WfI i := fun i hi => by
        have h1 := (great_no hg2).2 i hi
        exact ⟨(hop2 i hi).1, (hop2 i hi).2, by omega, by omega, by omega⟩
      have hl2 : ms.length ≤ 65536 := by omega
      clear hg2
      by_cases c1 : 60 < is.length
      · have i1 : (60 : Int) < (is.length : Int) := by omega
        go_enter Tryd.func7, Tryd.ntmps7
        go_wp2_with first | (go_at_call 38; refine (known7 hM hg).mono ?_; rintro e w1 ⟨rfl, hF1⟩) | (go_at_call 39; refine (great7 _ _ ms es (h2.fr f2 (by simp)) (InssR.fr f2 (by simp) hs2)).mono ?_; rintro e w3 ⟨rfl, hF3⟩; rw [Hg2.out]; have f3 := f2.trans hF3) | (go_at_call 39; refine (great7 _ _ is ds (h.fr hF1 (by simp)) (InssR.fr hF1 (by simp) hs)).mono ?_; rintro e w2 ⟨rfl, hF2⟩; rw [Hg1.out]; have f2 := hF1.trans hF2)
        go_ret
        exact ⟨rfl, f3⟩
      have i1 : ¬ (60 : Int) < (is.length : Int) := by omega
      by_cases c2 : 60 < ms.length
      · have i2 : (60 : Int) < (ms.length : Int) := by omega
        go_enter Tryd.func7, Tryd.ntmps7
        go_wp2_with first | (go_at_call 38; refine (known7 hM hg).mono ?_; rintro e w1 ⟨rfl, hF1⟩) | (go_at_call 39; refine (great7 _ _ ms es (h2.fr f2 (by simp)) (InssR.fr f2 (by simp) hs2)).mono ?_; rintro e w3 ⟨rfl, hF3⟩; rw [Hg2.out]; have f3 := f2.trans hF3) | (go_at_call 39; refine (great7 _ _ is ds (h.fr hF1 (by simp)) (InssR.fr hF1 (by simp) hs)).mono ?_; rintro e w2 ⟨rfl, hF2⟩; rw [Hg1.out]; have f2 := hF1.trans hF2)
        go_ret
        exact ⟨rfl, f3⟩
      have i2 : ¬ (60 : Int) < (ms.length : Int) := by omega
      have hp1 := pExpr_len is hsm1
      have hp2 := pExpr_len ms hsm2
      by_cases hP0 : (pExpr is).length = 0
      · have q1 : ((((pExpr is).length : Nat) : Int) == 0) = true := by simp; exact List.length_eq_zero_iff.1 (by omega)
        go_enter Tryd.func7, Tryd.ntmps7
        go_wp2_with first | (go_at_call 38; refine (known7 hM hg).mono ?_; rintro e w1 ⟨rfl, hF1⟩) | (go_at_call 39; refine (great7 _ _ ms es (h2.fr f2 (by simp)) (InssR.fr f2 (by simp) hs2)).mono ?_; rintro e w3 ⟨rfl, hF3⟩; rw [Hg2.out]; have f3 := f2.trans hF3) | (go_at_call 39; refine (great7 _ _ is ds (h.fr hF1 (by simp)) (InssR.fr hF1 (by simp) hs)).mono ?_; rintro e w2 ⟨rfl, hF2⟩; rw [Hg1.out]; have f2 := hF1.trans hF2) | (go_at_call 40; refine (Put_any hM (hg.fr f4 (by simp)) _ ms es (h2.fr f4 (by simp)) (InssR.fr f4 (by simp) hs2) hl2 hwf2 hsm2).mono ?_; rintro e w5 ⟨v5, rfl, s5⟩; have f5 := f4.trans s5.fr; have ho5 : Own [] _ _ _ _ _ _ := s5.head; obtain ⟨vb, vd, rfl, _, _⟩ := Own.shape ho5; have hS := hS4.call s5 (by simp)) | (go_at_call 40; refine (Put_any hM (hg.fr f3 (by simp)) _ is ds (h.fr f3 (by simp)) (InssR.fr f3 (by simp) hs) hl1 hwf1 hsm1).mono ?_; rintro e w4 ⟨v4, rfl, s4⟩; have f4 := f3.trans s4.fr; have ho4 : Own [] _ _ _ _ _ _ := s4.head; obtain ⟨va, vc, rfl, _, _⟩ := Own.shape ho4; have hS4 := ((St.start [] w).step0 f3).call s4 (by simp))
        go_ret
        exact ⟨rfl, f5⟩
      have hP : 0 < (pExpr is).length := by omega
      have q1 : ((((pExpr is).length : Nat) : Int) == 0) = false := by rw [beq_eq_false_iff_ne]; omega
      clear hP0
      by_cases hQ0 : (pExpr ms).length = 0
      · have q2 : ((((pExpr ms).length : Nat) : Int) == 0) = true := by simp; exact List.length_eq_zero_iff.1 (by omega)
        go_enter Tryd.func7, Tryd.ntmps7
        go_wp2_with first | (go_at_call 38; refine (known7 hM hg).mono ?_; rintro e w1 ⟨rfl, hF1⟩) | (go_at_call 39; refine (great7 _ _ ms es (h2.fr f2 (by simp)) (InssR.fr f2 (by simp) hs2)).mono ?_; rintro e w3 ⟨rfl, hF3⟩; rw [Hg2.out]; have f3 := f2.trans hF3) | (go_at_call 39; refine (great7 _ _ is ds (h.fr hF1 (by simp)) (InssR.fr hF1 (by simp) hs)).mono ?_; rintro e w2 ⟨rfl, hF2⟩; rw [Hg1.out]; have f2 := hF1.trans hF2) | (go_at_call 40; refine (Put_any hM (hg.fr f4 (by simp)) _ ms es (h2.fr f4 (by simp)) (InssR.fr f4 (by simp) hs2) hl2 hwf2 hsm2).mono ?_; rintro e w5 ⟨v5, rfl, s5⟩; have f5 := f4.trans s5.fr; have ho5 : Own [] _ _ _ _ _ _ := s5.head; obtain ⟨vb, vd, rfl, _, _⟩ := Own.shape ho5; have hS := hS4.call s5 (by simp)) | (go_at_call 40; refine (Put_any hM (hg.fr f3 (by simp)) _ is ds (h.fr f3 (by simp)) (InssR.fr f3 (by simp) hs) hl1 hwf1 hsm1).mono ?_; rintro e w4 ⟨v4, rfl, s4⟩; have f4 := f3.trans s4.fr; have ho4 : Own [] _ _ _ _ _ _ := s4.head; obtain ⟨va, vc, rfl, _, _⟩ := Own.shape ho4; have hS4 := ((St.start [] w).step0 f3).call s4 (by simp))
        go_ret
        exact ⟨rfl, f5⟩
      have hQ1 : 0 < (pExpr ms).length := by omega
      clear hQ0
      have q2 : ((((pExpr ms).length : Nat) : Int) == 0) = false := by rw [beq_eq_false_iff_ne]; omega
      have hB1 := Lib.hid (pExpr_both hP hQ1)
      have hB2 := Lib.hid (pExpr_in hP)
      have hB3 := Lib.hid (not_in hP)
      have hO2 : ∀ v ∈ insC (InstrT.of 2) (.slice none 0 0) (.slice none 0 0) (.slice none 0 0), v.oneCell' = true := by simp [insC, Value.oneCell']
      have hOb : ∀ v ∈ insC (InstrT.of 11) (.slice none 0 0) (.slice none 0 0) (.slice none 0 0), v.oneCell' = true := by simp [insC, Value.oneCell']
      go_enter Tryd.func7, Tryd.ntmps7
      go_upto_region 10 with first | (go_at_call 38; refine (known7 hM hg).mono ?_; rintro e w1 ⟨rfl, hF1⟩) | (go_at_call 39; refine (great7 _ _ ms es (h2.fr f2 (by simp)) (InssR.fr f2 (by simp) hs2)).mono ?_; rintro e w3 ⟨rfl, hF3⟩; rw [Hg2.out]; have f3 := f2.trans hF3) | (go_at_call 39; refine (great7 _ _ is ds (h.fr hF1 (by simp)) (InssR.fr hF1 (by simp) hs)).mono ?_; rintro e w2 ⟨rfl, hF2⟩; rw [Hg1.out]; have f2 := hF1.trans hF2) | (go_at_call 40; refine (Put_any hM (hg.fr f4 (by simp)) _ ms es (h2.fr f4 (by simp)) (InssR.fr f4 (by simp) hs2) hl2 hwf2 hsm2).mono ?_; rintro e w5 ⟨v5, rfl, s5⟩; have f5 := f4.trans s5.fr; have ho5 : Own [] _ _ _ _ _ _ := s5.head; obtain ⟨vb, vd, rfl, _, _⟩ := Own.shape ho5; have hS := hS4.call s5 (by simp)) | (go_at_call 40; refine (Put_any hM (hg.fr f3 (by simp)) _ is ds (h.fr f3 (by simp)) (InssR.fr f3 (by simp) hs) hl1 hwf1 hsm1).mono ?_; rintro e w4 ⟨v4, rfl, s4⟩; have f4 := f3.trans s4.fr; have ho4 : Own [] _ _ _ _ _ _ := s4.head; obtain ⟨va, vc, rfl, _, _⟩ := Own.shape ho4; have hS4 := ((St.start [] w).step0 f3).call s4 (by simp)) | (refine wpList_oneI rfl rfl rfl ?_) | (at_builtin; refine app_insO rfl rfl rfl rfl ?_; (repeat (apply Exists.intro)); refine ⟨?_, ?_, ?_, ?_⟩; (· apply St.dst0; (· (repeat (first | (with_reducible assumption) | (with_reducible apply St.alloc) | (with_reducible apply St.drew) | (with_reducible apply St.drewN) | (with_reducible apply St.alloc')))); (· ((try simp only [World.size_alloc, World.size_setCell, size_drew, size_drewN]); repeat (first | (exact Pick.here) | (with_reducible apply Pick.there))))); (· apply SrcT.arg; (apply St.sl (hs := h); (repeat (first | (with_reducible assumption) | (with_reducible apply St.alloc) | (with_reducible apply St.drew) | (with_reducible apply St.drewN) | (with_reducible apply St.alloc'))))); (· omega); intro vN wN hS) | (at_builtin; refine app_ins rfl rfl rfl rfl ?_; (repeat (apply Exists.intro)); refine ⟨?_, ?_, ?_, ?_, ?_⟩; (· (repeat (first | (with_reducible assumption) | (with_reducible apply St.alloc) | (with_reducible apply St.drew) | (with_reducible apply St.drewN) | (with_reducible apply St.alloc')))); (· (try simp only [World.size_alloc, World.size_setCell, size_drew, size_drewN]); first | (apply DstT.own; ((try simp only [World.size_alloc, World.size_setCell, size_drew, size_drewN]); repeat (first | (exact Pick.here) | (with_reducible apply Pick.there))); done) | (apply DstT.lit; (· ((try simp only [World.size_alloc, World.size_setCell, size_drew, size_drewN]); repeat (first | (exact Pick.here) | (with_reducible apply Pick.there)))); (· rfl); (· exact hO2))); (· (try simp only [World.size_alloc, World.size_setCell, size_drew, size_drewN]); first | (apply SrcT.lit; (· ((try simp only [World.size_alloc, World.size_setCell, size_drew, size_drewN]); repeat (first | (exact Pick.here) | (with_reducible apply Pick.there)))); (· rfl); (· exact hOb)) | (apply SrcT.arg; first | ((apply St.sl (hs := h); (repeat (first | (with_reducible assumption) | (with_reducible apply St.alloc) | (with_reducible apply St.drew) | (with_reducible apply St.drewN) | (with_reducible apply St.alloc')))); done) | ((apply St.sl (hs := h2); (repeat (first | (with_reducible assumption) | (with_reducible apply St.alloc) | (with_reducible apply St.drew) | (with_reducible apply St.drewN) | (with_reducible apply St.alloc')))); done))); (· omega); intro vN wN hS) | fail
      have hFr := hS.fr
      have oI := hS.own (v := vN) (n := 1 + is.length + 1) (e := 81) (k := 19) .here
      obtain ⟨an, cn, rfl, hcn, hcm⟩ := Own.shape oI
      obtain ⟨gI, rfl⟩ : ∃ g, an = some ⟨g, 0, none⟩ := by
        rcases oI.2.2 with ⟨e, _⟩ | ⟨g, _, _, e, _⟩
        · injection e with _ e2 _
          omega
        · injection e with e1 _ _
          exact ⟨g, e1⟩
      have sI := Own.sl (S' := []) oI (by simp)
      have sB := Own.sl (S' := []) (hS.own (n := 0 + is.length + ms.length) (e := 81) (k := 19) (.there (.there .here))) (by simp)
      have oVb : Out wN _ (pExpr ms) := hS.outOf (.there (.there (.there .here)))
      have oVa : Out wN _ (pExpr is) := hS.outOf (.there (.there (.there (.there .here))))
      have iI : InssR [] wN ([InstrT.of 2] ++ is ++ [InstrT.of 11]) (insC (InstrT.of 2) (.slice none 0 0) (.slice none 0 0) (.slice none 0 0) ++ ds ++ insC (InstrT.of 11) (.slice none 0 0) (.slice none 0 0) (.slice none 0 0)) := InssR.app (InssR.one (inert 11 wN)) (InssR.app (InssR.fr hFr (by simp) hs) (InssR.one (inert 2 wN)))
      have iB : InssR [] wN (is ++ ms) ([] ++ ds ++ es) := InssR.app (InssR.fr hFr (by simp) hs2) (InssR.fr hFr (by simp) hs)
      have lI : ([InstrT.of 2] ++ is ++ [InstrT.of 11]).length = 1 + is.length + 1 := by simp only [List.length_append, List.length_cons, List.length_nil]
      have lB : (is ++ ms).length = 0 + is.length + ms.length := by simp only [List.length_append]; omega
      have aB : ∀ i, i ∈ is ++ ms → WfI i ∧ SmI i := fun i hi => (List.mem_append.1 hi).elim (fun h => ⟨hwf1 i h, hsm1 i h⟩) (fun h => ⟨hwf2 i h, hsm2 i h⟩)
      have sm0 : ∀ k : Int, -9223372036854775808 ≤ k → k < 9223372036854775808 → WfI (InstrT.of k) ∧ SmI (InstrT.of k) := fun k h1 h2 => by
        constructor
        · constructor <;> (simp [InstrT.of]; try omega)
        · constructor <;> simp [InstrT.of, HeapT.zero, BlockT.zero, ValT.zero, HeapT.ok]
      have aI : ∀ i, i ∈ [InstrT.of 2] ++ is ++ [InstrT.of 11] → WfI i ∧ SmI i := fun i hi => by
        rcases List.mem_append.1 hi with hi | hi
        · rcases List.mem_append.1 hi with hi | hi
          · rw [List.mem_singleton.1 hi]; exact sm0 2 (by decide) (by decide)
          · exact ⟨hwf1 i hi, hsm1 i hi⟩
        · rw [List.mem_singleton.1 hi]; exact sm0 11 (by decide) (by decide)
      have kB : ∀ w', Fr [] wN w' → ∀ vx, vx = _ → Calls Tryd.prog 40 #[vx] w' fun e w'' => ∃ v', e = .returned v' ∧ St [] w' w'' [.own 5 1 (v') ((pExpr is).take ((pExpr is).length - 1) ++ pExpr ms).length (((pExpr is).take ((pExpr is).length - 1) ++ pExpr ms).map B)] := fun w' hf vx hvx => by
        have sB' := sB.fr hf (by simp)
        rw [← lB] at sB'
        have := Put_any hM (hg.fr (hFr.trans hf) (by simp)) vx (is ++ ms) _ (hvx ▸ sB') (InssR.fr hf (by simp) iB) (by omega) (fun i hi => (aB i hi).1) (fun i hi => (aB i hi).2)
        rwa [hB1.out] at this
      have kI : ∀ w', Fr [] wN w' → Calls Tryd.prog 40 #[.slice (some ⟨gI, 0, none⟩) (1 + is.length + 1) cn] w' fun e w'' => ∃ v', e = .returned v' ∧ St [] w' w'' [.own 5 1 (v') ([2, 64] ++ pExpr is ++ [11]).length (([2, 64] ++ pExpr is ++ [11]).map B)] := fun w' hf => by
        have sI' := sI.fr hf (by simp)
        rw [← lI] at sI'
        have := Put_any hM (hg.fr (hFr.trans hf) (by simp)) _ ([InstrT.of 2] ++ is ++ [InstrT.of 11]) _ sI' (InssR.fr hf (by simp) iI) (by omega) (fun i hi => (aI i hi).1) (fun i hi => (aI i hi).2)
        rw [hB2.out, lI] at this
        exact this
      have sN := Sl.dropK (c := 1) sI (by omega)
      rw [if_neg (by omega)] at sN
      have kN : ∀ w', Fr [] wN w' → Calls Tryd.prog 41 #[.slice (some ⟨gI, 19, none⟩) (1 + is.length) (cn - 1)] w' fun e w'' => e = .returned (.bool false) ∧ Fr [] w' w'' := fun w' hf => by
        have e : (is ++ [InstrT.of 11]).length = 1 + is.length := by simp; omega
        have sN' : Sl [] w' 19 (.slice (some ⟨gI, 19, none⟩) (1 + is.length) (cn - 1)) (1 + is.length) _ := sN.fr hf (by simp)
        rw [← e] at sN' ⊢
        refine (nested_any w' _ (is ++ [InstrT.of 11]) _ sN' (InssR.fr hf (by simp) (InssR.drop 1 iI)) (by omega)).mono fun e w'' ⟨h1, h2⟩ => ⟨by rw [h1, hB3.out], h2⟩
      obtain ⟨m, hm⟩ : ∃ m, (pExpr is).length = m + 1 := ⟨(pExpr is).length - 1, by omega⟩
      have hmc : (pExpr is).length ≤ vc := by omega
      have cV : ∀ w', Fr [] wN w' → (convert 26 9 (.slice va m vc)).run Tryd.prog w' = .ok (.string ⟨((pExpr is).take ((pExpr is).length - 1)).toArray⟩) w' ∧ (convert 26 9 (.slice vb (pExpr ms).length vd)).run Tryd.prog w' = .ok (.string ⟨(pExpr ms).toArray⟩) w' ∧ (convert 26 9 (.slice va (m + 1) vc)).run Tryd.prog w' = .ok (.string ⟨(pExpr is).toArray⟩) w' := fun w' hf => by
        have e : m = (pExpr is).length - 1 := by omega
        have h1 := Out.conv (Out.take (oVa.fr0 hf) m (by omega))
        have h2 := Out.conv (oVa.fr0 hf)
        rw [hm] at h2
        refine ⟨?_, Out.conv (oVb.fr0 hf), h2⟩
        rw [← e]
        exact h1
      have KB := Lib.hid kB
      have KI := Lib.hid kI
      have KN := Lib.hid kN
      have CV := Lib.hid cV
      clear kB kI kN cV sN sI sB oI oVb oVa iI iB lI lB aB aI sm0 hO2 hOb
      have hS9 := hS
      clear hS
      have hS := St.start [] wN
      have hm2 : (m : Int) ≤ (vc : Int) := by omega
      have hcn1 : ¬ cn = 1 := by omega
      have hcn2 : (1 : Int) ≤ ((1 + is.length + 1 : Nat) : Int) := by omega
      have hm4 : IntKind.i64.wrap (m : Int) = m := IntWalk.i64_in _ (by omega)
      have hm5 : IntKind.i64.wrap ((m : Int) + 1 - 1) = m := by rw [show (m : Int) + 1 - 1 = m by omega]; exact hm4
      have hm6 : IntKind.i64.wrap (((m + 1 : Nat) : Int) - 1) = m := by rw [show ((m + 1 : Nat) : Int) - 1 = m by omega]; exact hm4
      have hm0 : (0 : Int) ≤ (m : Int) := by omega
      rw [hm]
      clear hm hmc
      have hA1 := str_app ((pExpr is).take ((pExpr is).length - 1)) (pExpr ms)
      have hA2 : (⟨#[2, 64]⟩ : ByteArray) ++ ⟨(pExpr is).toArray⟩ = ⟨([2, 64] ++ pExpr is).toArray⟩ := str_app [2, 64] (pExpr is)
      have hA3 : (⟨([2, 64] ++ pExpr is).toArray⟩ : ByteArray) ++ ⟨#[11]⟩ = ⟨([2, 64] ++ pExpr is ++ [11]).toArray⟩ := str_app ([2, 64] ++ pExpr is) [11]
      obtain ⟨sT, hsT⟩ : ∃ s : ByteArray, (⟨((pExpr is).take ((pExpr is).length - 1)).toArray⟩ : ByteArray) = s := ⟨_, rfl⟩
      obtain ⟨sM, hsM⟩ : ∃ s : ByteArray, (⟨(pExpr ms).toArray⟩ : ByteArray) = s := ⟨_, rfl⟩
      obtain ⟨sA, hsA⟩ : ∃ s : ByteArray, (⟨(pExpr is).toArray⟩ : ByteArray) = s := ⟨_, rfl⟩
      obtain ⟨sC, hsC⟩ : ∃ s : ByteArray, (⟨([2, 64] ++ pExpr is).toArray⟩ : ByteArray) = s := ⟨_, rfl⟩
      obtain ⟨sI, hsI⟩ : ∃ s : ByteArray, (⟨([2, 64] ++ pExpr is ++ [11]).toArray⟩ : ByteArray) = s := ⟨_, rfl⟩
      obtain ⟨sB, hsB⟩ : ∃ s : ByteArray, (⟨((pExpr is).take ((pExpr is).length - 1) ++ pExpr ms).toArray⟩ : ByteArray) = s := ⟨_, rfl⟩
      rw [hsT, hsM, hsA] at CV
      rw [hsT, hsM, hsB] at hA1
      rw [hsA, hsC] at hA2
      rw [hsC, hsI] at hA3
      have z1 : ¬ (9223372036854775807 : Nat) < sT.size + sM.size := by
        rw [← hsT, ← hsM]
        simp only [ByteArray.size, List.size_toArray, List.length_take]
        omega
      have z2 : ¬ (9223372036854775807 : Nat) < (⟨#[2, 64]⟩ : ByteArray).size + sA.size := by
        rw [← hsA]
        simp only [ByteArray.size, List.size_toArray, List.length_cons, List.length_nil]
        omega
      have z3 : ¬ (9223372036854775807 : Nat) < sC.size + (⟨#[11]⟩ : ByteArray).size := by
        rw [← hsC]
        simp only [ByteArray.size, List.size_toArray, List.length_cons, List.length_nil, List.length_append]
        omega
      have z4 : ¬ (9223372036854775807 : Nat) < 2 + sA.size := z2
      have z5 : ¬ (9223372036854775807 : Nat) < sC.size + 1 := z3
      have HsI := Lib.hid hsI
      have HsB := Lib.hid hsB
      clear hsT hsM hsA hsC hsI hsB
      clear hs2 hs h h2 s4 s5 ho4 ho5 hS9 hsm1 hsm2 hS41 hS42 hwf1 hwf2 hop hop2 hu hu2
      go_region_held (fun w' => Fr [] wN w' ∧ (convert 26 9 (.slice va m vc)).run Tryd.prog w' = .ok (.string sT) w' ∧ (convert 26 9 (.slice vb (pExpr ms).length vd)).run Tryd.prog w' = .ok (.string sM) w' ∧ (convert 26 9 (.slice va (m + 1) vc)).run Tryd.prog w' = .ok (.string sA) w')
        (first | (with_reducible assumption) | (exact ⟨hS.fr, CV.out _ hS.fr⟩) | (refine (fun hX => ⟨hX, CV.out _ hX⟩) ?_; apply St.fr; (repeat (first | (with_reducible assumption) | (with_reducible apply St.alloc) | (with_reducible apply St.drew) | (with_reducible apply St.drewN) | (with_reducible apply St.alloc'))); done) | (go_keep; done))
        (first
          | (go_at_call 40; (with_reducible refine (KB.out _ ?_ _ rfl).mono ?_); (· apply St.fr; (repeat (first | (with_reducible assumption) | (with_reducible apply St.alloc) | (with_reducible apply St.drew) | (with_reducible apply St.drewN) | (with_reducible apply St.alloc')))); rintro e w6 ⟨v6, rfl, s6⟩; refine st_go s6 ?_; (repeat (apply Exists.intro)); refine ⟨?_, ?_⟩; (· (repeat (first | (with_reducible assumption) | (with_reducible apply St.alloc) | (with_reducible apply St.drew) | (with_reducible apply St.drewN) | (with_reducible apply St.alloc')))); (try simp only [World.size_alloc, World.size_setCell, size_drew, size_drewN]); intro hS; simp only [List.cons_append, List.nil_append] at hS; (try clear hQ); have hQ := St.facts hS; simp only [Facts, Res.fact, List.cons_append, List.nil_append, true_and, and_true] at hQ; have k6 := s6.conv (v := v6) Pick.here; rw [HsB.out] at k6)
          | (go_at_call 40; (with_reducible refine (KI.out _ ?_).mono ?_); (· apply St.fr; (repeat (first | (with_reducible assumption) | (with_reducible apply St.alloc) | (with_reducible apply St.drew) | (with_reducible apply St.drewN) | (with_reducible apply St.alloc')))); rintro e w7 ⟨v7, rfl, s7⟩; refine st_go s7 ?_; (repeat (apply Exists.intro)); refine ⟨?_, ?_⟩; (· (repeat (first | (with_reducible assumption) | (with_reducible apply St.alloc) | (with_reducible apply St.drew) | (with_reducible apply St.drewN) | (with_reducible apply St.alloc')))); (try simp only [World.size_alloc, World.size_setCell, size_drew, size_drewN]); intro hS; simp only [List.cons_append, List.nil_append] at hS; (try clear hQ); have hQ := St.facts hS; simp only [Facts, Res.fact, List.cons_append, List.nil_append, true_and, and_true] at hQ; have k7 := s7.conv (v := v7) Pick.here; rw [HsI.out] at k7)
          | (go_at_call 41; (with_reducible refine (KN.out _ ?_).mono ?_); (· apply St.fr; (repeat (first | (with_reducible assumption) | (with_reducible apply St.alloc) | (with_reducible apply St.drew) | (with_reducible apply St.drewN) | (with_reducible apply St.alloc')))); rintro e w8 ⟨rfl, hF8⟩; refine st_fr hF8 ?_; (repeat (apply Exists.intro)); refine ⟨?_, ?_⟩; (· (repeat (first | (with_reducible assumption) | (with_reducible apply St.alloc) | (with_reducible apply St.drew) | (with_reducible apply St.drewN) | (with_reducible apply St.alloc')))); (try simp only [World.size_alloc, World.size_setCell, size_drew, size_drewN]); intro hS; (try clear hQ); have hQ := St.facts hS; simp only [Facts, Res.fact, List.cons_append, List.nil_append, true_and, and_true] at hQ))
      all_goals
        go_wp2_with fail
        go_ret
        refine ⟨rfl, ?_⟩
        exact hFr.trans (by first | exact hS.fr | (apply St.fr; (repeat (first | (with_reducible assumption) | (with_reducible apply St.alloc) | (with_reducible apply St.drew) | (with_reducible apply St.drewN) | (with_reducible apply St.alloc')))))
end Go.Proofs.YtokneepfknepaaaDoor
