/- The walks of layer 7: a slice literal of one instruction. The walks of layer 7: an expression is read. The walks of layer 7: the chapter's rows. The law IbinCut, walked. The walks of layer 7: append on slices of instructions of the call's own, in a region that draws its order, too. Laws of layer 7: what is well nested, one row behind the other. The walk of layer 7: the shape of an opcode, named. -/
import Derived.Test.YtokneepfknepaaaDoorG8
import Derived.Great.BuildSlice
import Derived.Test.YtokneepfknepaaaDoorG10
import Derived.Test.YtokneepfknepaaaDoorG6
import Derived.Test.YtokneepfknepaaaDoorG2
set_option linter.unusedSimpArgs false
set_option linter.unusedVariables false
namespace Go.Proofs.YtokneepfknepaaaDoor
open Go.RowKit

set_option maxRecDepth 100000 in
theorem fill_ins (a0 a1 a2 a3 a4 a5 a6 a7 a8 a9 a10 a11 a12 a13 a14 a15 a16 a17 a18 : Value) : Instr.fill (fun i => some (i * 19, 19)) ((Array.range (1 * 19)).map ((Value.agg (insC (InstrT.of 0) (.slice none 0 0) (.slice none 0 0) (.slice none 0 0)).toArray).cells[· % (Value.agg (insC (InstrT.of 0) (.slice none 0 0) (.slice none 0 0) (.slice none 0 0)).toArray).cells.size]!)) [(0, .agg #[a0, a1, a2, a3, a4, a5, a6, a7, a8, a9, a10, a11, a12, a13, a14, a15, a16, a17, a18])] = some #[a0, a1, a2, a3, a4, a5, a6, a7, a8, a9, a10, a11, a12, a13, a14, a15, a16, a17, a18] := by
  kernel_rfl
set_option maxRecDepth 100000 in
theorem wpList_oneI {w : World} {ops : Array Oper} {rest : List Oper} {o : Oper} {a : Act} {Q : Exit → Act → World → Prop} {x : Operand} {i : InstrT} {tv lv cv : Value} (hg : o.guard = none) (ho : o.op = .buildSlice 72 1 #[(0, x)]) (hx : a.eval x = .agg (insC i tv lv cv).toArray)
    (h : wpList Tryd.prog ops Q rest (a.put o.dst (.slice (some ⟨w.heap.size, 0, none⟩) 1 1)) (w.alloc (.cells (insC i tv lv cv).toArray 81))) : wpList Tryd.prog ops Q (o :: rest) a w := by
  obtain ⟨i0, hi, hz0, hz1, hz2⟩ := info_parts info_ins
  refine wpList_buildSlice hg _ _ 1 _ ho _ i0 _ und_inss hi hz0 (by rw [hz1]; decide) (by rw [hz1]; decide) ?_ h
  rw [hz1]
  have e : ((#[(0, x)] : Array (Nat × Operand)).map fun (i, x) => (i, a.eval x)).toList = [(0, a.eval x)] := by simp
  rw [e, hx]
  exact fill_ins _ _ _ _ _ _ _ _ _ _ _ _ _ _ _ _ _ _ _
end Go.Proofs.YtokneepfknepaaaDoor

set_option linter.unusedSimpArgs false
set_option linter.unusedVariables false
namespace Go.Proofs.YtokneepfknepaaaDoor
open Go.RowKit

/-- Instructions' cells; their lists are of the call's own. -/
def InssD (D : List Res) : List InstrT → List Value → Prop
  | [], cs => cs = []
  | i :: is, cs => ∃ tv lv cv rest, cs = insC i tv lv cv ++ rest ∧ (∀ r, r ∈ insG i tv lv cv → r ∈ D) ∧ InssD D is rest
theorem InssD.mono {D D' : List Res} (h : ∀ r, r ∈ D → r ∈ D') : ∀ {is : List InstrT} {cs : List Value}, InssD D is cs → InssD D' is cs
  | [], _, k => k
  | _ :: _, _, ⟨tv, lv, cv, rest, e, h1, h2⟩ => ⟨tv, lv, cv, rest, e, fun r hr => h r (h1 r hr), InssD.mono h h2⟩
theorem InssD.snoc {D : List Res} {i : InstrT} {tv lv cv : Value} (hi : ∀ r, r ∈ insG i tv lv cv → r ∈ D) : ∀ {is : List InstrT} {cs : List Value}, InssD D is cs → InssD D (is ++ [i]) (cs ++ insC i tv lv cv)
  | [], _, k => by
    have k : _ = [] := k
    subst k
    exact ⟨tv, lv, cv, [], by simp, hi, rfl⟩
  | _ :: _, _, ⟨tv', lv', cv', rest, e, h1, h2⟩ => by
    subst e
    exact ⟨tv', lv', cv', rest ++ _, by simp, h1, InssD.snoc hi h2⟩
theorem InssD.toR {S : List Nat} {w0 w : World} {rb : Nat} {bv : Value} {bs : List UInt8} {s : RdS} {D G : List Res} (h : RSt S w0 w rb bv bs s G) (hD : ∀ r, r ∈ D → r ∈ G) : ∀ {is : List InstrT} {cs : List Value}, InssD D is cs → InssR S w is cs
  | [], _, k => k
  | _ :: _, _, ⟨tv, lv, cv, rest, e, h1, h2⟩ =>
    ⟨tv, lv, cv, rest, e, ⟨h.slM (e := 44) (hD _ (h1 _ (by simp [insG]))), h.slM (e := 3) (hD _ (h1 _ (by simp [insG]))), h.slM (e := 140) (hD _ (h1 _ (by simp [insG])))⟩, InssD.toR h hD h2⟩

theorem rapp_bool {w : World} {ops : Array Oper} {rest : List Oper} {o : Oper} {a : Act} {Q : Exit → Act → World → Prop} {s1 x : Operand} {v xv : Value} (hgd : o.guard = none)
    (ho : o.op = .call { callee := .builtin .append, args := #[s1, x], argTypes := #[125, 125] }) (hs : a.eval s1 = v) (hx : a.eval x = xv)
    (h : ∃ S w0 rb bv bs s G G' n xs m news, RSt S w0 w rb bv bs s G ∧ DstT 4 1 G v n xs G' ∧ SrcT 4 1 G w xv m news ∧ n + m ≤ 1099511627776 ∧
      ∀ v' w', RSt S w0 w' rb bv bs s (.own 4 1 v' (n + m) (xs ++ news) :: G') → wpList Tryd.prog ops Q rest (a.put o.dst v') w') :
    wpList Tryd.prog ops Q (o :: rest) a w := by
  obtain ⟨i0, hi, hz0, hz1, hz2⟩ := info_parts info_bool
  exact rst_appT hgd ho hs hx und_nest und_nest hi hz0 hz1 hz2 rfl (by decide) (L := 1099511627776) (by decide) (by decide) h

set_option maxRecDepth 100000 in
set_option maxHeartbeats 1600000 in
theorem step_yesR {S : List Nat} {w0 w : World} {rb : Nat} {bv : Value} {bs : List UInt8} {s : RdS} {G : List Res} {nb : Nat} {v : Value} {n m : List Bool} (hS : RSt S w0 w rb bv bs s (.loc nb [v] 125 :: .own 4 1 (v) (n).length (nestC (n)) :: G)) (hn : n.length ≤ 549755813000) {op : Int} (hs : stepN n op = some m) :
    Calls Tryd.prog 84 #[.pointer (some ⟨nb, 0, none⟩), .int .i64 op] w fun e w' => ∃ v', e = .returned (.bool true) ∧ RSt S w0 w' rb bv bs s (.loc nb [v'] 125 :: .own 4 1 (v') (m).length (nestC (m)) :: G) := by
  have hl : Loc _ _ _ _ := hS.st.head
  have ho : Own [] _ _ _ _ _ _ := hS.st.tail.head
  have hC := hl.cell
  have hT := hl.lt
  unfold stepN at hs
  by_cases h1 : op = 2 ∨ op = 3 ∨ op = 31
  · rw [if_pos h1] at hs
    injection hs with hs
    subst hs
    obtain ⟨a0, c0, rfl, hc0, _⟩ := Own.shape ho
    have q : ((op == 2) = true) ∨ ((op == 2) = false ∧ (op == 3) = true) ∨ ((op == 2) = false ∧ (op == 3) = false ∧ (op == 31) = true) := by simp; omega
    clear h1 hl ho
    rcases q with q2 | ⟨q2, q3⟩ | ⟨q2, q3, q31⟩
    all_goals
      go_enter Tryd.func84, Tryd.ntmps84
      go_wp2_with (at_builtin; refine rapp_bool rfl rfl rfl rfl ?_; (repeat (apply Exists.intro)); refine ⟨?_, ?_, ?_, ?_, ?_⟩; (· (repeat (first | (with_reducible assumption) | (with_reducible apply RSt.alloc) | (with_reducible apply RSt.drew) | (with_reducible apply RSt.drewN) | (with_reducible apply RSt.set) | (with_reducible exact Pick.here) | (with_reducible apply Pick.there)))); (· (try simp only [World.size_alloc, World.size_setCell, size_drew, size_drewN]); apply DstT.own; ((try simp only [World.size_alloc, World.size_setCell, size_drew, size_drewN]); first | ((repeat (first | (with_reducible exact Pick.here) | (with_reducible apply Pick.there))); done) | (repeat (first | (exact Pick.here) | (with_reducible apply Pick.there))))); (· (try simp only [World.size_alloc, World.size_setCell, size_drew, size_drewN]); apply SrcT.lit; (· ((try simp only [World.size_alloc, World.size_setCell, size_drew, size_drewN]); first | ((repeat (first | (with_reducible exact Pick.here) | (with_reducible apply Pick.there))); done) | (repeat (first | (exact Pick.here) | (with_reducible apply Pick.there))))); (· rfl); (· simp [Value.oneCell'])); (· omega); intro vN wN hS; have hO : Own [] _ _ _ _ _ _ := hS.st.head; obtain ⟨aN, cN, rfl, _, _⟩ := Own.shape hO; (try clear hQ); have hQ := St.facts hS.st; (try simp only [Facts, Res.fact, List.cons_append, List.nil_append, true_and, and_true] at hQ); (try clear hN); have hN := aparts hS.st.apart; (try simp only [Aparts, Apart1, List.cons_append, List.nil_append, true_and, and_true] at hN))
      go_ret
      refine ⟨.slice aN (n.length + 1) cN, rfl, ?_⟩
      rw [nestC_cons]
      exact (hS.set (by ((try simp only [World.size_alloc, World.size_setCell, size_drew, size_drewN]); first | ((repeat (first | (with_reducible exact Pick.here) | (with_reducible apply Pick.there))); done) | (repeat (first | (exact Pick.here) | (with_reducible apply Pick.there))))) 0 (.slice aN (n.length + 1) cN)).sel (by ((try simp only [World.size_alloc, World.size_setCell, size_drew, size_drewN]); repeat (first | (with_reducible exact Sel.all) | (with_reducible exact Sel.nil) | (apply Sel.cons; (· ((try simp only [World.size_alloc, World.size_setCell, size_drew, size_drewN]); first | ((repeat (first | (with_reducible exact Pick.here) | (with_reducible apply Pick.there))); done) | (repeat (first | (exact Pick.here) | (with_reducible apply Pick.there)))); done)) | (apply Sel.skip))))
  · rw [if_neg h1] at hs
    have q2 : (op == 2) = false := by simp; omega
    have q3 : (op == 3) = false := by simp; omega
    have q31 : (op == 31) = false := by simp; omega
    by_cases h4 : op = 4
    · rw [if_pos h4] at hs
      injection hs with hs
      subst hs
      obtain ⟨a0, c0, rfl, hc0, _⟩ := Own.shape ho
      have q4 : (op == 4) = true := by simp; omega
      clear h1 h4 hl ho
      go_enter Tryd.func84, Tryd.ntmps84
      go_wp2_with (at_builtin; refine rapp_bool rfl rfl rfl rfl ?_; (repeat (apply Exists.intro)); refine ⟨?_, ?_, ?_, ?_, ?_⟩; (· (repeat (first | (with_reducible assumption) | (with_reducible apply RSt.alloc) | (with_reducible apply RSt.drew) | (with_reducible apply RSt.drewN) | (with_reducible apply RSt.set) | (with_reducible exact Pick.here) | (with_reducible apply Pick.there)))); (· (try simp only [World.size_alloc, World.size_setCell, size_drew, size_drewN]); apply DstT.own; ((try simp only [World.size_alloc, World.size_setCell, size_drew, size_drewN]); first | ((repeat (first | (with_reducible exact Pick.here) | (with_reducible apply Pick.there))); done) | (repeat (first | (exact Pick.here) | (with_reducible apply Pick.there))))); (· (try simp only [World.size_alloc, World.size_setCell, size_drew, size_drewN]); apply SrcT.lit; (· ((try simp only [World.size_alloc, World.size_setCell, size_drew, size_drewN]); first | ((repeat (first | (with_reducible exact Pick.here) | (with_reducible apply Pick.there))); done) | (repeat (first | (exact Pick.here) | (with_reducible apply Pick.there))))); (· rfl); (· simp [Value.oneCell'])); (· omega); intro vN wN hS; have hO : Own [] _ _ _ _ _ _ := hS.st.head; obtain ⟨aN, cN, rfl, _, _⟩ := Own.shape hO; (try clear hQ); have hQ := St.facts hS.st; (try simp only [Facts, Res.fact, List.cons_append, List.nil_append, true_and, and_true] at hQ); (try clear hN); have hN := aparts hS.st.apart; (try simp only [Aparts, Apart1, List.cons_append, List.nil_append, true_and, and_true] at hN))
      go_ret
      refine ⟨.slice aN (n.length + 1) cN, rfl, ?_⟩
      rw [nestC_cons]
      exact (hS.set (by ((try simp only [World.size_alloc, World.size_setCell, size_drew, size_drewN]); first | ((repeat (first | (with_reducible exact Pick.here) | (with_reducible apply Pick.there))); done) | (repeat (first | (exact Pick.here) | (with_reducible apply Pick.there))))) 0 (.slice aN (n.length + 1) cN)).sel (by ((try simp only [World.size_alloc, World.size_setCell, size_drew, size_drewN]); repeat (first | (with_reducible exact Sel.all) | (with_reducible exact Sel.nil) | (apply Sel.cons; (· ((try simp only [World.size_alloc, World.size_setCell, size_drew, size_drewN]); first | ((repeat (first | (with_reducible exact Pick.here) | (with_reducible apply Pick.there))); done) | (repeat (first | (exact Pick.here) | (with_reducible apply Pick.there)))); done)) | (apply Sel.skip))))
    · rw [if_neg h4] at hs
      have q4 : (op == 4) = false := by simp; omega
      by_cases h5 : op = 5
      · rw [if_pos h5] at hs
        have q5 : (op == 5) = true := by simp; omega
        match n, hs with
        | true :: r, hs =>
          injection hs with hs
          subst hs
          obtain ⟨g, c, rfl, hg, hd, hz, hc⟩ := ho.nest
          have hw : wrap64 (r.length : Int) = r.length := IntWalk.wrap64_in _ (by simp at hn; omega)
          have hZ := hl.frz
          clear h1 h4 h5
          go_enter Tryd.func84, Tryd.ntmps84
          go_wp2
          go_ret
          refine ⟨.slice (some ⟨g, 0, none⟩) (r.length + 1) c, rfl, ?_⟩
          have hrg : rb ∉ [g] := by
            have k1 := (hS.st.tail).new _ List.mem_cons_self g (by simp [Res.blk, Value.blk])
            have k2 := hS.lt
            simp
            omega
          have h1 := (hS.st.pick (.there .here)).turn (S' := []) (r' := .own 4 1 (.slice (some ⟨g, 0, none⟩) (r.length + 1) c) (r.length + 1) ((nestC (true :: r)).set r.length (.bool false))) (by simpa [Res.blk, Value.blk] using (Fr.refl [g] w).setCell (p := ⟨g, r.length, none⟩) (by simp) (.bool false)) (by simp) (ho.setAt (by simp) rfl) (fun b hb => .inl hb)
          rw [nestC_set] at h1
          exact hS.other (h1.pick (.there .here)) (X := [g]) ((Fr.refl [g] w).setCell (p := ⟨g, r.length, none⟩) (by simp) (.bool false)) hrg
        | false :: r, hs => cases hs
        | [], hs => cases hs
      · rw [if_neg h5] at hs
        have q5 : (op == 5) = false := by simp; omega
        by_cases h11 : op = 11
        · rw [if_pos h11] at hs
          have q11 : (op == 11) = true := by simp; omega
          match n, hs with
          | x :: r, hs =>
            injection hs with hs
            subst hs
            obtain ⟨g, c, rfl, hg, hd, hz, hc⟩ := ho.nest
            have hw : wrap64 (r.length : Int) = r.length := IntWalk.wrap64_in _ (by simp at hn; omega)
            have hZ := hl.frz
            have hc2 : (r.length : Int) ≤ (c : Int) := by omega
            clear h1 h4 h5 h11
            go_enter Tryd.func84, Tryd.ntmps84
            go_wp2
            go_ret
            refine ⟨.slice (some ⟨g, 0, none⟩) r.length c, rfl, ?_⟩
            have h1 := (hS.st.pick (.there .here)).turn (S' := []) (r' := .own 4 1 (.slice (some ⟨g, 0, none⟩) r.length c) r.length ((nestC (x :: r)).take (r.length * 1))) (Fr.refl _ _) (by simp) (ho.take (by simp)) (fun b hb => .inl hb)
            rw [nestC_take] at h1
            exact (hS.other h1 (Fr.refl [] w) (by simp)).set (.there .here) 0 (.slice (some ⟨g, 0, none⟩) r.length c)
          | [], hs => cases hs
        · rw [if_neg h11] at hs
          injection hs with hs
          subst hs
          have q11 : (op == 11) = false := by simp; omega
          obtain ⟨a0, c0, rfl, hc0, _⟩ := Own.shape ho
          clear h1 h4 h5 h11 hl ho
          go_enter Tryd.func84, Tryd.ntmps84
          go_wp2
          go_ret
          exact ⟨.slice a0 n.length c0, rfl, hS⟩

set_option maxRecDepth 100000 in set_option maxHeartbeats 3200000 in
theorem ib_expr {S : List Nat} {w : World} {rb : Nat} {bv : Value} {bs : List UInt8} {s : RdS} (h : Rd S w rb bv bs s) (hg : Gl7 S w) (h0 : s.err = 0) (hsm : bs.length ≤ 274877906944) : Calls Tryd.prog 42 #[.pointer (some ⟨rb, 0, none⟩)] w fun e w' =>
    ∃ v cs, e = .returned v ∧ Sl S w' 19 v (rExpr bs s).1.length cs ∧ InssR S w' (rExpr bs s).1 cs ∧ Rd S w' rb bv bs (rExpr bs s).2 ∧ Fr [rb] w w' := by
  have hS := RSt.start h
  have hle := h.le
  go_enter Tryd.func42, Tryd.ntmps42
  go_wp2
  go_step3
  go_wp2
  go_step3
  go_wp2
  go_loopw [3] (fun v wr => ∃ (l : List InstrT) (cs : List Value) (n : List Bool) (nv : Value) (t : RdS) (f : Nat) (D : List Res), RSt S w wr rb bv bs t (.loc w.heap.size [nv] 125 :: .own 4 1 (nv) (n).length (nestC (n)) :: .own 81 19 v l.length cs :: D) ∧ InssD D l cs ∧ t.err = 0 ∧ n.length ≤ l.length ∧ l.length ≤ t.at_ ∧ bs.length < t.at_ + f ∧ Hid (rExprF bs (bs.length + 1 - s.at_) [] s = ((rExprF bs f n t).1.map (l ++ ·), (rExprF bs f n t).2))) (fun _ wr => bs.length + 1 - atOf wr rb)
  case atStart =>
    refine ⟨[], [], [], .slice none 0 0, s, bs.length + 1 - s.at_, [], ?_, rfl, h0, by simp, by simp, by omega, Lib.hid (by simp)⟩
    exact ((((hS.alloc [.slice none 0 0] 125).nil 4 1 0).nil 81 19 0).sel (by ((try simp only [World.size_alloc, World.size_setCell, size_drew, size_drewN]); repeat (first | (with_reducible exact Sel.all) | (with_reducible exact Sel.nil) | (apply Sel.cons; (· ((try simp only [World.size_alloc, World.size_setCell, size_drew, size_drewN]); first | ((repeat (first | (with_reducible exact Pick.here) | (with_reducible apply Pick.there))); done) | (repeat (first | (exact Pick.here) | (with_reducible apply Pick.there)))); done)) | (apply Sel.skip)))))
  case round =>
    obtain ⟨l, cs, n, nv, t, f, D, hS, hD, ht, hn, hl, hf, hI⟩ := hrel
    have hAt := hS.rd.le
    obtain ⟨f, rfl⟩ : ∃ k, f = k + 1 := ⟨f - 1, by omega⟩
    have hO1 : Own [] _ _ _ _ _ _ := hS.st.tail.head
    have hO2 : Own [] _ _ _ _ _ _ := hS.st.tail.tail.head
    obtain ⟨a0, c0, rfl, _, _⟩ := Own.shape hO1
    obtain ⟨a1, c1, rfl, _, _⟩ := Own.shape hO2
    clear hO1 hO2
    have hatw := hS.atOf
    have hop : ∀ tv lv cv, (insC (rInstr bs t).1 tv lv cv)[0]? = some (.int .i64 (rInstr bs t).1.op) := fun _ _ _ => rfl
    (try clear hQ); have hQ := St.facts hS.st; (try simp only [Facts, Res.fact, List.cons_append, List.nil_append, true_and, and_true] at hQ); (try clear hN); have hN := aparts hS.st.apart; (try simp only [Aparts, Apart1, List.cons_append, List.nil_append, true_and, and_true] at hN)
    by_cases h1 : (rInstr bs t).2.err = 0
    · have q1 : ((rInstr bs t).2.err != 0) = false := by simp [h1]
      obtain ⟨k1, e1, l1, p1, p2, p3, p4⟩ := rInstr_good.back bs t ht hAt h1
      have hat2 : t.at_ + 1 ≤ (rInstr bs t).2.at_ := by rw [e1]; simp; omega
      clear p1 p2 p4
      by_cases h2 : (rInstr bs t).1.op = 11 ∧ n = []
      · have hx : rExprF bs (f + 1) n t = (some [], (rInstr bs t).2) := by
          unfold rExprF
          rw [if_neg (by simp [h1]), if_pos h2]
        have EX : Hid (rExpr bs s = (l, (rInstr bs t).2)) := Lib.hid (by unfold rExpr; rw [hI.out, hx]; simp)
        have q2 : ((rInstr bs t).1.op == 11) = true := by simp [h2.1]
        obtain ⟨_, rfl⟩ := h2
        clear hx hI h1 e1
        go_wp2_with first | (refine st_load (ty := 81) rfl rfl rfl und_ins rfl ?_; (repeat (apply Exists.intro)); refine ⟨?_, ?_, ?_, ?_⟩; (· apply RSt.st; (repeat (first | (with_reducible assumption) | (with_reducible apply RSt.alloc) | (with_reducible apply RSt.drew) | (with_reducible apply RSt.drewN) | (with_reducible apply RSt.set) | (with_reducible exact Pick.here) | (with_reducible apply Pick.there)))); (· (try simp only [World.size_alloc, World.size_setCell, size_drew, size_drewN]); apply RowAt.loc; ((try simp only [World.size_alloc, World.size_setCell, size_drew, size_drewN]); first | ((repeat (first | (with_reducible exact Pick.here) | (with_reducible apply Pick.there))); done) | (repeat (first | (exact Pick.here) | (with_reducible apply Pick.there))))); (· exact size_ins)) | (refine wpList_oneI rfl rfl rfl ?_) | (refine rst_store (ty := 81) rfl rfl rfl rfl ?_; (repeat (apply Exists.intro)); refine ⟨?_, ?_, ?_, ?_, ?_, ?_⟩; (· (repeat (first | (with_reducible assumption) | (with_reducible apply RSt.alloc) | (with_reducible apply RSt.drew) | (with_reducible apply RSt.drewN) | (with_reducible apply RSt.set) | (with_reducible exact Pick.here) | (with_reducible apply Pick.there)))); (· (try simp only [World.size_alloc, World.size_setCell, size_drew, size_drewN]); ((try simp only [World.size_alloc, World.size_setCell, size_drew, size_drewN]); first | ((repeat (first | (with_reducible exact Pick.here) | (with_reducible apply Pick.there))); done) | (repeat (first | (exact Pick.here) | (with_reducible apply Pick.there))))); (· rfl); (· exact size_ins); (· simp [insC, Value.oneCell']); intro wN hS hFN; (try clear hQ); have hQ := St.facts hS.st; (try simp only [Facts, Res.fact, List.cons_append, List.nil_append, true_and, and_true] at hQ); (try clear hN); have hN := aparts hS.st.apart; (try simp only [Aparts, Apart1, List.cons_append, List.nil_append, true_and, and_true] at hN)) | (go_at_call 22; refine rst_use ?_; (repeat (apply Exists.intro)); refine ⟨?_, ?_⟩; (· (repeat (first | (with_reducible assumption) | (with_reducible apply RSt.alloc) | (with_reducible apply RSt.drew) | (with_reducible apply RSt.drewN) | (with_reducible apply RSt.set) | (with_reducible exact Pick.here) | (with_reducible apply Pick.there)))); (try simp only [World.size_alloc, World.size_setCell, size_drew, size_drewN]); intro hT; refine (rd_at hT.rd).mono ?_; rintro e w1 ⟨rfl, rfl⟩; clear hT) | (go_at_call 85; refine rst_use ?_; (repeat (apply Exists.intro)); refine ⟨?_, ?_⟩; (· (repeat (first | (with_reducible assumption) | (with_reducible apply RSt.alloc) | (with_reducible apply RSt.drew) | (with_reducible apply RSt.drewN) | (with_reducible apply RSt.set) | (with_reducible exact Pick.here) | (with_reducible apply Pick.there)))); (try simp only [World.size_alloc, World.size_setCell, size_drew, size_drewN]); intro hT; refine (ib_instr hT.rd (hT.gl7' hg)).mono ?_; rintro e w1 ⟨tv, lv, cv, rfl, hX⟩; have hO1 : Own [] _ _ _ _ _ _ := hX.st.head; have hO2 : Own [] _ _ _ _ _ _ := hX.st.tail.head; have hO3 : Own [] _ _ _ _ _ _ := hX.st.tail.tail.head; obtain ⟨ta, tc, rfl, _, _⟩ := Own.shape hO1; obtain ⟨la, lc, rfl, _, _⟩ := Own.shape hO2; obtain ⟨ca, cc, rfl, _, _⟩ := Own.shape hO3; have hS := hT.join hX; simp only [insG, List.cons_append, List.nil_append] at hS; clear hT hX hO1 hO2 hO3; (try clear hQ); have hQ := St.facts hS.st; (try simp only [Facts, Res.fact, List.cons_append, List.nil_append, true_and, and_true] at hQ); (try clear hN); have hN := aparts hS.st.apart; (try simp only [Aparts, Apart1, List.cons_append, List.nil_append, true_and, and_true] at hN)) | (go_at_call 86; refine rst_use ?_; (repeat (apply Exists.intro)); refine ⟨?_, ?_⟩; (· (repeat (first | (with_reducible assumption) | (with_reducible apply RSt.alloc) | (with_reducible apply RSt.drew) | (with_reducible apply RSt.drewN) | (with_reducible apply RSt.set) | (with_reducible exact Pick.here) | (with_reducible apply Pick.there)))); (try simp only [World.size_alloc, World.size_setCell, size_drew, size_drewN]); intro hT; refine (ib_failed hT.rd).mono ?_; rintro e w1 ⟨rfl, hR1, hF1⟩; have hS := hT.call hR1 hF1; clear hT hR1 hF1; (try clear hQ); have hQ := St.facts hS.st; (try simp only [Facts, Res.fact, List.cons_append, List.nil_append, true_and, and_true] at hQ); (try clear hN); have hN := aparts hS.st.apart; (try simp only [Aparts, Apart1, List.cons_append, List.nil_append, true_and, and_true] at hN)) | (go_at_call 11; refine rst_use ?_; (repeat (apply Exists.intro)); refine ⟨?_, ?_⟩; (· (repeat (first | (with_reducible assumption) | (with_reducible apply RSt.alloc) | (with_reducible apply RSt.drew) | (with_reducible apply RSt.drewN) | (with_reducible apply RSt.set) | (with_reducible exact Pick.here) | (with_reducible apply Pick.there)))); (try simp only [World.size_alloc, World.size_setCell, size_drew, size_drewN]); intro hT; refine (rd_fail hT.rd _ _).mono ?_; rintro e w1 ⟨rfl, hR1, hF1⟩; have hS := hT.call hR1 hF1; clear hT hR1 hF1; (try clear hQ); have hQ := St.facts hS.st; (try simp only [Facts, Res.fact, List.cons_append, List.nil_append, true_and, and_true] at hQ); (try clear hN); have hN := aparts hS.st.apart; (try simp only [Aparts, Apart1, List.cons_append, List.nil_append, true_and, and_true] at hN)) | (at_builtin; refine rapp_ins rfl rfl rfl rfl ?_; (repeat (apply Exists.intro)); refine ⟨?_, ?_, ?_, ?_, ?_⟩; (· (repeat (first | (with_reducible assumption) | (with_reducible apply RSt.alloc) | (with_reducible apply RSt.drew) | (with_reducible apply RSt.drewN) | (with_reducible apply RSt.set) | (with_reducible exact Pick.here) | (with_reducible apply Pick.there)))); (· (try simp only [World.size_alloc, World.size_setCell, size_drew, size_drewN]); apply DstT.own; ((try simp only [World.size_alloc, World.size_setCell, size_drew, size_drewN]); first | ((repeat (first | (with_reducible exact Pick.here) | (with_reducible apply Pick.there))); done) | (repeat (first | (exact Pick.here) | (with_reducible apply Pick.there))))); (· (try simp only [World.size_alloc, World.size_setCell, size_drew, size_drewN]); apply SrcT.lit; (· ((try simp only [World.size_alloc, World.size_setCell, size_drew, size_drewN]); first | ((repeat (first | (with_reducible exact Pick.here) | (with_reducible apply Pick.there))); done) | (repeat (first | (exact Pick.here) | (with_reducible apply Pick.there))))); (· rfl); (· simp [insC, Value.oneCell'])); (· omega); intro vN wN hS; (try clear hQ); have hQ := St.facts hS.st; (try simp only [Facts, Res.fact, List.cons_append, List.nil_append, true_and, and_true] at hQ); (try clear hN); have hN := aparts hS.st.apart; (try simp only [Aparts, Apart1, List.cons_append, List.nil_append, true_and, and_true] at hN))
        rw [Exit.noGoto_ret]
        go_ret
        refine ⟨_, cs, rfl, ?_, ?_, ?_, hS.fr⟩
        · rw [EX.out]; exact hS.sl (e := 81) (by ((try simp only [World.size_alloc, World.size_setCell, size_drew, size_drewN]); first | ((repeat (first | (with_reducible exact Pick.here) | (with_reducible apply Pick.there))); done) | (repeat (first | (exact Pick.here) | (with_reducible apply Pick.there)))))
        · rw [EX.out]; exact hD.toR hS (fun r hr => by simp [hr])
        · rw [EX.out]; exact hS.rd
      · have q : ((rInstr bs t).1.op == 11) = false ∨ (((rInstr bs t).1.op == 11) = true ∧ (((n.length : Nat) : Int) == 0) = false) := by
          by_cases h3 : (rInstr bs t).1.op = 11
          · right
            refine ⟨by simp [h3], ?_⟩
            have : n ≠ [] := fun h => h2 ⟨h3, h⟩
            have : n.length ≠ 0 := fun h => this (List.eq_nil_of_length_eq_zero h)
            simp; omega
          · left; simp [h3]
        cases hst : stepN n (rInstr bs t).1.op with
        | none =>
          have hx : rExprF bs (f + 1) n t = (none, (rInstr bs t).2.fail 60 t.at_) := by
            unfold rExprF
            rw [if_neg (by simp [h1]), if_neg h2, hst]
          have EX : Hid (rExpr bs s = ([], (rInstr bs t).2.fail 60 t.at_)) := Lib.hid (by unfold rExpr; rw [hI.out, hx]; simp)
          have Hst := Lib.hid hst
          clear hx hI h1 h2 e1 hst
          rcases q with q2 | ⟨q2, q3⟩
          all_goals
            go_wp2_with first | (refine st_load (ty := 81) rfl rfl rfl und_ins rfl ?_; (repeat (apply Exists.intro)); refine ⟨?_, ?_, ?_, ?_⟩; (· apply RSt.st; (repeat (first | (with_reducible assumption) | (with_reducible apply RSt.alloc) | (with_reducible apply RSt.drew) | (with_reducible apply RSt.drewN) | (with_reducible apply RSt.set) | (with_reducible exact Pick.here) | (with_reducible apply Pick.there)))); (· (try simp only [World.size_alloc, World.size_setCell, size_drew, size_drewN]); apply RowAt.loc; ((try simp only [World.size_alloc, World.size_setCell, size_drew, size_drewN]); first | ((repeat (first | (with_reducible exact Pick.here) | (with_reducible apply Pick.there))); done) | (repeat (first | (exact Pick.here) | (with_reducible apply Pick.there))))); (· exact size_ins)) | (refine wpList_oneI rfl rfl rfl ?_) | (refine rst_store (ty := 81) rfl rfl rfl rfl ?_; (repeat (apply Exists.intro)); refine ⟨?_, ?_, ?_, ?_, ?_, ?_⟩; (· (repeat (first | (with_reducible assumption) | (with_reducible apply RSt.alloc) | (with_reducible apply RSt.drew) | (with_reducible apply RSt.drewN) | (with_reducible apply RSt.set) | (with_reducible exact Pick.here) | (with_reducible apply Pick.there)))); (· (try simp only [World.size_alloc, World.size_setCell, size_drew, size_drewN]); ((try simp only [World.size_alloc, World.size_setCell, size_drew, size_drewN]); first | ((repeat (first | (with_reducible exact Pick.here) | (with_reducible apply Pick.there))); done) | (repeat (first | (exact Pick.here) | (with_reducible apply Pick.there))))); (· rfl); (· exact size_ins); (· simp [insC, Value.oneCell']); intro wN hS hFN; (try clear hQ); have hQ := St.facts hS.st; (try simp only [Facts, Res.fact, List.cons_append, List.nil_append, true_and, and_true] at hQ); (try clear hN); have hN := aparts hS.st.apart; (try simp only [Aparts, Apart1, List.cons_append, List.nil_append, true_and, and_true] at hN)) | (go_at_call 22; refine rst_use ?_; (repeat (apply Exists.intro)); refine ⟨?_, ?_⟩; (· (repeat (first | (with_reducible assumption) | (with_reducible apply RSt.alloc) | (with_reducible apply RSt.drew) | (with_reducible apply RSt.drewN) | (with_reducible apply RSt.set) | (with_reducible exact Pick.here) | (with_reducible apply Pick.there)))); (try simp only [World.size_alloc, World.size_setCell, size_drew, size_drewN]); intro hT; refine (rd_at hT.rd).mono ?_; rintro e w1 ⟨rfl, rfl⟩; clear hT) | (go_at_call 85; refine rst_use ?_; (repeat (apply Exists.intro)); refine ⟨?_, ?_⟩; (· (repeat (first | (with_reducible assumption) | (with_reducible apply RSt.alloc) | (with_reducible apply RSt.drew) | (with_reducible apply RSt.drewN) | (with_reducible apply RSt.set) | (with_reducible exact Pick.here) | (with_reducible apply Pick.there)))); (try simp only [World.size_alloc, World.size_setCell, size_drew, size_drewN]); intro hT; refine (ib_instr hT.rd (hT.gl7' hg)).mono ?_; rintro e w1 ⟨tv, lv, cv, rfl, hX⟩; have hO1 : Own [] _ _ _ _ _ _ := hX.st.head; have hO2 : Own [] _ _ _ _ _ _ := hX.st.tail.head; have hO3 : Own [] _ _ _ _ _ _ := hX.st.tail.tail.head; obtain ⟨ta, tc, rfl, _, _⟩ := Own.shape hO1; obtain ⟨la, lc, rfl, _, _⟩ := Own.shape hO2; obtain ⟨ca, cc, rfl, _, _⟩ := Own.shape hO3; have hS := hT.join hX; simp only [insG, List.cons_append, List.nil_append] at hS; clear hT hX hO1 hO2 hO3; (try clear hQ); have hQ := St.facts hS.st; (try simp only [Facts, Res.fact, List.cons_append, List.nil_append, true_and, and_true] at hQ); (try clear hN); have hN := aparts hS.st.apart; (try simp only [Aparts, Apart1, List.cons_append, List.nil_append, true_and, and_true] at hN)) | (go_at_call 86; refine rst_use ?_; (repeat (apply Exists.intro)); refine ⟨?_, ?_⟩; (· (repeat (first | (with_reducible assumption) | (with_reducible apply RSt.alloc) | (with_reducible apply RSt.drew) | (with_reducible apply RSt.drewN) | (with_reducible apply RSt.set) | (with_reducible exact Pick.here) | (with_reducible apply Pick.there)))); (try simp only [World.size_alloc, World.size_setCell, size_drew, size_drewN]); intro hT; refine (ib_failed hT.rd).mono ?_; rintro e w1 ⟨rfl, hR1, hF1⟩; have hS := hT.call hR1 hF1; clear hT hR1 hF1; (try clear hQ); have hQ := St.facts hS.st; (try simp only [Facts, Res.fact, List.cons_append, List.nil_append, true_and, and_true] at hQ); (try clear hN); have hN := aparts hS.st.apart; (try simp only [Aparts, Apart1, List.cons_append, List.nil_append, true_and, and_true] at hN)) | (go_at_call 11; refine rst_use ?_; (repeat (apply Exists.intro)); refine ⟨?_, ?_⟩; (· (repeat (first | (with_reducible assumption) | (with_reducible apply RSt.alloc) | (with_reducible apply RSt.drew) | (with_reducible apply RSt.drewN) | (with_reducible apply RSt.set) | (with_reducible exact Pick.here) | (with_reducible apply Pick.there)))); (try simp only [World.size_alloc, World.size_setCell, size_drew, size_drewN]); intro hT; refine (rd_fail hT.rd _ _).mono ?_; rintro e w1 ⟨rfl, hR1, hF1⟩; have hS := hT.call hR1 hF1; clear hT hR1 hF1; (try clear hQ); have hQ := St.facts hS.st; (try simp only [Facts, Res.fact, List.cons_append, List.nil_append, true_and, and_true] at hQ); (try clear hN); have hN := aparts hS.st.apart; (try simp only [Aparts, Apart1, List.cons_append, List.nil_append, true_and, and_true] at hN)) | (at_builtin; refine rapp_ins rfl rfl rfl rfl ?_; (repeat (apply Exists.intro)); refine ⟨?_, ?_, ?_, ?_, ?_⟩; (· (repeat (first | (with_reducible assumption) | (with_reducible apply RSt.alloc) | (with_reducible apply RSt.drew) | (with_reducible apply RSt.drewN) | (with_reducible apply RSt.set) | (with_reducible exact Pick.here) | (with_reducible apply Pick.there)))); (· (try simp only [World.size_alloc, World.size_setCell, size_drew, size_drewN]); apply DstT.own; ((try simp only [World.size_alloc, World.size_setCell, size_drew, size_drewN]); first | ((repeat (first | (with_reducible exact Pick.here) | (with_reducible apply Pick.there))); done) | (repeat (first | (exact Pick.here) | (with_reducible apply Pick.there))))); (· (try simp only [World.size_alloc, World.size_setCell, size_drew, size_drewN]); apply SrcT.lit; (· ((try simp only [World.size_alloc, World.size_setCell, size_drew, size_drewN]); first | ((repeat (first | (with_reducible exact Pick.here) | (with_reducible apply Pick.there))); done) | (repeat (first | (exact Pick.here) | (with_reducible apply Pick.there))))); (· rfl); (· simp [insC, Value.oneCell'])); (· omega); intro vN wN hS; (try clear hQ); have hQ := St.facts hS.st; (try simp only [Facts, Res.fact, List.cons_append, List.nil_append, true_and, and_true] at hQ); (try clear hN); have hN := aparts hS.st.apart; (try simp only [Aparts, Apart1, List.cons_append, List.nil_append, true_and, and_true] at hN)) | (go_at_call 84; refine rst_use ?_; (repeat (apply Exists.intro)); refine ⟨?_, ?_⟩; (· (repeat (first | (with_reducible assumption) | (with_reducible apply RSt.alloc) | (with_reducible apply RSt.drew) | (with_reducible apply RSt.drewN) | (with_reducible apply RSt.set) | (with_reducible exact Pick.here) | (with_reducible apply Pick.there)))); (try simp only [World.size_alloc, World.size_setCell, size_drew, size_drewN]); intro hT; refine (step_no (n := n) (hT.st.loc (by ((try simp only [World.size_alloc, World.size_setCell, size_drew, size_drewN]); first | ((repeat (first | (with_reducible exact Pick.here) | (with_reducible apply Pick.there))); done) | (repeat (first | (exact Pick.here) | (with_reducible apply Pick.there)))))) (hT.st.own (by ((try simp only [World.size_alloc, World.size_setCell, size_drew, size_drewN]); first | ((repeat (first | (with_reducible exact Pick.here) | (with_reducible apply Pick.there))); done) | (repeat (first | (exact Pick.here) | (with_reducible apply Pick.there)))))) (by omega) Hst.out).mono ?_; rintro e w1 ⟨rfl, hF1⟩; have hS := hT.step0 hF1; clear hT hF1; (try clear hQ); have hQ := St.facts hS.st; (try simp only [Facts, Res.fact, List.cons_append, List.nil_append, true_and, and_true] at hQ); (try clear hN); have hN := aparts hS.st.apart; (try simp only [Aparts, Apart1, List.cons_append, List.nil_append, true_and, and_true] at hN))
            (try rw [Exit.noGoto_ret])
            go_ret
            refine ⟨_, [], rfl, ?_, ?_, ?_, hS.fr⟩
            · rw [EX.out]; exact Sl.nil _ _ _
            · rw [EX.out]; rfl
            · rw [EX.out]; exact hS.rd
        | some m =>
          have hx : rExprF bs (f + 1) n t = ((rExprF bs f m (rInstr bs t).2).1.map ((rInstr bs t).1 :: ·), (rExprF bs f m (rInstr bs t).2).2) := by
            rw [rExprF, if_neg (by simp [h1]), if_neg h2, hst]
          have EX : Hid (rExprF bs (bs.length + 1 - s.at_) [] s = ((rExprF bs f m (rInstr bs t).2).1.map ((l ++ [(rInstr bs t).1]) ++ ·), (rExprF bs f m (rInstr bs t).2).2)) := Lib.hid (by
            rw [hI.out, hx]
            simp [Option.map_map, Function.comp_def])
          have hml := stepN_len hst
          have Hst := Lib.hid hst
          have l1' : (rInstr bs t).2.at_ ≤ bs.length := by rw [e1]; simpa using l1
          clear hx hI h2 hst e1
          rcases q with q2 | ⟨q2, q3⟩
          all_goals
            go_wp2_with first | (refine st_load (ty := 81) rfl rfl rfl und_ins rfl ?_; (repeat (apply Exists.intro)); refine ⟨?_, ?_, ?_, ?_⟩; (· apply RSt.st; (repeat (first | (with_reducible assumption) | (with_reducible apply RSt.alloc) | (with_reducible apply RSt.drew) | (with_reducible apply RSt.drewN) | (with_reducible apply RSt.set) | (with_reducible exact Pick.here) | (with_reducible apply Pick.there)))); (· (try simp only [World.size_alloc, World.size_setCell, size_drew, size_drewN]); apply RowAt.loc; ((try simp only [World.size_alloc, World.size_setCell, size_drew, size_drewN]); first | ((repeat (first | (with_reducible exact Pick.here) | (with_reducible apply Pick.there))); done) | (repeat (first | (exact Pick.here) | (with_reducible apply Pick.there))))); (· exact size_ins)) | (refine wpList_oneI rfl rfl rfl ?_) | (refine rst_store (ty := 81) rfl rfl rfl rfl ?_; (repeat (apply Exists.intro)); refine ⟨?_, ?_, ?_, ?_, ?_, ?_⟩; (· (repeat (first | (with_reducible assumption) | (with_reducible apply RSt.alloc) | (with_reducible apply RSt.drew) | (with_reducible apply RSt.drewN) | (with_reducible apply RSt.set) | (with_reducible exact Pick.here) | (with_reducible apply Pick.there)))); (· (try simp only [World.size_alloc, World.size_setCell, size_drew, size_drewN]); ((try simp only [World.size_alloc, World.size_setCell, size_drew, size_drewN]); first | ((repeat (first | (with_reducible exact Pick.here) | (with_reducible apply Pick.there))); done) | (repeat (first | (exact Pick.here) | (with_reducible apply Pick.there))))); (· rfl); (· exact size_ins); (· simp [insC, Value.oneCell']); intro wN hS hFN; (try clear hQ); have hQ := St.facts hS.st; (try simp only [Facts, Res.fact, List.cons_append, List.nil_append, true_and, and_true] at hQ); (try clear hN); have hN := aparts hS.st.apart; (try simp only [Aparts, Apart1, List.cons_append, List.nil_append, true_and, and_true] at hN)) | (go_at_call 22; refine rst_use ?_; (repeat (apply Exists.intro)); refine ⟨?_, ?_⟩; (· (repeat (first | (with_reducible assumption) | (with_reducible apply RSt.alloc) | (with_reducible apply RSt.drew) | (with_reducible apply RSt.drewN) | (with_reducible apply RSt.set) | (with_reducible exact Pick.here) | (with_reducible apply Pick.there)))); (try simp only [World.size_alloc, World.size_setCell, size_drew, size_drewN]); intro hT; refine (rd_at hT.rd).mono ?_; rintro e w1 ⟨rfl, rfl⟩; clear hT) | (go_at_call 85; refine rst_use ?_; (repeat (apply Exists.intro)); refine ⟨?_, ?_⟩; (· (repeat (first | (with_reducible assumption) | (with_reducible apply RSt.alloc) | (with_reducible apply RSt.drew) | (with_reducible apply RSt.drewN) | (with_reducible apply RSt.set) | (with_reducible exact Pick.here) | (with_reducible apply Pick.there)))); (try simp only [World.size_alloc, World.size_setCell, size_drew, size_drewN]); intro hT; refine (ib_instr hT.rd (hT.gl7' hg)).mono ?_; rintro e w1 ⟨tv, lv, cv, rfl, hX⟩; have hO1 : Own [] _ _ _ _ _ _ := hX.st.head; have hO2 : Own [] _ _ _ _ _ _ := hX.st.tail.head; have hO3 : Own [] _ _ _ _ _ _ := hX.st.tail.tail.head; obtain ⟨ta, tc, rfl, _, _⟩ := Own.shape hO1; obtain ⟨la, lc, rfl, _, _⟩ := Own.shape hO2; obtain ⟨ca, cc, rfl, _, _⟩ := Own.shape hO3; have hS := hT.join hX; simp only [insG, List.cons_append, List.nil_append] at hS; clear hT hX hO1 hO2 hO3; (try clear hQ); have hQ := St.facts hS.st; (try simp only [Facts, Res.fact, List.cons_append, List.nil_append, true_and, and_true] at hQ); (try clear hN); have hN := aparts hS.st.apart; (try simp only [Aparts, Apart1, List.cons_append, List.nil_append, true_and, and_true] at hN)) | (go_at_call 86; refine rst_use ?_; (repeat (apply Exists.intro)); refine ⟨?_, ?_⟩; (· (repeat (first | (with_reducible assumption) | (with_reducible apply RSt.alloc) | (with_reducible apply RSt.drew) | (with_reducible apply RSt.drewN) | (with_reducible apply RSt.set) | (with_reducible exact Pick.here) | (with_reducible apply Pick.there)))); (try simp only [World.size_alloc, World.size_setCell, size_drew, size_drewN]); intro hT; refine (ib_failed hT.rd).mono ?_; rintro e w1 ⟨rfl, hR1, hF1⟩; have hS := hT.call hR1 hF1; clear hT hR1 hF1; (try clear hQ); have hQ := St.facts hS.st; (try simp only [Facts, Res.fact, List.cons_append, List.nil_append, true_and, and_true] at hQ); (try clear hN); have hN := aparts hS.st.apart; (try simp only [Aparts, Apart1, List.cons_append, List.nil_append, true_and, and_true] at hN)) | (go_at_call 11; refine rst_use ?_; (repeat (apply Exists.intro)); refine ⟨?_, ?_⟩; (· (repeat (first | (with_reducible assumption) | (with_reducible apply RSt.alloc) | (with_reducible apply RSt.drew) | (with_reducible apply RSt.drewN) | (with_reducible apply RSt.set) | (with_reducible exact Pick.here) | (with_reducible apply Pick.there)))); (try simp only [World.size_alloc, World.size_setCell, size_drew, size_drewN]); intro hT; refine (rd_fail hT.rd _ _).mono ?_; rintro e w1 ⟨rfl, hR1, hF1⟩; have hS := hT.call hR1 hF1; clear hT hR1 hF1; (try clear hQ); have hQ := St.facts hS.st; (try simp only [Facts, Res.fact, List.cons_append, List.nil_append, true_and, and_true] at hQ); (try clear hN); have hN := aparts hS.st.apart; (try simp only [Aparts, Apart1, List.cons_append, List.nil_append, true_and, and_true] at hN)) | (at_builtin; refine rapp_ins rfl rfl rfl rfl ?_; (repeat (apply Exists.intro)); refine ⟨?_, ?_, ?_, ?_, ?_⟩; (· (repeat (first | (with_reducible assumption) | (with_reducible apply RSt.alloc) | (with_reducible apply RSt.drew) | (with_reducible apply RSt.drewN) | (with_reducible apply RSt.set) | (with_reducible exact Pick.here) | (with_reducible apply Pick.there)))); (· (try simp only [World.size_alloc, World.size_setCell, size_drew, size_drewN]); apply DstT.own; ((try simp only [World.size_alloc, World.size_setCell, size_drew, size_drewN]); first | ((repeat (first | (with_reducible exact Pick.here) | (with_reducible apply Pick.there))); done) | (repeat (first | (exact Pick.here) | (with_reducible apply Pick.there))))); (· (try simp only [World.size_alloc, World.size_setCell, size_drew, size_drewN]); apply SrcT.lit; (· ((try simp only [World.size_alloc, World.size_setCell, size_drew, size_drewN]); first | ((repeat (first | (with_reducible exact Pick.here) | (with_reducible apply Pick.there))); done) | (repeat (first | (exact Pick.here) | (with_reducible apply Pick.there))))); (· rfl); (· simp [insC, Value.oneCell'])); (· omega); intro vN wN hS; (try clear hQ); have hQ := St.facts hS.st; (try simp only [Facts, Res.fact, List.cons_append, List.nil_append, true_and, and_true] at hQ); (try clear hN); have hN := aparts hS.st.apart; (try simp only [Aparts, Apart1, List.cons_append, List.nil_append, true_and, and_true] at hN)) | (go_at_call 84; refine rst_use ?_; (repeat (apply Exists.intro)); refine ⟨?_, ?_⟩; (· (repeat (first | (with_reducible assumption) | (with_reducible apply RSt.alloc) | (with_reducible apply RSt.drew) | (with_reducible apply RSt.drewN) | (with_reducible apply RSt.set) | (with_reducible exact Pick.here) | (with_reducible apply Pick.there)))); (try simp only [World.size_alloc, World.size_setCell, size_drew, size_drewN]); intro hT; refine (step_yesR (n := n) ((hT.pick (r := .own 4 1 ((.slice a0 n.length c0)) (n).length (nestC (n))) (by ((try simp only [World.size_alloc, World.size_setCell, size_drew, size_drewN]); first | ((repeat (first | (with_reducible exact Pick.here) | (with_reducible apply Pick.there))); done) | (repeat (first | (exact Pick.here) | (with_reducible apply Pick.there)))))).pick (r := .loc w.heap.size [.slice a0 n.length c0] 125) (by ((try simp only [World.size_alloc, World.size_setCell, size_drew, size_drewN]); first | ((repeat (first | (with_reducible exact Pick.here) | (with_reducible apply Pick.there))); done) | (repeat (first | (exact Pick.here) | (with_reducible apply Pick.there)))))) (by omega) Hst.out).mono ?_; rintro e w1 ⟨nv', rfl, hS⟩; clear hT; (try clear hQ); have hQ := St.facts hS.st; (try simp only [Facts, Res.fact, List.cons_append, List.nil_append, true_and, and_true] at hQ); (try clear hN); have hN := aparts hS.st.apart; (try simp only [Aparts, Apart1, List.cons_append, List.nil_append, true_and, and_true] at hN))
            go_roundw
            case rel =>
              refine ⟨l ++ [(rInstr bs t).1], cs ++ insC (rInstr bs t).1 (.slice ta (rInstr bs t).1.types.length tc) (.slice la (rInstr bs t).1.labels.length lc) (.slice ca (rInstr bs t).1.catches.length cc), m, nv', (rInstr bs t).2, f, insG (rInstr bs t).1 (.slice ta (rInstr bs t).1.types.length tc) (.slice la (rInstr bs t).1.labels.length lc) (.slice ca (rInstr bs t).1.catches.length cc) ++ D, ?_, InssD.snoc (fun r hr => List.mem_append_left _ hr) (hD.mono fun r hr => List.mem_append_right _ hr), h1, by simp; omega, by simp; omega, by omega, EX⟩
              have e1 : (l ++ [(rInstr bs t).1]).length = l.length + 1 := by simp
              rw [e1]
              simp only [insG, List.cons_append, List.nil_append]
              exact hS.sel (by ((try simp only [World.size_alloc, World.size_setCell, size_drew, size_drewN]); repeat (first | (with_reducible exact Sel.all) | (with_reducible exact Sel.nil) | (apply Sel.cons; (· ((try simp only [World.size_alloc, World.size_setCell, size_drew, size_drewN]); first | ((repeat (first | (with_reducible exact Pick.here) | (with_reducible apply Pick.there))); done) | (repeat (first | (exact Pick.here) | (with_reducible apply Pick.there)))); done)) | (apply Sel.skip))))
            case measure =>
              rw [hS.atOf, hatw]
              omega
    · have q1 : ((rInstr bs t).2.err != 0) = true := by simp [h1]
      have hx : rExprF bs (f + 1) n t = (none, (rInstr bs t).2) := by
        unfold rExprF
        rw [if_pos h1]
      have EX : Hid (rExpr bs s = ([], (rInstr bs t).2)) := Lib.hid (by unfold rExpr; rw [hI.out, hx]; simp)
      clear hx hI h1
      go_wp2_with first | (refine st_load (ty := 81) rfl rfl rfl und_ins rfl ?_; (repeat (apply Exists.intro)); refine ⟨?_, ?_, ?_, ?_⟩; (· apply RSt.st; (repeat (first | (with_reducible assumption) | (with_reducible apply RSt.alloc) | (with_reducible apply RSt.drew) | (with_reducible apply RSt.drewN) | (with_reducible apply RSt.set) | (with_reducible exact Pick.here) | (with_reducible apply Pick.there)))); (· (try simp only [World.size_alloc, World.size_setCell, size_drew, size_drewN]); apply RowAt.loc; ((try simp only [World.size_alloc, World.size_setCell, size_drew, size_drewN]); first | ((repeat (first | (with_reducible exact Pick.here) | (with_reducible apply Pick.there))); done) | (repeat (first | (exact Pick.here) | (with_reducible apply Pick.there))))); (· exact size_ins)) | (refine wpList_oneI rfl rfl rfl ?_) | (refine rst_store (ty := 81) rfl rfl rfl rfl ?_; (repeat (apply Exists.intro)); refine ⟨?_, ?_, ?_, ?_, ?_, ?_⟩; (· (repeat (first | (with_reducible assumption) | (with_reducible apply RSt.alloc) | (with_reducible apply RSt.drew) | (with_reducible apply RSt.drewN) | (with_reducible apply RSt.set) | (with_reducible exact Pick.here) | (with_reducible apply Pick.there)))); (· (try simp only [World.size_alloc, World.size_setCell, size_drew, size_drewN]); ((try simp only [World.size_alloc, World.size_setCell, size_drew, size_drewN]); first | ((repeat (first | (with_reducible exact Pick.here) | (with_reducible apply Pick.there))); done) | (repeat (first | (exact Pick.here) | (with_reducible apply Pick.there))))); (· rfl); (· exact size_ins); (· simp [insC, Value.oneCell']); intro wN hS hFN; (try clear hQ); have hQ := St.facts hS.st; (try simp only [Facts, Res.fact, List.cons_append, List.nil_append, true_and, and_true] at hQ); (try clear hN); have hN := aparts hS.st.apart; (try simp only [Aparts, Apart1, List.cons_append, List.nil_append, true_and, and_true] at hN)) | (go_at_call 22; refine rst_use ?_; (repeat (apply Exists.intro)); refine ⟨?_, ?_⟩; (· (repeat (first | (with_reducible assumption) | (with_reducible apply RSt.alloc) | (with_reducible apply RSt.drew) | (with_reducible apply RSt.drewN) | (with_reducible apply RSt.set) | (with_reducible exact Pick.here) | (with_reducible apply Pick.there)))); (try simp only [World.size_alloc, World.size_setCell, size_drew, size_drewN]); intro hT; refine (rd_at hT.rd).mono ?_; rintro e w1 ⟨rfl, rfl⟩; clear hT) | (go_at_call 85; refine rst_use ?_; (repeat (apply Exists.intro)); refine ⟨?_, ?_⟩; (· (repeat (first | (with_reducible assumption) | (with_reducible apply RSt.alloc) | (with_reducible apply RSt.drew) | (with_reducible apply RSt.drewN) | (with_reducible apply RSt.set) | (with_reducible exact Pick.here) | (with_reducible apply Pick.there)))); (try simp only [World.size_alloc, World.size_setCell, size_drew, size_drewN]); intro hT; refine (ib_instr hT.rd (hT.gl7' hg)).mono ?_; rintro e w1 ⟨tv, lv, cv, rfl, hX⟩; have hO1 : Own [] _ _ _ _ _ _ := hX.st.head; have hO2 : Own [] _ _ _ _ _ _ := hX.st.tail.head; have hO3 : Own [] _ _ _ _ _ _ := hX.st.tail.tail.head; obtain ⟨ta, tc, rfl, _, _⟩ := Own.shape hO1; obtain ⟨la, lc, rfl, _, _⟩ := Own.shape hO2; obtain ⟨ca, cc, rfl, _, _⟩ := Own.shape hO3; have hS := hT.join hX; simp only [insG, List.cons_append, List.nil_append] at hS; clear hT hX hO1 hO2 hO3; (try clear hQ); have hQ := St.facts hS.st; (try simp only [Facts, Res.fact, List.cons_append, List.nil_append, true_and, and_true] at hQ); (try clear hN); have hN := aparts hS.st.apart; (try simp only [Aparts, Apart1, List.cons_append, List.nil_append, true_and, and_true] at hN)) | (go_at_call 86; refine rst_use ?_; (repeat (apply Exists.intro)); refine ⟨?_, ?_⟩; (· (repeat (first | (with_reducible assumption) | (with_reducible apply RSt.alloc) | (with_reducible apply RSt.drew) | (with_reducible apply RSt.drewN) | (with_reducible apply RSt.set) | (with_reducible exact Pick.here) | (with_reducible apply Pick.there)))); (try simp only [World.size_alloc, World.size_setCell, size_drew, size_drewN]); intro hT; refine (ib_failed hT.rd).mono ?_; rintro e w1 ⟨rfl, hR1, hF1⟩; have hS := hT.call hR1 hF1; clear hT hR1 hF1; (try clear hQ); have hQ := St.facts hS.st; (try simp only [Facts, Res.fact, List.cons_append, List.nil_append, true_and, and_true] at hQ); (try clear hN); have hN := aparts hS.st.apart; (try simp only [Aparts, Apart1, List.cons_append, List.nil_append, true_and, and_true] at hN)) | (go_at_call 11; refine rst_use ?_; (repeat (apply Exists.intro)); refine ⟨?_, ?_⟩; (· (repeat (first | (with_reducible assumption) | (with_reducible apply RSt.alloc) | (with_reducible apply RSt.drew) | (with_reducible apply RSt.drewN) | (with_reducible apply RSt.set) | (with_reducible exact Pick.here) | (with_reducible apply Pick.there)))); (try simp only [World.size_alloc, World.size_setCell, size_drew, size_drewN]); intro hT; refine (rd_fail hT.rd _ _).mono ?_; rintro e w1 ⟨rfl, hR1, hF1⟩; have hS := hT.call hR1 hF1; clear hT hR1 hF1; (try clear hQ); have hQ := St.facts hS.st; (try simp only [Facts, Res.fact, List.cons_append, List.nil_append, true_and, and_true] at hQ); (try clear hN); have hN := aparts hS.st.apart; (try simp only [Aparts, Apart1, List.cons_append, List.nil_append, true_and, and_true] at hN)) | (at_builtin; refine rapp_ins rfl rfl rfl rfl ?_; (repeat (apply Exists.intro)); refine ⟨?_, ?_, ?_, ?_, ?_⟩; (· (repeat (first | (with_reducible assumption) | (with_reducible apply RSt.alloc) | (with_reducible apply RSt.drew) | (with_reducible apply RSt.drewN) | (with_reducible apply RSt.set) | (with_reducible exact Pick.here) | (with_reducible apply Pick.there)))); (· (try simp only [World.size_alloc, World.size_setCell, size_drew, size_drewN]); apply DstT.own; ((try simp only [World.size_alloc, World.size_setCell, size_drew, size_drewN]); first | ((repeat (first | (with_reducible exact Pick.here) | (with_reducible apply Pick.there))); done) | (repeat (first | (exact Pick.here) | (with_reducible apply Pick.there))))); (· (try simp only [World.size_alloc, World.size_setCell, size_drew, size_drewN]); apply SrcT.lit; (· ((try simp only [World.size_alloc, World.size_setCell, size_drew, size_drewN]); first | ((repeat (first | (with_reducible exact Pick.here) | (with_reducible apply Pick.there))); done) | (repeat (first | (exact Pick.here) | (with_reducible apply Pick.there))))); (· rfl); (· simp [insC, Value.oneCell'])); (· omega); intro vN wN hS; (try clear hQ); have hQ := St.facts hS.st; (try simp only [Facts, Res.fact, List.cons_append, List.nil_append, true_and, and_true] at hQ); (try clear hN); have hN := aparts hS.st.apart; (try simp only [Aparts, Apart1, List.cons_append, List.nil_append, true_and, and_true] at hN))
      (try rw [Exit.noGoto_ret])
      go_ret
      refine ⟨_, [], rfl, ?_, ?_, ?_, hS.fr⟩
      · rw [EX.out]; exact Sl.nil _ _ _
      · rw [EX.out]; rfl
      · rw [EX.out]; exact hS.rd
end Go.Proofs.YtokneepfknepaaaDoor

set_option linter.unusedSimpArgs false
set_option linter.unusedVariables false
namespace Go.Proofs.YtokneepfknepaaaDoor
open Go.RowKit

def l1 : List InstrT := [{ InstrT.of 65 with u := 4294967295 }, InstrT.of 26]
def l2 : List InstrT := [{ InstrT.of 40 with x := 2, y := 1, u := 16 }]
theorem q1 : rExpr [65, 127, 26, 11] rOpen = (l1, ⟨4, 0, 0⟩) := by decide +kernel
theorem q2 : rExpr [40, 66, 1, 16, 11] rOpen = (l2, ⟨5, 0, 0⟩) := by decide +kernel
theorem q3 : (rExpr [2, 65] rOpen).1 = [] ∧ (rExpr [2, 65] rOpen).2.err = 60 ∧ (rExpr [2, 65] rOpen).2.errAt = 1 := by decide +kernel
theorem q4 : (rExpr [67, 0] rOpen).2.err = 61 := by decide +kernel
theorem q5 : pExpr l1 = [65, 127, 26, 11] := by decide +kernel
theorem Gl7.opened {w w1 : World} {rb : Nat} (h : Gl7 [] w) (hF : Fr [] w w1) (hn : w.heap.size ≤ rb) : Gl7 [rb] w1 := by
  have h1 := h.sub (S' := [rb]) (fun b hb hm => by
    obtain rfl := List.mem_singleton.1 hm
    omega)
  exact h1.fr hF (by simp)

theorem und_str7 : Tryd.prog.underlying 9 = some .string := by kernel_rfl
theorem und_byte7 : Tryd.prog.underlying 5 = some (.int .u8) := by kernel_rfl
/-- Bytes as a string. -/
theorem Out.conv7 {w : World} {v : Value} {X : List UInt8} (h : Out w v X) : (convert 26 9 v).run Tryd.prog w = .ok (.string ⟨X.toArray⟩) w := by
  obtain ⟨h1, h2, h3⟩ := h
  rcases h3 with ⟨rfl, h0⟩ | ⟨g, cap, cur, rfl, hg, hh, h4, h5, h6, h7⟩
  · have : X = [] := List.length_eq_zero_iff.1 h0
    subst this
    rw [run_convert_bytes_string w _ _ _ _ _ _ und_bytes und_byte7 und_str7]
    rfl
  · refine run_convert_bytes_back w _ _ _ ⟨g, 0, none⟩ cap X und_bytes und_byte7 und_str7 (fun j hj => ?_)
    have hadd : (⟨g, 0, none⟩ : Addr).add j = ⟨g, j, none⟩ := by unfold Addr.add; split <;> simp_all
    rw [hadd, cell_of_row w g j cur _ (0, 0) hh]
    have h8 := congrArg (fun l => l[j]?) h7
    simp only [List.getElem?_take, List.getElem?_map] at h8
    rw [if_pos (by omega)] at h8
    simp only [Array.getElem?_toList] at h8
    rw [h8, List.getElem?_eq_getElem hj]
    rfl
theorem St.conv7 {S : List Nat} {w0 w : World} {G G' : List Res} {v : Value} {X : List UInt8} (h : St S w0 w G) (p : Pick G (.own 5 1 (v) (X).length ((X).map B)) G') : (convert 26 9 v).run Tryd.prog w = .ok (.string ⟨X.toArray⟩) w :=
  Out.conv7 (h.outOf p)

theorem new7 {a rb : Nat} (h : a ≤ rb) : ∀ k, k ∈ [rb] → k ∈ ([] : List Nat) ∨ a ≤ k := by intro k hk; simp at hk; subst hk; exact .inr h
/-- Are instructions more than a statement looks at? -/
def greatI (i : InstrT) : Bool := decide (60 < i.types.length) || decide (60 < i.labels.length) || decide (60 < i.catches.length)
def greatL (l : List InstrT) : Bool := decide (120 < l.length) || l.any greatI
set_option maxRecDepth 100000 in
set_option maxHeartbeats 1600000 in
theorem great7 (w : World) (v : Value) (is : List InstrT) (ds : List Value) (h : Sl [] w 19 v is.length ds) (hs : InssR [] w is ds) :
    Calls Tryd.prog 39 #[v] w fun e w' => e = .returned (.bool (greatL is)) ∧ Fr [] w w' := by
  have hh := h
  obtain ⟨a, cap, rfl⟩ := h.shape
  by_cases h1 : 120 < is.length
  · have e : greatL is = true := by unfold greatL; rw [decide_eq_true h1]; rfl
    rw [e]
    have i1 : (120 : Int) < (is.length : Int) := by omega
    go_enter Tryd.func39, Tryd.ntmps39
    go_wp2
    go_ret
    exact ⟨rfl, Fr.refl _ _⟩
  · have i1 : ¬ (120 : Int) < (is.length : Int) := by omega
    have e : greatL is = is.any greatI := by unfold greatL; rw [decide_eq_false h1]; rfl
    rw [e]
    clear e
    go_enter Tryd.func39, Tryd.ntmps39
    go_wp2
    go_loopw [3] (fun n wr => ∃ (k : Nat), n = .int .i64 k ∧ k ≤ is.length ∧ Fr [] w wr ∧ Hid (is.any greatI = (is.drop k).any greatI)) (fun n _ => is.length - (intOf n).toNat)
    case atStart => exact ⟨0, rfl, by omega, Fr.refl _ _, Lib.hid rfl⟩
    case round =>
      obtain ⟨k, rfl, hk, hF, hI⟩ := hrel
      by_cases hlt : k < is.length
      · obtain ⟨i, hi⟩ : ∃ t, is[k]? = some t := ⟨is[k], by simp [hlt]⟩
        obtain ⟨b, off, cap2, tv, lv, cv, hv, hb, hnS, hR, hc⟩ := Sl.ins_elem hh hs k i hi
        injection hv with hv1 hv2 hv3
        subst hv1 hv3
        have hd := drop_one is k i hi
        obtain ⟨ta, tc, rfl⟩ := hR.1.shape
        obtain ⟨la, lc, rfl⟩ := hR.2.1.shape
        obtain ⟨ca, cc, rfl⟩ := hR.2.2.shape
        have f10 := (hF.cell hb (by simp) _).trans (hc 10 (by decide))
        have f11 := (hF.cell hb (by simp) _).trans (hc 11 (by decide))
        have f18 := (hF.cell hb (by simp) _).trans (hc 18 (by decide))
        simp only [← Nat.add_assoc, insC, List.getElem?_cons_zero, List.getElem?_cons_succ] at f10 f11 f18
        have hbw : b < wr.heap.size := Nat.lt_of_lt_of_le hb hF.size
        have i2 : (k : Int) < (is.length : Int) := by omega
        cases hg : greatI i with
        | true =>
          have e : is.any greatI = true := by rw [hI.out, hd]; simp [hg]
          have E := Lib.hid e
          have q : 60 < i.types.length ∨ (¬ 60 < i.types.length ∧ 60 < i.labels.length) ∨ (¬ 60 < i.types.length ∧ ¬ 60 < i.labels.length ∧ 60 < i.catches.length) := by
            unfold greatI at hg
            simp only [Bool.or_eq_true, decide_eq_true_eq] at hg
            omega
          clear e hg hd hc hI
          rcases q with q1 | ⟨q1, q2⟩ | ⟨q1, q2, q3⟩
          · have j1 : (60 : Int) < (i.types.length : Int) := by omega
            go_wp2
            go_ret
            exact ⟨by rw [E.out]; rfl, hF⟩
          · have j1 : ¬ (60 : Int) < (i.types.length : Int) := by omega
            have j2 : (60 : Int) < (i.labels.length : Int) := by omega
            go_wp2
            go_ret
            exact ⟨by rw [E.out]; rfl, hF⟩
          · have j1 : ¬ (60 : Int) < (i.types.length : Int) := by omega
            have j2 : ¬ (60 : Int) < (i.labels.length : Int) := by omega
            have j3 : (60 : Int) < (i.catches.length : Int) := by omega
            go_wp2
            go_ret
            exact ⟨by rw [E.out]; rfl, hF⟩
        | false =>
          have e : is.any greatI = (is.drop (k + 1)).any greatI := by rw [hI.out, hd]; simp [hg]
          have E := Lib.hid e
          unfold greatI at hg
          simp only [Bool.or_eq_false_iff, decide_eq_false_iff_not] at hg
          obtain ⟨⟨q1, q2⟩, q3⟩ := hg
          have j1 : ¬ (60 : Int) < (i.types.length : Int) := by omega
          have j2 : ¬ (60 : Int) < (i.labels.length : Int) := by omega
          have j3 : ¬ (60 : Int) < (i.catches.length : Int) := by omega
          clear e hd hc hI q1 q2 q3
          go_wp2
          go_roundw
          case rel => exact ⟨k + 1, by go_num, by omega, hF, E⟩
          case measure => simp [intOf]; omega
      · obtain rfl : k = is.length := by omega
        have e : is.any greatI = false := by rw [hI.out]; simp
        have E := Lib.hid e
        clear e hI
        go_wp2
        go_ret
        exact ⟨by rw [E.out]; rfl, hF⟩

set_option maxRecDepth 100000 in
set_option maxHeartbeats 3200000 in
theorem known7 (hM : MayOk) {w : World} (hg : Gl7 [] w) : Calls Tryd.prog 38 #[] w fun e w' => e = .returned (.bool true) ∧ Fr [] w w' := by
  have s1 := sl_lit w rfl [65, 127, 26, 11] [] (by simp) (by decide)
  have g1 := hg.gl.alloc (.cells ([65, 127, 26, 11].map B).toArray 5)
  go_enter Tryd.func38, Tryd.ntmps38
  go_wp2_with first | (go_at_call 27; refine (open_any s1 g1 (by decide)).mono ?_; rintro e w1 ⟨rb1, v1, rfl, hR1, hN1, hF1⟩) | fail
  have f1 : Fr [] w w1 := Fr.trans ((Fr.refl [] w).alloc _) hF1
  have n1 : w.heap.size ≤ rb1 := by simp at hN1; omega
  have c2 := ib_expr hR1 (hg.opened f1 n1) rfl (by decide)
  rw [q1] at c2
  go_wp2_with first | (go_at_call 42; refine c2.mono ?_; rintro e w2 ⟨x2, cs2, rfl, hS2, hI2, hR2, hF2⟩) | fail
  have f2 : Fr [] w w2 := f1.then hF2 (new7 n1)
  have s3 := sl_lit w2 rfl [40, 66, 1, 16, 11] [] (by simp) (by decide)
  have g3 := (hg.fr f2 (by simp)).gl.alloc (.cells ([40, 66, 1, 16, 11].map B).toArray 5)
  go_wp2_with first | (go_at_call 27; refine (open_any s3 g3 (by decide)).mono ?_; rintro e w3 ⟨rb3, v3, rfl, hR3, hN3, hF3⟩) | fail
  have t3 : Fr [] w2 w3 := Fr.trans ((Fr.refl [] w2).alloc _) hF3
  have f3 := f2.trans t3
  have n3 : w2.heap.size ≤ rb3 := by simp at hN3; omega
  have c4 := ib_expr hR3 (hg.opened f3 (Nat.le_trans f2.size n3)) rfl (by decide)
  rw [q2] at c4
  go_wp2_with first | (go_at_call 42; refine c4.mono ?_; rintro e w4 ⟨x4, cs4, rfl, hS4, hI4, hR4, hF4⟩) | fail
  have t4 : Fr [] w2 w4 := t3.then hF4 (new7 n3)
  have f4 := f2.trans t4
  have s5 := sl_lit w4 rfl [2, 65] [] (by simp) (by decide)
  have g5 := (hg.fr f4 (by simp)).gl.alloc (.cells ([2, 65].map B).toArray 5)
  go_wp2_with first | (go_at_call 27; refine (open_any s5 g5 (by decide)).mono ?_; rintro e w5 ⟨rb5, v5, rfl, hR5, hN5, hF5⟩) | fail
  have t5 : Fr [] w4 w5 := Fr.trans ((Fr.refl [] w4).alloc _) hF5
  have n5 : w4.heap.size ≤ rb5 := by simp at hN5; omega
  have f5 := f4.trans t5
  have c6 := ib_expr hR5 (hg.opened f5 (Nat.le_trans f4.size n5)) rfl (by decide)
  obtain ⟨e1, e2, e3⟩ := q3
  generalize rExpr [2, 65] rOpen = p6 at c6 e1 e2 e3
  obtain ⟨l6, s6⟩ := p6
  simp only at e1 e2 e3
  subst e1
  go_wp2_with first | (go_at_call 42; refine c6.mono ?_; rintro e w6 ⟨x6, cs6, rfl, hS6, hI6, hR6, hF6⟩) | fail
  have t6 : Fr [] w4 w6 := t5.then hF6 (new7 n5)
  have f6 := f4.trans t6
  obtain ⟨a6, p6, rfl⟩ := hS6.shape
  go_wp2_with first | (go_at_call 24; refine (rd_err hR6).mono ?_; rintro e w' ⟨rfl, nq, rfl⟩) | fail
  have s7 := fun m => (sl_lit w6 rfl [67, 0] [] (by simp) (by decide)).drewN m
  have g7 := fun m => (((hg.fr f6 (by simp)).gl.alloc (.cells ([67, 0].map B).toArray 5)).drewN m)
  go_wp2_with first | (go_at_call 27; refine (open_any (s7 _) (g7 _) (by decide)).mono ?_; rintro e w7 ⟨rb7, v7, rfl, hR7, hN7, hF7⟩) | fail
  have t7 : Fr [] w6 w7 := Fr.trans (by repeat (first | (with_reducible exact Fr.refl _ _) | (with_reducible assumption) | (with_reducible apply Fr.alloc) | (with_reducible apply Fr.drew) | (with_reducible apply Fr.drewN) | (with_reducible refine Fr.setCell ?_ (by first | (left; simp; done) | (right; simp; done) | (right; simp; omega)) _))) hF7
  have n7 : w6.heap.size ≤ rb7 := by simp at hN7; omega
  have f7 := f6.trans t7
  have c8 := ib_expr hR7 (hg.opened f7 (Nat.le_trans f6.size n7)) rfl (by decide)
  have e4 := q4
  generalize rExpr [67, 0] rOpen = p8 at c8 e4
  obtain ⟨l8, s8⟩ := p8
  simp only at e4
  go_wp2_with first | (go_at_call 42; refine c8.mono ?_; rintro e w8 ⟨x8, cs8, rfl, hS8, hI8, hR8, hF8⟩) | fail
  have t8 : Fr [] w6 w8 := t7.then hF8 (new7 n7)
  have f8 := f6.trans t8
  have t28 : Fr [] w2 w8 := t4.trans (t6.trans t8)
  have t48 : Fr [] w4 w8 := t6.trans t8
  have hS2' : Sl [rb1] w2 19 x2 2 cs2 := hS2
  have hS4' : Sl [rb3] w4 19 x4 1 cs4 := hS4
  have hI2' : InssR [rb1] w2 l1 cs2 := hI2
  have hI4' : InssR [rb3] w4 l2 cs4 := hI4
  obtain ⟨b2, o2, m2, tv2, lv2, cv2, hv2, hb2, _, _, hc2⟩ := Sl.ins_elem (is := l1) hS2 hI2' 0 { InstrT.of 65 with u := 4294967295 } rfl
  obtain ⟨b4, o4, m4, tv4, lv4, cv4, hv4, hb4, _, _, hc4⟩ := Sl.ins_elem (is := l2) hS4 hI4' 0 { InstrT.of 40 with x := 2, y := 1, u := 16 } rfl
  have hv2 : x2 = .slice (some ⟨b2, o2, none⟩) 2 m2 := hv2
  have hv4 : x4 = .slice (some ⟨b4, o4, none⟩) 1 m4 := hv4
  subst hv2 hv4
  have k23 := (t28.cell hb2 (by simp) _).trans (hc2 3 (by decide))
  have k41 := (t48.cell hb4 (by simp) _).trans (hc4 1 (by decide))
  have k42 := (t48.cell hb4 (by simp) _).trans (hc4 2 (by decide))
  have k43 := (t48.cell hb4 (by simp) _).trans (hc4 3 (by decide))
  simp only [insC, InstrT.of, List.getElem?_cons_zero, List.getElem?_cons_succ, Nat.zero_mul, Nat.zero_add] at k23 k41 k42 k43
  have hS8 := fun m => ((hS2'.sub (S' := []) (by simp)).fr t28 (by simp)).drewN m
  have hI8 := fun m => InssR.fr ((Fr.refl [] w8).drewN m) (by simp) (InssR.fr t28 (by simp) (InssR.sub (S' := []) (by simp) hI2'))
  have hg8 := fun m => hg.fr (f8.drewN m) (by simp)
  have cP := fun m => Put_any hM (hg8 m) _ l1 cs2 (hS8 m) (hI8 m) (by decide) (by
    intro i hi
    rcases (by simpa [l1] using hi) with rfl | rfl <;> exact ⟨by decide, by decide, by decide, by decide, by decide⟩) (by
    intro i hi
    rcases (by simpa [l1] using hi) with rfl | rfl <;> exact ⟨by decide, by decide, by decide, by decide⟩)
  simp only [q5] at cP
  clear s1 g1 s3 g3 s5 g5 s7 g7 hc2 hc4 c2 c4 c6 c8 hI2 hI4 hS2 hS4 hI8 hS8
  go_wp2_with first | (go_at_call 24; refine (rd_err hR8).mono ?_; rintro e w' ⟨rfl, nq2, rfl⟩) | (go_at_call 40; refine (cP _).mono ?_; rintro e w9 ⟨v9, rfl, s9⟩; have k9 := s9.conv7 (v := v9) Pick.here)
  go_ret
  exact ⟨rfl, (f8.drewN _).trans s9.fr⟩
end Go.Proofs.YtokneepfknepaaaDoor

set_option linter.unusedSimpArgs false
set_option linter.unusedVariables false
namespace Go.Proofs.YtokneepfknepaaaDoor
open Go.RowKit

theorem pExpr_len (is : List InstrT) (hsm : ∀ i, i ∈ is → SmI i) : (pExpr is).length ≤ is.length * 1600000 + 1 := by
  unfold pExpr
  split
  · rename_i h
    rw [Bool.and_eq_true] at h
    have h2 : (is.flatMap pInstr).length ≤ is.length * 1600000 := flat_len7 is fun i hi => pInstr_len (List.all_eq_true.1 h.1 i hi) (hsm i hi)
    simp only [List.length_append, List.length_cons, List.length_nil]
    omega
  · simp
theorem great_no {is : List InstrT} (h : greatL is = false) : is.length ≤ 120 ∧ ∀ i, i ∈ is → i.types.length ≤ 60 ∧ i.labels.length ≤ 60 ∧ i.catches.length ≤ 60 := by
  unfold greatL at h
  rw [Bool.or_eq_false_iff] at h
  obtain ⟨h1, h2⟩ := h
  refine ⟨by simpa using h1, fun i hi => ?_⟩
  have h3 := List.any_eq_false.1 h2 i hi
  unfold greatI at h3
  simp only [Bool.or_eq_true, decide_eq_true_eq] at h3
  omega
theorem great_sm {is : List InstrT} (h : greatL is = false) (hu : ∀ i, i ∈ is → i.u < 18446744073709551616) : (∀ i, i ∈ is → SmI i) ∧ ∀ i, i ∈ is → SmallI i := by
  have h1 := (great_no h).2
  exact ⟨fun i hi => ⟨by have := h1 i hi; omega, by have := h1 i hi; omega, by have := h1 i hi; omega, hu i hi⟩,
    fun i hi => ⟨hu i hi, by have := h1 i hi; omega, by have := h1 i hi; omega, by have := h1 i hi; omega⟩⟩

set_option maxRecDepth 100000 in
set_option maxHeartbeats 3200000 in
theorem ibinCut_any (hM : MayOk) {w : World} (hg : Gl7 [] w) (lv : Value) (is : List InstrT) (ds : List Value) (h : Sl [] w 19 lv is.length ds) (hs : InssR [] w is ds) (hop : ∀ i, i ∈ is → -9223372036854775808 ≤ i.op ∧ i.op < 9223372036854775808) (hu : ∀ i, i ∈ is → i.u < 18446744073709551616) (at_ : Int) :
    Calls Tryd.prog 8 #[lv, .int .i64 at_] w fun e w' => e = .returned (.bool true) ∧ Fr [] w w' := by
  obtain ⟨la, lc, rfl⟩ := h.shape
  cases hgr : greatL is with
  | true =>
    have Hgr := Lib.hid hgr
    clear hgr
    go_enter Tryd.func8, Tryd.ntmps8
    go_wp2_with first | (go_at_call 38; refine (known7 hM hg).mono ?_; rintro e w1 ⟨rfl, hF1⟩) | (go_at_call 39; refine (great7 _ _ is ds (h.fr hF1 (by simp)) (InssR.fr hF1 (by simp) hs)).mono ?_; rintro e w2 ⟨rfl, hF2⟩; rw [Hgr.out]; have f2 := hF1.trans hF2)
    go_ret
    exact ⟨rfl, f2⟩
  | false =>
    have Hgr := Lib.hid hgr
    obtain ⟨hsm, hS4⟩ := great_sm hgr hu
    have h120 := (great_no hgr).1
    have hwf : ∀ i, i ∈ is → WfI i := fun i hi => by
      have h1 := (great_no hgr).2 i hi
      exact ⟨(hop i hi).1, (hop i hi).2, by omega, by omega, by omega⟩
    have hl : is.length ≤ 65536 := by omega
    have hpl := pExpr_len is hsm
    clear hgr
    by_cases p1 : at_ < 0
    · go_enter Tryd.func8, Tryd.ntmps8
      go_wp2_with first | (go_at_call 38; refine (known7 hM hg).mono ?_; rintro e w1 ⟨rfl, hF1⟩) | (go_at_call 39; refine (great7 _ _ is ds (h.fr hF1 (by simp)) (InssR.fr hF1 (by simp) hs)).mono ?_; rintro e w2 ⟨rfl, hF2⟩; rw [Hgr.out]; have f2 := hF1.trans hF2) | (go_at_call 40; refine (Put_any hM (hg.fr f2 (by simp)) _ is ds (h.fr f2 (by simp)) (InssR.fr f2 (by simp) hs) hl hwf hsm).mono ?_; rintro e w3 ⟨v3, rfl, s3⟩; have ho3 : Own [] _ _ _ _ _ _ := s3.head; obtain ⟨va, vc, rfl, hvc1, hvc2⟩ := Own.shape ho3; have f3 := f2.trans s3.fr)
      go_ret
      exact ⟨rfl, f3⟩
    · obtain ⟨c, rfl⟩ := Int.eq_ofNat_of_zero_le (Int.not_lt.1 p1)
      by_cases p2 : c < (pExpr is).length
      · have p2i : ¬ (((pExpr is).length : Nat) : Int) ≤ (c : Int) := by omega
        have hlaw := rExpr_cut hS4 p2
        have hcl : (((pExpr is).map B).take c) = ((pExpr is).take c).map B := by simp
        have hcn : c = ((pExpr is).take c).length := by rw [List.length_take]; omega
        have hbl : ((pExpr is).take c).length ≤ 1099511627776 := by rw [List.length_take]; omega
        have hb38 : ((pExpr is).take c).length ≤ 274877906944 := by rw [List.length_take]; omega
        generalize hbs : (pExpr is).take c = bs at hlaw hcl hcn hbl hb38
        clear hbs
        have Hlaw := Lib.hid hlaw
        have Hcl := Lib.hid hcl
        have Hcn := Lib.hid hcn
        clear hlaw hcl hcn p1
        have hmk : ∀ (w2 : World) (a : Option Addr) (cp : Nat), Sl [] w2 1 (.slice a (pExpr is).length cp) (pExpr is).length ((pExpr is).map B) → Sl [] w2 1 (.slice a c cp) bs.length (bs.map B) := by
          intro w2 a cp hsl
          have := hsl.take (Nat.le_of_lt p2)
          rw [Hcl.out] at this
          rw [← Hcn.out]
          exact this
        go_enter Tryd.func8, Tryd.ntmps8
        go_wp2_with first | (go_at_call 38; refine (known7 hM hg).mono ?_; rintro e w1 ⟨rfl, hF1⟩) | (go_at_call 39; refine (great7 _ _ is ds (h.fr hF1 (by simp)) (InssR.fr hF1 (by simp) hs)).mono ?_; rintro e w2 ⟨rfl, hF2⟩; rw [Hgr.out]; have f2 := hF1.trans hF2) | (go_at_call 40; refine (Put_any hM (hg.fr f2 (by simp)) _ is ds (h.fr f2 (by simp)) (InssR.fr f2 (by simp) hs) hl hwf hsm).mono ?_; rintro e w3 ⟨v3, rfl, s3⟩; have ho3 : Own [] _ _ _ _ _ _ := s3.head; obtain ⟨va, vc, rfl, hvc1, hvc2⟩ := Own.shape ho3; have f3 := f2.trans s3.fr) | (go_at_call 27; refine (open_any (hmk _ _ _ (Own.sl ho3 (S' := []) (by simp))) (hg.fr f3 (by simp)).gl hbl).mono ?_; rintro e w4 ⟨rb4, v4, rfl, hR4, hN4, hF4⟩) | fail
        have f4 := f3.trans hF4
        have n4 := Nat.le_trans f3.size hN4
        have c5 := ib_expr hR4 (hg.opened f4 n4) rfl hb38
        have hlaw := Hlaw.out
        generalize rExpr bs rOpen = q at c5 hlaw
        obtain ⟨ql, qs⟩ := q
        simp only at c5 hlaw
        obtain ⟨rfl, h1⟩ := hlaw
        have hC5 := Lib.hid c5
        clear c5
        have Hz := Lib.hid h1
        clear h1
        go_wp2_with first | (go_at_call 42; refine hC5.out.mono ?_; rintro e w5 ⟨v5, cs5, rfl, hS5, hI5, hR5, hF5⟩; obtain ⟨a5, c5, rfl⟩ := hS5.shape) | (go_at_call 24; refine (rd_err hR5).mono ?_; rintro e w' ⟨rfl, nq, rfl⟩; rw [Hz.out])
        have f5 : Fr [] w w5 := f4.then hF5 (new7 n4)
        go_ret
        exact ⟨rfl, f5.drewN _⟩
      · have p2i : (((pExpr is).length : Nat) : Int) ≤ (c : Int) := by omega
        go_enter Tryd.func8, Tryd.ntmps8
        go_wp2_with first | (go_at_call 38; refine (known7 hM hg).mono ?_; rintro e w1 ⟨rfl, hF1⟩) | (go_at_call 39; refine (great7 _ _ is ds (h.fr hF1 (by simp)) (InssR.fr hF1 (by simp) hs)).mono ?_; rintro e w2 ⟨rfl, hF2⟩; rw [Hgr.out]; have f2 := hF1.trans hF2) | (go_at_call 40; refine (Put_any hM (hg.fr f2 (by simp)) _ is ds (h.fr f2 (by simp)) (InssR.fr f2 (by simp) hs) hl hwf hsm).mono ?_; rintro e w3 ⟨v3, rfl, s3⟩; have ho3 : Own [] _ _ _ _ _ _ := s3.head; obtain ⟨va, vc, rfl, hvc1, hvc2⟩ := Own.shape ho3; have f3 := f2.trans s3.fr)
        go_ret
        exact ⟨rfl, f3⟩
end Go.Proofs.YtokneepfknepaaaDoor

set_option linter.unusedSimpArgs false
set_option linter.unusedVariables false
namespace Go.Proofs.YtokneepfknepaaaDoor
open Go.RowKit

theorem app_ins {w : World} {ops : Array Oper} {rest : List Oper} {o : Oper} {a : Act} {Q : Exit → Act → World → Prop} {s x : Operand} {v xv : Value} (hgd : o.guard = none)
    (ho : o.op = .call { callee := .builtin .append, args := #[s, x], argTypes := #[72, 72] }) (hs : a.eval s = v) (hx : a.eval x = xv)
    (h : ∃ S w0 G G' n xs m news, St S w0 w G ∧ DstT 81 19 G v n xs G' ∧ SrcT 81 19 G w xv m news ∧ n + m ≤ 549755813888 ∧
      ∀ v' w', St S w0 w' (.own 81 19 v' (n + m) (xs ++ news) :: G') → wpList Tryd.prog ops Q rest (a.put o.dst v') w') :
    wpList Tryd.prog ops Q (o :: rest) a w := by
  obtain ⟨i0, hi, hz0, hz1, hz2⟩ := info_parts info_ins
  exact st_appT hgd ho hs hx und_inss und_inss hi hz0 hz1 hz2 rfl (by decide) (by decide) h
theorem step_ins {w : World} {ops : Array Oper} {o : Oper} {a : Act} {K : Act → World → Prop} {Q : Exit → Act → World → Prop} {E : Prop} {s x : Operand} {v xv : Value} (hgd : o.guard = none)
    (ho : o.op = .call { callee := .builtin .append, args := #[s, x], argTypes := #[72, 72] }) (hs : a.eval s = v) (hx : a.eval x = xv)
    (h : ∃ S w0 G G' n xs m news, St S w0 w G ∧ DstT 81 19 G v n xs G' ∧ SrcT 81 19 G w xv m news ∧ n + m ≤ 549755813888 ∧
      ∀ v' w', St S w0 w' (.own 81 19 v' (n + m) (xs ++ news) :: G') → K (a.put o.dst v') w') :
    if Region.wanted o (yielded ops a.tmps) = true then Oper.wp Tryd.prog o a w K Q else E := by
  have hw : Region.wanted o (yielded ops a.tmps) = true := by simp [Region.wanted, hgd]
  rw [if_pos hw]
  obtain ⟨S, w0, G, G', n, xs, m, news, hst, hp, hsrc, hb, h⟩ := h
  obtain ⟨i0, hi, hz0, hz1, hz2⟩ := info_parts info_ins
  have hd := hst.dstT hp
  have hO : Own [] w 81 19 v n xs := hd.head
  obtain ⟨v', w', h1, h2, h3, h4⟩ := run_app (P := Tryd.prog) (S := []) w 72 72 o.type 81 i0 _ 19 192 und_inss hi hz0 hz1 hz2 rfl (by decide) (by simp) hO (hsrc.src und_inss hst) (by omega) (by unfold maxLen; omega)
  unfold Oper.wp execOp
  simp only [ho, resolve, invoke, builtin, Sem.run_bind, Sem.run_pure, Result.andThen_ok, List.map_toArray, List.map_cons, List.map_nil, hs, hx, h1]
  exact h _ _ (hd.app h3 h2 h4)

/-- A slice literal of nothing may be appended to. -/
theorem St.dst0 {S : List Nat} {w0 w : World} {G G' : List Res} {e : TypeId} {k g : Nat} (h : St S w0 w G) (p : Pick G (.loc g [] e) G') : St S w0 w (.own e k (.slice (some ⟨g, 0, none⟩) 0 0) 0 [] :: G') := by
  have h0 := h.pick p
  have hl : Loc w g [] e := h0.head
  have ha := List.pairwise_cons.1 h0.apart
  refine h0.tail.put ?_ (fun b hb => h0.new (.loc g [] e) List.mem_cons_self b (by simpa [Res.blk, Value.blk] using hb)) (fun b hb s hs => ha.1 s hs b (by simpa [Res.blk, Value.blk] using hb))
  exact ⟨by simp, (fun u hu => by cases hu), .inr ⟨g, 0, #[], rfl, by simp, hl, Nat.le_refl _, by decide, by simp, by simp⟩⟩
/-- The same law as step_ins, what is appended to said as the head of what is the call's own. -/
theorem step_insO {w : World} {ops : Array Oper} {o : Oper} {a : Act} {K : Act → World → Prop} {Q : Exit → Act → World → Prop} {E : Prop} {s x : Operand} {v xv : Value} (hgd : o.guard = none)
    (ho : o.op = .call { callee := .builtin .append, args := #[s, x], argTypes := #[72, 72] }) (hs : a.eval s = v) (hx : a.eval x = xv)
    (h : ∃ S w0 G n xs m news, St S w0 w (.own 81 19 v n xs :: G) ∧ SrcT 81 19 G w xv m news ∧ n + m ≤ 549755813888 ∧
      ∀ v' w', St S w0 w' (.own 81 19 v' (n + m) (xs ++ news) :: G) → K (a.put o.dst v') w') :
    if Region.wanted o (yielded ops a.tmps) = true then Oper.wp Tryd.prog o a w K Q else E := by
  obtain ⟨S, w0, G, n, xs, m, news, hst, hsrc, hb, h⟩ := h
  have h2 : SrcT 81 19 (.own 81 19 v n xs :: G) w xv m news := by
    cases hsrc with
    | own p => exact .own (.there p)
    | lit p a b => exact .lit (.there p) a b
    | arg hs => exact .arg hs
  exact step_ins hgd ho hs hx ⟨S, w0, _, G, n, xs, m, news, hst, .own .here, h2, hb, h⟩
theorem app_insO {w : World} {ops : Array Oper} {rest : List Oper} {o : Oper} {a : Act} {Q : Exit → Act → World → Prop} {s x : Operand} {v xv : Value} (hgd : o.guard = none)
    (ho : o.op = .call { callee := .builtin .append, args := #[s, x], argTypes := #[72, 72] }) (hs : a.eval s = v) (hx : a.eval x = xv)
    (h : ∃ S w0 G n xs m news, St S w0 w (.own 81 19 v n xs :: G) ∧ SrcT 81 19 G w xv m news ∧ n + m ≤ 549755813888 ∧
      ∀ v' w', St S w0 w' (.own 81 19 v' (n + m) (xs ++ news) :: G) → wpList Tryd.prog ops Q rest (a.put o.dst v') w') :
    wpList Tryd.prog ops Q (o :: rest) a w := by
  obtain ⟨S, w0, G, n, xs, m, news, hst, hsrc, hb, h⟩ := h
  have h2 : SrcT 81 19 (.own 81 19 v n xs :: G) w xv m news := by
    cases hsrc with
    | own p => exact .own (.there p)
    | lit p a b => exact .lit (.there p) a b
    | arg hs => exact .arg hs
  exact app_ins hgd ho hs hx ⟨S, w0, _, G, n, xs, m, news, hst, .own .here, h2, hb, h⟩
/-- The first elements of a slice that is read. -/
theorem Sl.takeK {S : List Nat} {w : World} {k n c cap : Nat} {a : Option Addr} {cs : List Value} (h : Sl S w k (.slice a n cap) n cs) (hc : c ≤ n) : Sl S w k (.slice a c cap) c (cs.take (c * k)) := by
  obtain ⟨h1, h2, a', cap', e, h4, h5, hN, h6⟩ := h
  injection e with e1 e2 e3
  subst e1 e3
  have hle : c * k ≤ n * k := Nat.mul_le_mul_right k hc
  refine ⟨by rw [List.length_take]; omega, fun u hu => h2 u (List.mem_of_mem_take hu), a, cap, rfl, by omega, h5, hN, ?_⟩
  rcases h6 with h6 | ⟨b, off, e, hn, hb, hcell⟩
  · exact .inl (by omega)
  · refine .inr ⟨b, off, e, hn, hb, fun j hj => ?_⟩
    rw [hcell j (by omega), List.getElem?_take, if_pos hj]
/-- The later elements of a slice that is read, as the model takes them. -/
theorem Sl.dropK {S : List Nat} {w : World} {k n c cap : Nat} {a : Option Addr} {cs : List Value} (h : Sl S w k (.slice a n cap) n cs) (hc : c ≤ n) : Sl S w k (.slice (if cap = c then a else a.map (·.add (c * k))) (n - c) (cap - c)) (n - c) (cs.drop (c * k)) := by
  obtain ⟨h1, h2, a', cap', e, h4, h5, hN, h6⟩ := h
  injection e with e1 e2 e3
  subst e1 e3
  have hs : (n - c) * k = n * k - c * k := Nat.sub_mul n c k
  have hle : c * k ≤ n * k := Nat.mul_le_mul_right k hc
  refine ⟨by rw [List.length_drop]; omega, fun u hu => h2 u (List.mem_of_mem_drop hu), _, _, rfl, by omega, by omega, fun hno => ?_, ?_⟩
  · by_cases hcc : cap = c
    · omega
    · rw [if_neg hcc] at hno
      have := hN (Option.map_eq_none_iff.1 hno)
      omega
  · rcases h6 with h6 | ⟨b, off, e, hn, hb, hcell⟩
    · exact .inl (by omega)
    · by_cases hcc : cap = c
      · exact .inl (by omega)
      · subst e
        have hadd : (⟨b, off, none⟩ : Addr).add (c * k) = ⟨b, off + c * k, none⟩ := by unfold Addr.add; split <;> simp_all
        refine .inr ⟨b, off + c * k, by rw [if_neg hcc]; simp [hadd], hn, hb, fun j hj => ?_⟩
        rw [List.getElem?_drop, ← hcell (c * k + j) (by omega), Nat.add_assoc]
theorem InssR.take {S : List Nat} {w : World} : ∀ (c : Nat) {is : List InstrT} {cs : List Value}, InssR S w is cs → InssR S w (is.take c) (cs.take (c * 19))
  | 0, _, _, _ => by simp [InssR]
  | c + 1, [], _, h => by
    have h : _ = [] := h
    subst h
    simp [InssR]
  | c + 1, _ :: _, _, ⟨tv, lv, cv, rest, e, h1, h2⟩ => by
    subst e
    refine ⟨tv, lv, cv, rest.take (c * 19), ?_, h1, InssR.take c h2⟩
    rw [show (c + 1) * 19 = (insC _ tv lv cv).length + c * 19 by simp [insC]; omega, List.take_length_add_append]
theorem InssR.drop {S : List Nat} {w : World} : ∀ (c : Nat) {is : List InstrT} {cs : List Value}, InssR S w is cs → InssR S w (is.drop c) (cs.drop (c * 19))
  | 0, _, _, h => by simpa using h
  | c + 1, [], _, h => by
    have h : _ = [] := h
    subst h
    simp [InssR]
  | c + 1, _ :: _, _, ⟨tv, lv, cv, rest, e, h1, h2⟩ => by
    subst e
    rw [show (c + 1) * 19 = (insC _ tv lv cv).length + c * 19 by simp [insC]; omega, List.drop_length_add_append]
    exact InssR.drop c h2
/-- A slice literal of one instruction, in a drawn region. -/
theorem step_oneI {w : World} {ops : Array Oper} {o : Oper} {a : Act} {K : Act → World → Prop} {Q : Exit → Act → World → Prop} {E : Prop} {x : Operand} {i : InstrT} {tv lv cv : Value} (hgd : o.guard = none)
    (ho : o.op = .buildSlice 72 1 #[(0, x)]) (hx : a.eval x = .agg (insC i tv lv cv).toArray)
    (h : K (a.put o.dst (.slice (some ⟨w.heap.size, 0, none⟩) 1 1)) (w.alloc (.cells (insC i tv lv cv).toArray 81))) :
    if Region.wanted o (yielded ops a.tmps) = true then Oper.wp Tryd.prog o a w K Q else E := by
  have hw : Region.wanted o (yielded ops a.tmps) = true := by simp [Region.wanted, hgd]
  rw [if_pos hw]
  obtain ⟨i0, hi, hz0, hz1, hz2⟩ := info_parts info_ins
  refine wp_buildSlice _ _ 1 _ ho _ i0 _ und_inss hi hz0 (by rw [hz1]; decide) (by rw [hz1]; decide) ?_ h
  rw [hz1]
  have e : ((#[(0, x)] : Array (Nat × Operand)).map fun (i, x) => (i, a.eval x)).toList = [(0, a.eval x)] := by simp
  rw [e, hx]
  exact fill_ins _ _ _ _ _ _ _ _ _ _ _ _ _ _ _ _ _ _ _
/-- An instruction without lists. -/
theorem inert (k : Int) (w : World) : InsR [] w (InstrT.of k) (.slice none 0 0) (.slice none 0 0) (.slice none 0 0) := ⟨Sl.nil _ _ _, Sl.nil _ _ _, Sl.nil _ _ _⟩
end Go.Proofs.YtokneepfknepaaaDoor

set_option linter.unusedSimpArgs false
set_option linter.unusedVariables false
namespace Go.Proofs.YtokneepfknepaaaDoor

theorem stepN_frame {a b : List Bool} {op : Int} (h : stepN a op = some b) (n : List Bool) : stepN (a ++ n) op = some (b ++ n) := by
  unfold stepN at h ⊢
  split at h
  · rw [if_pos (by assumption)]; injection h with h; subst h; rfl
  · rw [if_neg (by assumption)]
    split at h
    · rw [if_pos (by assumption)]; injection h with h; subst h; rfl
    · rw [if_neg (by assumption)]
      split at h
      · rw [if_pos (by assumption)]
        split at h
        · injection h with h; subst h; rfl
        · cases h
      · rw [if_neg (by assumption)]
        split at h
        · rw [if_pos (by assumption)]
          split at h
          · injection h with h; subst h; rfl
          · cases h
        · rw [if_neg (by assumption)]; injection h with h; subst h; rfl
theorem nestL_frame : ∀ (l : List InstrT) (a b n : List Bool), nestL a l = some b → nestL (a ++ n) l = some (b ++ n)
  | [], a, b, n, h => by
    injection h with h
    subst h
    rfl
  | i :: l, a, b, n, h => by
    unfold nestL at h ⊢
    cases hs : stepN a i.op with
    | none => rw [hs] at h; cases h
    | some m =>
      rw [hs] at h
      rw [stepN_frame hs]
      exact nestL_frame l m b n h
theorem nestL_cons (a : List Bool) (i : InstrT) (l : List InstrT) : nestL a (i :: l) = (stepN a i.op).bind fun b => nestL b l := by
  show (match stepN a i.op with | some m => nestL m l | none => none) = _
  cases stepN a i.op <;> rfl
theorem nestL_app : ∀ (l m : List InstrT) (a : List Bool), nestL a (l ++ m) = (nestL a l).bind fun b => nestL b m
  | [], m, a => rfl
  | i :: l, m, a => by
    rw [List.cons_append, nestL_cons, nestL_cons]
    cases stepN a i.op with
    | none => rfl
    | some b => exact nestL_app l m b
theorem nested_iff (l : List InstrT) : nested l = true ↔ nestL [] l = some [] := by simp [nested]

def isOpen (i : InstrT) : Bool := decide (i.op = 2 ∨ i.op = 3 ∨ i.op = 4 ∨ i.op = 31)
def isEnd (i : InstrT) : Bool := decide (i.op = 11)
def isElse (i : InstrT) : Bool := decide (i.op = 5)
theorem stepN_count {a b : List Bool} {i : InstrT} (h : stepN a i.op = some b) : a.length + (if isOpen i then 1 else 0) = b.length + (if isEnd i then 1 else 0) := by
  unfold isOpen isEnd
  unfold stepN at h
  by_cases h1 : i.op = 2 ∨ i.op = 3 ∨ i.op = 31
  · rw [if_pos h1] at h
    injection h with h
    subst h
    rw [if_pos (by simp only [decide_eq_true_eq]; omega), if_neg (by simp only [decide_eq_true_eq]; omega)]
    rfl
  · rw [if_neg h1] at h
    by_cases h2 : i.op = 4
    · rw [if_pos h2] at h
      injection h with h
      subst h
      rw [if_pos (by simp only [decide_eq_true_eq]; omega), if_neg (by simp only [decide_eq_true_eq]; omega)]
      rfl
    · rw [if_neg h2] at h
      by_cases h3 : i.op = 5
      · rw [if_pos h3] at h
        rw [if_neg (by simp only [decide_eq_true_eq]; omega), if_neg (by simp only [decide_eq_true_eq]; omega)]
        split at h
        · injection h with h; subst h; rfl
        · cases h
      · rw [if_neg h3] at h
        by_cases h4 : i.op = 11
        · rw [if_pos h4] at h
          rw [if_neg (by simp only [decide_eq_true_eq]; omega), if_pos (by simp only [decide_eq_true_eq]; omega)]
          split at h
          · injection h with h; subst h; rfl
          · cases h
        · rw [if_neg h4] at h
          rw [if_neg (by simp only [decide_eq_true_eq]; omega), if_neg (by simp only [decide_eq_true_eq]; omega)]
          injection h with h
          subst h
          rfl
theorem nestL_count : ∀ (l : List InstrT) (a b : List Bool), nestL a l = some b → a.length + l.countP isOpen = b.length + l.countP isEnd
  | [], a, b, h => by
    injection h with h
    subst h
    rfl
  | i :: l, a, b, h => by
    unfold nestL at h
    cases hs : stepN a i.op with
    | none => rw [hs] at h; cases h
    | some m =>
      rw [hs] at h
      have h1 := stepN_count hs
      have h2 := nestL_count l m b h
      rw [List.countP_cons, List.countP_cons]
      omega
theorem nested_count {l : List InstrT} (h : nested l = true) : l.countP isOpen = l.countP isEnd := by
  have := nestL_count l [] [] ((nested_iff l).1 h)
  simpa using this
def other (i : InstrT) : Bool := !isOpen i && !isEnd i && !isElse i
theorem nestL_others : ∀ (l : List InstrT) (a : List Bool), (∀ i, i ∈ l → other i = true) → nestL a l = some a
  | [], a, _ => rfl
  | i :: l, a, h => by
    have h1 := h i (by simp)
    simp only [other, isOpen, isEnd, isElse, Bool.and_eq_true, Bool.not_eq_true', decide_eq_false_iff_not] at h1
    have hs : stepN a i.op = some a := by
      unfold stepN
      rw [if_neg (by omega), if_neg (by omega), if_neg (by omega), if_neg (by omega)]
    unfold nestL
    rw [hs]
    exact nestL_others l a fun j hj => h j (by simp [hj])
theorem nested_others (l : List InstrT) : nested (l.filter other) = true := (nested_iff _).2 (nestL_others _ [] fun i hi => (List.mem_filter.1 hi).2)
theorem not_nested {l : List InstrT} (h : l.countP isOpen ≠ l.countP isEnd) : nested l = false := by
  cases hn : nested l
  · rfl
  · exact absurd (nested_count hn) h
theorem not_more {l : List InstrT} (h : nested l = true) (c : Nat) : nested (l.take c ++ [InstrT.of 2] ++ l.drop c) = false := by
  apply not_nested
  have h1 := nested_count h
  have h2 : l.countP isOpen = (l.take c).countP isOpen + (l.drop c).countP isOpen := by rw [← List.countP_append, List.take_append_drop]
  have h3 : l.countP isEnd = (l.take c).countP isEnd + (l.drop c).countP isEnd := by rw [← List.countP_append, List.take_append_drop]
  simp only [List.countP_append, List.countP_cons, List.countP_nil]
  have h4 : isOpen (InstrT.of 2) = true := rfl
  have h5 : isEnd (InstrT.of 2) = false := rfl
  rw [h4, h5]
  simp only [if_true, Bool.false_eq_true, if_false]
  omega
theorem not_less {l : List InstrT} (h : nested l = true) (c : Nat) : nested (l.take c ++ [InstrT.of 11] ++ l.drop c) = false := by
  apply not_nested
  have h1 := nested_count h
  have h2 : l.countP isOpen = (l.take c).countP isOpen + (l.drop c).countP isOpen := by rw [← List.countP_append, List.take_append_drop]
  have h3 : l.countP isEnd = (l.take c).countP isEnd + (l.drop c).countP isEnd := by rw [← List.countP_append, List.take_append_drop]
  simp only [List.countP_append, List.countP_cons, List.countP_nil]
  have h4 : isOpen (InstrT.of 11) = false := rfl
  have h5 : isEnd (InstrT.of 11) = true := rfl
  rw [h4, h5]
  simp only [if_true, Bool.false_eq_true, if_false]
  omega

/- One behind the other. -/
theorem pExpr_of {l : List InstrT} (h1 : ∀ i, i ∈ l → mayI i = true) (h2 : nestL [] l = some []) : pExpr l = l.flatMap pInstr ++ [11] := by
  unfold pExpr
  rw [List.all_eq_true.2 h1, (nested_iff l).2 h2]
  rfl
theorem pExpr_both {l m : List InstrT} (hl : 0 < (pExpr l).length) (hm : 0 < (pExpr m).length) : pExpr (l ++ m) = (pExpr l).take ((pExpr l).length - 1) ++ pExpr m := by
  obtain ⟨a1, a2, a3⟩ := pExpr_pos hl
  obtain ⟨b1, b2, b3⟩ := pExpr_pos hm
  rw [pExpr_of (fun i hi => (List.mem_append.1 hi).elim (a1 i) (b1 i)) (by rw [nestL_app, a2]; exact b2), a3, b3]
  simp
theorem may2 : mayI (InstrT.of 2) = true := by decide +kernel
theorem pInstr2 : pInstr (InstrT.of 2) = [2, 64] := by decide +kernel
theorem pExpr_in {l : List InstrT} (hl : 0 < (pExpr l).length) : pExpr ([InstrT.of 2] ++ l ++ [InstrT.of 11]) = [2, 64] ++ pExpr l ++ [11] := by
  obtain ⟨a1, a2, a3⟩ := pExpr_pos hl
  have h2 : nestL [false] l = some [false] := nestL_frame l [] [] [false] a2
  rw [pExpr_of, a3]
  · simp [pInstr2, pInstr11]
  · intro i hi
    rcases List.mem_append.1 hi with hi | hi
    · rcases List.mem_append.1 hi with hi | hi
      · rw [List.mem_singleton.1 hi]; exact may2
      · exact a1 i hi
    · rw [List.mem_singleton.1 hi]; exact may11
  · rw [nestL_app, nestL_app]
    show (((some [false] : Option (List Bool)).bind fun b => nestL b l).bind fun b => nestL b [InstrT.of 11]) = some []
    simp only [Option.bind_some, h2]
    rfl
theorem not_in {l : List InstrT} (hl : 0 < (pExpr l).length) : nested (l ++ [InstrT.of 11]) = false := by
  obtain ⟨a1, a2, a3⟩ := pExpr_pos hl
  cases hn : nested (l ++ [InstrT.of 11])
  · rfl
  · rw [nested_iff, nestL_app, a2] at hn
    cases hn
end Go.Proofs.YtokneepfknepaaaDoor

set_option linter.unusedSimpArgs false
set_option linter.unusedVariables false
namespace Go.Proofs.YtokneepfknepaaaDoor
open Go.RowKit
theorem shapeC (op : Int) (h1 : -9223372036854775808 ≤ op) (h2 : op < 9223372036854775808) {k : Int} (hk : shapeP op = k) (w : World) (hg : Gl7 [] w) : Calls Tryd.prog 89 #[.int .i64 op] w fun e w' => e = .returned (.int .i64 k) ∧ Fr [] w w' := by
  subst hk
  exact shape_any hg op h1 h2
theorem indexL_range (c : UInt8) : ∀ (l : List UInt8), -1 ≤ indexL l c ∧ indexL l c ≤ (l.length : Int) - 1
  | [] => by simp [indexL]
  | a :: l => by
    have := indexL_range c l
    have e : ((a :: l).length : Int) = l.length + 1 := by simp
    rw [e]
    unfold indexL
    split
    · omega
    · split <;> omega
theorem shape_range (op : Int) : 0 ≤ shapeP op ∧ shapeP op ≤ 13 := by
  unfold shapeP
  split
  · omega
  · have h := indexL_range (findL runsL op 0).2 lettersL
    have e : (lettersL.length : Int) - 1 = 12 := rfl
    omega
end Go.Proofs.YtokneepfknepaaaDoor
