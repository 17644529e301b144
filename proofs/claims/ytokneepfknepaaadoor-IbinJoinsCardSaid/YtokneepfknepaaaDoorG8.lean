/- The walks of layer 7: what is open in a row; whether a row is well nested. The walk of layer 7: instructions are put. The walks of layer 7: a reader, and the call's own memory, as one fact. The walks of layer 7: the reader's small parts. The walks of layer 7: opcodes and memory operands are read. -/
import Derived.Test.YtokneepfknepaaaDoorG3
import Derived.Test.YtokneepfknepaaaDoorG6
import Derived.Test.YtokneepfknepaaaDoorG7
import Derived.Test.YtokneepfknepaaaDoorG2
set_option linter.unusedSimpArgs false
set_option linter.unusedVariables false
namespace Go.Proofs.YtokneepfknepaaaDoor
open Go.RowKit

theorem und_nest : Tryd.prog.underlying 125 = some (.slice 4) := by kernel_rfl
theorem info_bool : (Tryd.prog.info? 4).map (fun i => (i.zero, i.size, i.bytes)) = some (some (.bool false), 1, 1) := by kernel_rfl
/-- append on such a slice. -/
theorem app_bool {w : World} {ops : Array Oper} {rest : List Oper} {o : Oper} {a : Act} {Q : Exit → Act → World → Prop} {s x : Operand} {v xv : Value} (hgd : o.guard = none)
    (ho : o.op = .call { callee := .builtin .append, args := #[s, x], argTypes := #[125, 125] }) (hs : a.eval s = v) (hx : a.eval x = xv)
    (h : ∃ S w0 G G' n xs m news, St S w0 w G ∧ DstT 4 1 G v n xs G' ∧ SrcT 4 1 G w xv m news ∧ n + m ≤ 549755813888 ∧
      ∀ v' w', St S w0 w' (.own 4 1 v' (n + m) (xs ++ news) :: G') → wpList Tryd.prog ops Q rest (a.put o.dst v') w') :
    wpList Tryd.prog ops Q (o :: rest) a w := by
  obtain ⟨i0, hi, hz0, hz1, hz2⟩ := info_parts info_bool
  exact st_appT hgd ho hs hx und_nest und_nest hi hz0 hz1 hz2 rfl (by decide) (by decide) h

/-- What is open, as it lies in memory. -/
def nestC (n : List Bool) : List Value := n.reverse.map Value.bool
theorem nestC_len (n : List Bool) : (nestC n).length = n.length := by simp [nestC]
theorem nestC_cons (b : Bool) (n : List Bool) : nestC (b :: n) = nestC n ++ [.bool b] := by simp [nestC]
theorem nestC_get (b : Bool) (n : List Bool) : (nestC (b :: n))[n.length]? = some (.bool b) := by
  rw [nestC_cons, List.getElem?_append_right (by rw [nestC_len]; exact Nat.le_refl _), nestC_len, Nat.sub_self]
  rfl
theorem nestC_set (b c : Bool) (n : List Bool) : (nestC (b :: n)).set n.length (.bool c) = nestC (c :: n) := by
  rw [nestC_cons, nestC_cons, List.set_append, nestC_len]
  simp
theorem nestC_take (b : Bool) (n : List Bool) : (nestC (b :: n)).take (n.length * 1) = nestC n := by
  rw [nestC_cons, Nat.mul_one, ← nestC_len n, List.take_append_of_le_length (Nat.le_refl _), List.take_length]

theorem Own.nest {w : World} {v : Value} {b : Bool} {r : List Bool} (h : Own [] w 4 1 v (b :: r).length (nestC (b :: r))) :
    ∃ g c, v = .slice (some ⟨g, 0, none⟩) (r.length + 1) c ∧ g < w.heap.size ∧ w.cell? ⟨g, r.length, none⟩ = some (.bool b) ∧ w.frozen? ⟨g, r.length, none⟩ = false ∧ r.length + 1 ≤ c := by
  obtain ⟨k1, k2, k3⟩ := h
  rcases k3 with ⟨k3, k4⟩ | ⟨g, cap, cur, k3, kg, kh, k4, k5, k6, k7⟩
  · simp at k4
  · refine ⟨g, cap, k3, (Array.getElem?_eq_some_iff.1 kh).1, ?_, frozen_of_row w g _ cur _ kh, by simpa using k4⟩
    rw [cell_of_row w g _ cur _ (0, 0) kh]
    have k8 := nestC_get b r
    rw [← k7, List.getElem?_take, if_pos (by simp)] at k8
    simpa using k8

set_option maxRecDepth 100000 in
set_option maxHeartbeats 1600000 in
theorem step_no {w : World} {nb : Nat} {v : Value} {n : List Bool} (hl : Loc w nb [v] 125) (ho : Own [] w 4 1 v n.length (nestC n)) (hn : n.length ≤ 549755813000) {op : Int} (hs : stepN n op = none) :
    Calls Tryd.prog 84 #[.pointer (some ⟨nb, 0, none⟩), .int .i64 op] w fun e w' => e = .returned (.bool false) ∧ Fr [] w w' := by
  have hC := hl.cell
  have hT := hl.lt
  unfold stepN at hs
  by_cases h1 : op = 2 ∨ op = 3 ∨ op = 31
  · rw [if_pos h1] at hs; cases hs
  · rw [if_neg h1] at hs
    have q2 : (op == 2) = false := by simp; omega
    have q3 : (op == 3) = false := by simp; omega
    have q31 : (op == 31) = false := by simp; omega
    by_cases h4 : op = 4
    · rw [if_pos h4] at hs; cases hs
    · rw [if_neg h4] at hs
      have q4 : (op == 4) = false := by simp; omega
      by_cases h5 : op = 5
      · rw [if_pos h5] at hs
        have q5 : (op == 5) = true := by simp; omega
        match n, hs with
        | [], _ =>
          obtain ⟨a0, c0, rfl, hc0, _⟩ := Own.shape ho
          clear h1 h4 h5
          go_enter Tryd.func84, Tryd.ntmps84
          go_wp2
          go_ret
          exact ⟨rfl, Fr.refl _ _⟩
        | false :: r, _ =>
          obtain ⟨g, c, rfl, hg, hd, hz, hc⟩ := ho.nest
          have hw : wrap64 (r.length : Int) = r.length := IntWalk.wrap64_in _ (by simp at hn; omega)
          clear h1 h4 h5
          go_enter Tryd.func84, Tryd.ntmps84
          go_wp2
          go_ret
          exact ⟨rfl, Fr.refl _ _⟩
        | true :: r, hs => cases hs
      · rw [if_neg h5] at hs
        have q5 : (op == 5) = false := by simp; omega
        by_cases h11 : op = 11
        · rw [if_pos h11] at hs
          have q11 : (op == 11) = true := by simp; omega
          match n, hs with
          | [], _ =>
            obtain ⟨a0, c0, rfl, hc0, _⟩ := Own.shape ho
            clear h1 h4 h5 h11
            go_enter Tryd.func84, Tryd.ntmps84
            go_wp2
            go_ret
            exact ⟨rfl, Fr.refl _ _⟩
          | _ :: _, hs => cases hs
        · rw [if_neg h11] at hs; cases hs

set_option maxRecDepth 100000 in
set_option maxHeartbeats 1600000 in
theorem step_yes {S : List Nat} {w0 w : World} {G : List Res} {nb : Nat} {v : Value} {n m : List Bool} (hS : St S w0 w (.loc nb [v] 125 :: .own 4 1 (v) (n).length (nestC (n)) :: G)) (hn : n.length ≤ 549755813000) {op : Int} (hs : stepN n op = some m) :
    Calls Tryd.prog 84 #[.pointer (some ⟨nb, 0, none⟩), .int .i64 op] w fun e w' => ∃ v', e = .returned (.bool true) ∧ St S w0 w' (.loc nb [v'] 125 :: .own 4 1 (v') (m).length (nestC (m)) :: G) := by
  have hl := hS.head
  have ho := hS.tail.head
  have hC := hl.cell
  have hT := hl.lt
  unfold stepN at hs
  by_cases h1 : op = 2 ∨ op = 3 ∨ op = 31
  · rw [if_pos h1] at hs
    injection hs with hs
    subst hs
    obtain ⟨a0, c0, rfl, hc0, _⟩ := Own.shape ho
    have q : ((op == 2) = true) ∨ ((op == 2) = false ∧ (op == 3) = true) ∨ ((op == 2) = false ∧ (op == 3) = false ∧ (op == 31) = true) := by simp; omega
    clear h1 hl ho
    rcases q with q2 | ⟨q2, q3⟩ | ⟨q2, q3, q31⟩
    all_goals
      go_enter Tryd.func84, Tryd.ntmps84
      go_wp2_with (at_builtin; refine app_bool rfl rfl rfl rfl ?_; (repeat (apply Exists.intro)); refine ⟨?_, ?_, ?_, ?_, ?_⟩; (· (repeat (first | (with_reducible assumption) | (with_reducible apply St.alloc) | (with_reducible apply St.drew) | (with_reducible apply St.drewN) | (with_reducible apply St.alloc')))); (· (try simp only [World.size_alloc, World.size_setCell, size_drew, size_drewN]); apply DstT.own; ((try simp only [World.size_alloc, World.size_setCell, size_drew, size_drewN]); repeat (first | (exact Pick.here) | (with_reducible apply Pick.there)))); (· (try simp only [World.size_alloc, World.size_setCell, size_drew, size_drewN]); apply SrcT.lit; (· ((try simp only [World.size_alloc, World.size_setCell, size_drew, size_drewN]); repeat (first | (exact Pick.here) | (with_reducible apply Pick.there)))); (· rfl); (· simp [Value.oneCell'])); (· omega); intro vN wN hS; obtain ⟨aN, cN, rfl, _, _⟩ := Own.shape hS.head; (try clear hQ); have hQ := St.facts hS; simp only [Facts, Res.fact, List.cons_append, List.nil_append, true_and, and_true] at hQ)
      go_ret
      refine ⟨.slice aN (n.length + 1) cN, rfl, ?_⟩
      rw [nestC_cons]
      exact (hS.set (by ((try simp only [World.size_alloc, World.size_setCell, size_drew, size_drewN]); repeat (first | (exact Pick.here) | (with_reducible apply Pick.there)))) 0 (.slice aN (n.length + 1) cN)).sel (by ((try simp only [World.size_alloc, World.size_setCell, size_drew, size_drewN]); repeat (first | (exact Sel.all) | (exact Sel.nil) | (apply Sel.cons; (· ((try simp only [World.size_alloc, World.size_setCell, size_drew, size_drewN]); repeat (first | (exact Pick.here) | (with_reducible apply Pick.there))); done)) | (apply Sel.skip))))
  · rw [if_neg h1] at hs
    have q2 : (op == 2) = false := by simp; omega
    have q3 : (op == 3) = false := by simp; omega
    have q31 : (op == 31) = false := by simp; omega
    by_cases h4 : op = 4
    · rw [if_pos h4] at hs
      injection hs with hs
      subst hs
      obtain ⟨a0, c0, rfl, hc0, _⟩ := Own.shape ho
      have q4 : (op == 4) = true := by simp; omega
      clear h1 h4 hl ho
      go_enter Tryd.func84, Tryd.ntmps84
      go_wp2_with (at_builtin; refine app_bool rfl rfl rfl rfl ?_; (repeat (apply Exists.intro)); refine ⟨?_, ?_, ?_, ?_, ?_⟩; (· (repeat (first | (with_reducible assumption) | (with_reducible apply St.alloc) | (with_reducible apply St.drew) | (with_reducible apply St.drewN) | (with_reducible apply St.alloc')))); (· (try simp only [World.size_alloc, World.size_setCell, size_drew, size_drewN]); apply DstT.own; ((try simp only [World.size_alloc, World.size_setCell, size_drew, size_drewN]); repeat (first | (exact Pick.here) | (with_reducible apply Pick.there)))); (· (try simp only [World.size_alloc, World.size_setCell, size_drew, size_drewN]); apply SrcT.lit; (· ((try simp only [World.size_alloc, World.size_setCell, size_drew, size_drewN]); repeat (first | (exact Pick.here) | (with_reducible apply Pick.there)))); (· rfl); (· simp [Value.oneCell'])); (· omega); intro vN wN hS; obtain ⟨aN, cN, rfl, _, _⟩ := Own.shape hS.head; (try clear hQ); have hQ := St.facts hS; simp only [Facts, Res.fact, List.cons_append, List.nil_append, true_and, and_true] at hQ)
      go_ret
      refine ⟨.slice aN (n.length + 1) cN, rfl, ?_⟩
      rw [nestC_cons]
      exact (hS.set (by ((try simp only [World.size_alloc, World.size_setCell, size_drew, size_drewN]); repeat (first | (exact Pick.here) | (with_reducible apply Pick.there)))) 0 (.slice aN (n.length + 1) cN)).sel (by ((try simp only [World.size_alloc, World.size_setCell, size_drew, size_drewN]); repeat (first | (exact Sel.all) | (exact Sel.nil) | (apply Sel.cons; (· ((try simp only [World.size_alloc, World.size_setCell, size_drew, size_drewN]); repeat (first | (exact Pick.here) | (with_reducible apply Pick.there))); done)) | (apply Sel.skip))))
    · rw [if_neg h4] at hs
      have q4 : (op == 4) = false := by simp; omega
      by_cases h5 : op = 5
      · rw [if_pos h5] at hs
        have q5 : (op == 5) = true := by simp; omega
        match n, hs with
        | true :: r, hs =>
          injection hs with hs
          subst hs
          obtain ⟨g, c, rfl, hg, hd, hz, hc⟩ := ho.nest
          have hw : wrap64 (r.length : Int) = r.length := IntWalk.wrap64_in _ (by simp at hn; omega)
          have hZ := hl.frz
          clear h1 h4 h5
          go_enter Tryd.func84, Tryd.ntmps84
          go_wp2
          go_ret
          refine ⟨.slice (some ⟨g, 0, none⟩) (r.length + 1) c, rfl, ?_⟩
          have h1 := (hS.pick (.there .here)).turn (S' := []) (r' := .own 4 1 (.slice (some ⟨g, 0, none⟩) (r.length + 1) c) (r.length + 1) ((nestC (true :: r)).set r.length (.bool false))) (by simpa [Res.blk, Value.blk] using (Fr.refl [g] w).setCell (p := ⟨g, r.length, none⟩) (by simp) (.bool false)) (by simp) (ho.setAt (by simp) rfl) (fun b hb => .inl hb)
          rw [nestC_set] at h1
          exact h1.pick (.there .here)
        | false :: r, hs => cases hs
        | [], hs => cases hs
      · rw [if_neg h5] at hs
        have q5 : (op == 5) = false := by simp; omega
        by_cases h11 : op = 11
        · rw [if_pos h11] at hs
          have q11 : (op == 11) = true := by simp; omega
          match n, hs with
          | x :: r, hs =>
            injection hs with hs
            subst hs
            obtain ⟨g, c, rfl, hg, hd, hz, hc⟩ := ho.nest
            have hw : wrap64 (r.length : Int) = r.length := IntWalk.wrap64_in _ (by simp at hn; omega)
            have hZ := hl.frz
            have hc2 : (r.length : Int) ≤ (c : Int) := by omega
            clear h1 h4 h5 h11
            go_enter Tryd.func84, Tryd.ntmps84
            go_wp2
            go_ret
            refine ⟨.slice (some ⟨g, 0, none⟩) r.length c, rfl, ?_⟩
            have h1 := (hS.pick (.there .here)).turn (S' := []) (r' := .own 4 1 (.slice (some ⟨g, 0, none⟩) r.length c) r.length ((nestC (x :: r)).take (r.length * 1))) (Fr.refl _ _) (by simp) (ho.take (by simp)) (fun b hb => .inl hb)
            rw [nestC_take] at h1
            exact (h1.set (.there .here) 0 (.slice (some ⟨g, 0, none⟩) r.length c))
          | [], hs => cases hs
        · rw [if_neg h11] at hs
          injection hs with hs
          subst hs
          have q11 : (op == 11) = false := by simp; omega
          obtain ⟨a0, c0, rfl, hc0, _⟩ := Own.shape ho
          clear h1 h4 h5 h11 hl ho
          go_enter Tryd.func84, Tryd.ntmps84
          go_wp2
          go_ret
          exact ⟨.slice a0 n.length c0, rfl, hS⟩

/-- What stands open behind some instructions. -/
theorem nest_start (w : World) : St [] w (w.alloc (.cells #[.slice none 0 0] 125)) [.loc w.heap.size [.slice none 0 0] 125, .own 4 1 ((.slice none 0 0)) (([] : List Bool)).length (nestC (([] : List Bool)))] := by
  have h := ((St.start [] w).alloc [.slice none 0 0] 125).put (r := .own 4 1 ((.slice none 0 0)) (([] : List Bool)).length (nestC (([] : List Bool)))) (Own.nil _ _ _ _) (fun b hb => by cases hb) (fun b hb => by cases hb)
  exact h.pick (.there .here)
theorem stepN_len {n m : List Bool} {op : Int} (h : stepN n op = some m) : m.length ≤ n.length + 1 := by
  unfold stepN at h
  split at h
  · injection h with h; subst h; simp
  · split at h
    · injection h with h; subst h; simp
    · split at h
      · split at h
        · injection h with h; subst h; simp
        · cases h
      · split at h
        · split at h
          · injection h with h; subst h; simp; omega
          · cases h
        · injection h with h; subst h; omega

set_option maxRecDepth 100000 in
set_option maxHeartbeats 1600000 in
theorem nested_any (w : World) (v : Value) (is : List InstrT) (cs : List Value) (hv : Sl [] w 19 v is.length cs) (hi : InssR [] w is cs) (hb : is.length ≤ 549755813000) :
    Calls Tryd.prog 41 #[v] w fun e w' => e = .returned (.bool (nested is)) ∧ Fr [] w w' := by
  have hh := hv
  obtain ⟨a0, c0, rfl⟩ := hv.shape
  have hstart := nest_start w
  go_enter Tryd.func41, Tryd.ntmps41
  go_wp2
  go_loopw [7] (fun a wr => ∃ (k : Nat), a = .int .i64 k ∧ k ≤ is.length ∧ ∃ u n, St [] w wr [.loc w.heap.size [u] 125, .own 4 1 (u) (n).length (nestC (n))] ∧ n.length ≤ k ∧ Hid (nestL n (is.drop k) = nestL [] is)) (fun a _ => is.length - (intOf a).toNat)
  case atStart => exact ⟨0, rfl, by omega, _, [], hstart, by simp, Lib.hid rfl⟩
  case round =>
    obtain ⟨k, rfl, hk, u, n, hS, hn, hI⟩ := hrel
    (try clear hQ); have hQ := St.facts hS; simp only [Facts, Res.fact, List.cons_append, List.nil_append, true_and, and_true] at hQ
    by_cases hlt : k < is.length
    · obtain ⟨i, hi1⟩ : ∃ t, is[k]? = some t := ⟨is[k], by simp [hlt]⟩
      obtain ⟨b1, o1, p1, tv, lv, cv, hv1, hb1, _, _, hd1⟩ := Sl.ins_elem hh hi k i hi1
      injection hv1 with e1 _ e3
      subst e1 e3
      have f1 := (hS.fr.cell hb1 (by simp) _).trans (hd1 0 (by decide))
      simp only [Nat.add_zero, insC, List.getElem?_cons_zero] at f1
      have i1 : (k : Int) < (is.length : Int) := by omega
      have hdrop : is.drop k = i :: is.drop (k + 1) := by
        rw [List.drop_eq_getElem_cons hlt]
        congr 1
        have := List.getElem?_eq_getElem hlt
        rw [this] at hi1
        injection hi1
      rw [hdrop] at hI
      clear hd1 hdrop hi1
      cases hst : stepN n i.op with
      | none =>
        have e : nested is = false := by
          unfold nested
          rw [← hI.out]
          simp [nestL, hst]
        have E := Lib.hid e
        have Hst := Lib.hid hst
        clear e hI hst
        have hLoc : Loc wr _ [u] _ := hS.head
        have hOwn : Own [] wr _ _ u _ _ := hS.tail.head
        go_wp2_with (go_at_call 84; (with_reducible refine (step_no hLoc hOwn (by omega) Hst.out).mono ?_); rintro e w1 ⟨rfl, hF⟩)
        go_ret
        exact ⟨by rw [E.out]; rfl, hS.fr.trans hF⟩
      | some m =>
        have e : nestL m (is.drop (k + 1)) = nestL [] is := by
          rw [← hI.out]
          simp [nestL, hst]
        have hm := stepN_len hst
        have E := Lib.hid e
        have Hst := Lib.hid hst
        clear e hI hst
        go_wp2_with (go_at_call 84; (with_reducible refine (step_yes hS (by omega) Hst.out).mono ?_); rintro e w1 ⟨u', rfl, hS⟩; (try clear hQ); have hQ := St.facts hS; simp only [Facts, Res.fact, List.cons_append, List.nil_append, true_and, and_true] at hQ)
        go_roundw
        case rel => exact ⟨k + 1, by go_num, by omega, u', m, hS, by omega, E⟩
        case measure => simp [intOf]; omega
    · have hk2 : k = is.length := by omega
      subst hk2
      rw [List.drop_length] at hI
      obtain ⟨a1, c1, rfl, _, _⟩ := Own.shape hS.tail.head
      have e : nested is = (((n.length : Nat) : Int) == 0) := by
        unfold nested
        rw [← hI.out]
        cases n with
        | nil => rfl
        | cons b n =>
          have : (((b :: n).length : Nat) : Int) ≠ 0 := by simp; omega
          simp [nestL]
          omega
      have E := Lib.hid e
      clear e hI
      (try clear hQ); have hQ := St.facts hS; simp only [Facts, Res.fact, List.cons_append, List.nil_append, true_and, and_true] at hQ
      go_wp2
      go_ret
      exact ⟨by rw [E.out]; rfl, hS.fr⟩
end Go.Proofs.YtokneepfknepaaaDoor

set_option linter.unusedSimpArgs false
set_option linter.unusedVariables false
namespace Go.Proofs.YtokneepfknepaaaDoor
open Go.RowKit

/-- What the statements' guards say of an instruction. -/
structure SmI (i : InstrT) : Prop where
  ts : i.types.length ≤ 65536
  ls : i.labels.length ≤ 65536
  cs : i.catches.length ≤ 65536
  u : i.u < 18446744073709551616
theorem putRest_st {w0 w : World} {G : List Res} {v : Value} {xs : List UInt8} (hS : St [] w0 w (.own 5 1 (v) (xs).length ((xs).map B) :: G)) (hg : Gl7 [] w0) (i : InstrT) (tv lv cv : Value) (hR : InsR [] w0 i tv lv cv) (hx : xs.length ≤ 17592186044416) (hm : mayI i = true) (hs : SmI i) :
    Calls Tryd.prog 82 #[v, .agg (insC i tv lv cv).toArray] w fun e w' => ∃ v', e = .returned v' ∧ St [] w0 w' (.own 5 1 (v') (xs ++ pRest i).length ((xs ++ pRest i).map B) :: G) := by
  obtain ⟨o, x, y, u, ⟨hk, hn⟩, ⟨jk, jn⟩, n1, n2, ts, ls, ⟨bk, ⟨vk, vn, ⟨wk, wn⟩⟩, bn⟩, cs⟩ := i
  obtain ⟨h1, h2, h3, h4⟩ := hs
  dsimp only at h1 h2 h3 h4
  rcases shape_cases o with h | (h | h) | h | h | h | h | h | h | h | h | h | h
  · exact rest1_st hS hg o x y u hk hn jk jn n1 n2 ts ls bk vk vn wk wn bn cs tv lv cv hR hx hm h1 h2 h3 h4 h
  · exact rest4_st hS hg o x y u hk hn jk jn n1 n2 ts ls bk vk vn wk wn bn cs tv lv cv hR hx hm h1 h2 h3 h4 h
  · exact rest6_st hS hg o x y u hk hn jk jn n1 n2 ts ls bk vk vn wk wn bn cs tv lv cv hR hx hm h1 h2 h3 h4 h
  · exact rest7_st hS hg o x y u hk hn jk jn n1 n2 ts ls bk vk vn wk wn bn cs tv lv cv hR hx hm h1 h2 h3 h4 h
  · exact rest5_st hS hg o x y u hk hn jk jn n1 n2 ts ls bk vk vn wk wn bn cs tv lv cv hR hx hm h1 h2 h3 h4 h
  · exact rest8_st hS hg o x y u hk hn jk jn n1 n2 ts ls bk vk vn wk wn bn cs tv lv cv hR hx hm h1 h2 h3 h4 h
  · exact rest9_st hS hg o x y u hk hn jk jn n1 n2 ts ls bk vk vn wk wn bn cs tv lv cv hR hx hm h1 h2 h3 h4 h
  · exact rest10_st hS hg o x y u hk hn jk jn n1 n2 ts ls bk vk vn wk wn bn cs tv lv cv hR hx hm h1 h2 h3 h4 h
  · exact rest11_st hS hg o x y u hk hn jk jn n1 n2 ts ls bk vk vn wk wn bn cs tv lv cv hR hx hm h1 h2 h3 h4 h
  · exact rest12_st hS hg o x y u hk hn jk jn n1 n2 ts ls bk vk vn wk wn bn cs tv lv cv hR hx hm h1 h2 h3 h4 h
  · exact rest2_st hS hg o x y u hk hn jk jn n1 n2 ts ls bk vk vn wk wn bn cs tv lv cv hR hx hm h1 h2 h3 h4 h
  · exact rest3_st hS hg o x y u hk hn jk jn n1 n2 ts ls bk vk vn wk wn bn cs tv lv cv hR hx hm h1 h2 h3 h4 h
  · exact rest13_st hS hg o x y u hk hn jk jn n1 n2 ts ls bk vk vn wk wn bn cs tv lv cv hR hx hm h1 h2 h3 h4 h

theorem heapB_len7 {h : HeapT} (k : plainH h = true) : (heapB h).length ≤ 12 := by
  have k : plainVal ⟨3, false, h⟩ = true := k
  have ok := plainVal_ok k
  rw [heapB_yes k]
  exact pHeap_len _ ok.2.1 ok.2.2
theorem pRest_len {i : InstrT} (hm : mayI i = true) (hs : SmI i) : (pRest i).length ≤ 1500000 := by
  obtain ⟨h1, h2, h3, h4⟩ := hs
  rcases shape_cases i.op with h | h | h | h | h | h | h | h | h | h | h | h
  · rw [rest1 h]; simp
  · rw [rest46 h]
    have := (idx_iff _).1 (inv46 h hm).1
    have := pNum_len i.x (by omega)
    omega
  · rw [rest7 h]
    have hp := (may_inv hm (part7 h)).1
    simp only [Bool.and_eq_true, idx_iff] at hp
    have := pNum_len i.x (by omega)
    have := pNum_len i.y (by omega)
    rw [List.length_append]; omega
  · rw [rest5 h]
    have hp := (may_inv hm (part5 h)).1
    simp only [Bool.and_eq_true, idx_iff] at hp
    have := pNum_len i.x (by omega)
    have := ls_len i.labels hp.2
    have := putU_len i.labels.length (by omega)
    unfold pList
    simp only [List.length_append]; omega
  · rw [rest8 h]
    have hp := (may_inv hm (part8 h)).1
    simp only [Bool.and_eq_true, idx_iff, decide_eq_true_eq] at hp
    have := pNum_len i.x (by omega)
    have := pNum_len (i.x + 64) (by omega)
    have := pNum_len i.y (by omega)
    have := putU_len i.u h4
    unfold memB
    split <;> simp only [List.length_append] <;> omega
  · rw [rest9 h]
    have hp := (may_inv hm (part9 h)).1
    simp only [decide_eq_true_eq] at hp
    obtain ⟨t1, t2, _⟩ := toI32_lt hp
    have := putS_len (toI32 i.u) (by omega) (by omega)
    omega
  · rw [rest10 h]
    obtain ⟨t1, t2, _⟩ := toI64_lt h4
    have := putS_len (toI64 i.u) (by omega) (by omega)
    omega
  · rw [rest11 h]
    have := heapB_len7 (may_inv hm (part11 h)).1
    omega
  · rw [rest12 h]
    have hp := (may_inv hm (part12 h)).1
    have := valsB_len i.types (fun t ht => plainVal_ok (List.all_eq_true.1 hp t ht)) h1
    omega
  · rw [rest2 h]
    have := pBlock_len (may_inv hm (part2 h)).1
    omega
  · rw [rest3 h]
    have hp := (may_inv hm (part3 h)).1
    simp only [Bool.and_eq_true] at hp
    have := pBlock_len hp.1
    have h5 : (i.catches.flatMap pCatch).length ≤ i.catches.length * 21 := flat_len7 i.catches fun c hc => pCatch_len (List.all_eq_true.1 hp.2 c hc)
    have := putU_len i.catches.length (by omega)
    unfold pList
    simp only [List.length_append]; omega
  · rw [rest13 h]
    have hp := (may_inv hm (part13 h)).1
    simp only [Bool.and_eq_true, idx_iff] at hp
    have := pNum_len i.x (by omega)
    have := heapB_len7 hp.1.2
    have := heapB_len7 hp.2
    simp only [List.length_append, List.length_cons, List.length_nil]; omega
theorem pOp_len {op : Int} (h0 : 0 ≤ op) : (pOp op).length ≤ 11 := by
  unfold pOp
  split
  · simp
  · have := pNum_len (op % 256) (by omega)
    simp only [List.length_cons]; omega
theorem pInstr_len {i : InstrT} (hm : mayI i = true) (hs : SmI i) : (pInstr i).length ≤ 1600000 := by
  have h1 := pRest_len hm hs
  have h2 := pOp_len (shape_ok (mayI_shape hm)).1
  unfold pInstr
  rw [List.length_append]; omega

theorem st_op {w : World} {v : Value} {op : Int} {Q : Ending → World → Prop} (h : ∃ S w0 G G' xs, St S w0 w G ∧ Pick G (.own 5 1 (v) (xs).length ((xs).map B)) G' ∧ (0 ≤ op ∧ op < 65536) ∧ xs.length ≤ 35184372088830 ∧ ∀ v' w', St S w0 w' (.own 5 1 (v') (xs ++ pOp op).length ((xs ++ pOp op).map B) :: G') → Q (.returned v') w') : Calls Tryd.prog 83 #[v, .int .i64 op] w Q := by
  obtain ⟨S, w0, G, G', xs, h1, h2, h3, h4, h5⟩ := h
  exact (putOp_st (h1.pick h2) op h3.1 h3.2 h4).mono fun e w' ⟨v', e1, e2⟩ => e1 ▸ h5 v' w' e2
theorem st_rest {w0 w : World} {v : Value} {i : InstrT} {tv lv cv : Value} {Q : Ending → World → Prop} (hg : Gl7 [] w0) (hR : InsR [] w0 i tv lv cv) (hm : mayI i = true) (hs : SmI i) (h : ∃ G G' xs, St [] w0 w G ∧ Pick G (.own 5 1 (v) (xs).length ((xs).map B)) G' ∧ xs.length ≤ 17592186044416 ∧ ∀ v' w', St [] w0 w' (.own 5 1 (v') (xs ++ pRest i).length ((xs ++ pRest i).map B) :: G') → Q (.returned v') w') : Calls Tryd.prog 82 #[v, .agg (insC i tv lv cv).toArray] w Q := by
  obtain ⟨G, G', xs, h1, h2, h4, h5⟩ := h
  exact (putRest_st (h1.pick h2) hg i tv lv cv hR h4 hm hs).mono fun e w' ⟨v', e1, e2⟩ => e1 ▸ h5 v' w' e2

set_option maxRecDepth 100000 in
set_option maxHeartbeats 3200000 in
theorem Put_any (hM : MayOk) {w : World} (hg : Gl7 [] w) (v : Value) (is : List InstrT) (ds : List Value) (h : Sl [] w 19 v is.length ds) (hs : InssR [] w is ds) (hl : is.length ≤ 65536) (hwf : ∀ i, i ∈ is → WfI i) (hsm : ∀ i, i ∈ is → SmI i) :
    Calls Tryd.prog 40 #[v] w fun e w' => ∃ v', e = .returned v' ∧ St [] w w' [.own 5 1 (v') (pExpr is).length ((pExpr is).map B)] := by
  have hS := St.start [] w
  have hh := h
  have hl40 : is.length ≤ 1099511627776 := by omega
  have hl39 : is.length ≤ 549755813000 := by omega
  obtain ⟨va, vc, rfl⟩ := h.shape
  cases ha : is.all mayI with
  | false =>
    have e : pExpr is = [] := by unfold pExpr; rw [ha]; rfl
    rw [e]
    have Ha := Lib.hid ha
    clear ha e
    go_enter Tryd.func40, Tryd.ntmps40
    go_wp2_with first | (go_at_call 81; (with_reducible refine (iall_ins hM _ ?_ _ is ds ?_ ?_ hl40 hwf).mono ?_); (· apply St.gl7 (hg := hg); (repeat (first | (with_reducible assumption) | (with_reducible apply St.alloc) | (with_reducible apply St.drew) | (with_reducible apply St.drewN) | (with_reducible apply St.alloc') | (with_reducible apply St.set) | (with_reducible exact Pick.here) | (with_reducible apply Pick.there)))); (· (apply St.sl (hs := h); (repeat (first | (with_reducible assumption) | (with_reducible apply St.alloc) | (with_reducible apply St.drew) | (with_reducible apply St.drewN) | (with_reducible apply St.alloc') | (with_reducible apply St.set) | (with_reducible exact Pick.here) | (with_reducible apply Pick.there))))); (· exact hS.inss hs); rintro e w2 ⟨rfl, hF2⟩; (try rw [Ha.out]); refine st_fr hF2 ?_; (repeat (apply Exists.intro)); refine ⟨?_, ?_⟩; (· (repeat (first | (with_reducible assumption) | (with_reducible apply St.alloc) | (with_reducible apply St.drew) | (with_reducible apply St.drewN) | (with_reducible apply St.alloc') | (with_reducible apply St.set) | (with_reducible exact Pick.here) | (with_reducible apply Pick.there)))); (try simp only [World.size_alloc, World.size_setCell, size_drew, size_drewN]); intro hS; (try clear hQ); have hQ := St.facts hS; simp only [Facts, Res.fact, List.cons_append, List.nil_append, true_and, and_true] at hQ)
    go_ret
    exact ⟨_, rfl, hS.dst (.nil rfl)⟩
  | true =>
    have Ha := Lib.hid ha
    cases hn : nested is with
    | false =>
      have e : pExpr is = [] := by unfold pExpr; rw [ha, hn]; rfl
      rw [e]
      have Hn := Lib.hid hn
      clear ha hn e
      go_enter Tryd.func40, Tryd.ntmps40
      go_wp2_with first | (go_at_call 81; (with_reducible refine (iall_ins hM _ ?_ _ is ds ?_ ?_ hl40 hwf).mono ?_); (· apply St.gl7 (hg := hg); (repeat (first | (with_reducible assumption) | (with_reducible apply St.alloc) | (with_reducible apply St.drew) | (with_reducible apply St.drewN) | (with_reducible apply St.alloc') | (with_reducible apply St.set) | (with_reducible exact Pick.here) | (with_reducible apply Pick.there)))); (· (apply St.sl (hs := h); (repeat (first | (with_reducible assumption) | (with_reducible apply St.alloc) | (with_reducible apply St.drew) | (with_reducible apply St.drewN) | (with_reducible apply St.alloc') | (with_reducible apply St.set) | (with_reducible exact Pick.here) | (with_reducible apply Pick.there))))); (· exact hS.inss hs); rintro e w2 ⟨rfl, hF2⟩; (try rw [Ha.out]); refine st_fr hF2 ?_; (repeat (apply Exists.intro)); refine ⟨?_, ?_⟩; (· (repeat (first | (with_reducible assumption) | (with_reducible apply St.alloc) | (with_reducible apply St.drew) | (with_reducible apply St.drewN) | (with_reducible apply St.alloc') | (with_reducible apply St.set) | (with_reducible exact Pick.here) | (with_reducible apply Pick.there)))); (try simp only [World.size_alloc, World.size_setCell, size_drew, size_drewN]); intro hS; (try clear hQ); have hQ := St.facts hS; simp only [Facts, Res.fact, List.cons_append, List.nil_append, true_and, and_true] at hQ) | (go_at_call 41; (with_reducible refine (nested_any _ _ is ds ?_ ?_ hl39).mono ?_); (· (apply St.sl (hs := h); (repeat (first | (with_reducible assumption) | (with_reducible apply St.alloc) | (with_reducible apply St.drew) | (with_reducible apply St.drewN) | (with_reducible apply St.alloc') | (with_reducible apply St.set) | (with_reducible exact Pick.here) | (with_reducible apply Pick.there))))); (· exact hS.inss hs); rintro e w2 ⟨rfl, hF2⟩; (try rw [Hn.out]); refine st_fr hF2 ?_; (repeat (apply Exists.intro)); refine ⟨?_, ?_⟩; (· (repeat (first | (with_reducible assumption) | (with_reducible apply St.alloc) | (with_reducible apply St.drew) | (with_reducible apply St.drewN) | (with_reducible apply St.alloc') | (with_reducible apply St.set) | (with_reducible exact Pick.here) | (with_reducible apply Pick.there)))); (try simp only [World.size_alloc, World.size_setCell, size_drew, size_drewN]); intro hS; (try clear hQ); have hQ := St.facts hS; simp only [Facts, Res.fact, List.cons_append, List.nil_append, true_and, and_true] at hQ)
      go_ret
      exact ⟨_, rfl, hS.dst (.nil rfl)⟩
    | true =>
      have e : pExpr is = is.flatMap pInstr ++ [UInt8.ofNat (11 : Int).toNat] := by unfold pExpr; rw [ha, hn]; rfl
      rw [e]
      have Hn := Lib.hid hn
      clear ha hn e
      go_enter Tryd.func40, Tryd.ntmps40
      go_wp2_with first | (go_at_call 81; (with_reducible refine (iall_ins hM _ ?_ _ is ds ?_ ?_ hl40 hwf).mono ?_); (· apply St.gl7 (hg := hg); (repeat (first | (with_reducible assumption) | (with_reducible apply St.alloc) | (with_reducible apply St.drew) | (with_reducible apply St.drewN) | (with_reducible apply St.alloc') | (with_reducible apply St.set) | (with_reducible exact Pick.here) | (with_reducible apply Pick.there)))); (· (apply St.sl (hs := h); (repeat (first | (with_reducible assumption) | (with_reducible apply St.alloc) | (with_reducible apply St.drew) | (with_reducible apply St.drewN) | (with_reducible apply St.alloc') | (with_reducible apply St.set) | (with_reducible exact Pick.here) | (with_reducible apply Pick.there))))); (· exact hS.inss hs); rintro e w2 ⟨rfl, hF2⟩; (try rw [Ha.out]); refine st_fr hF2 ?_; (repeat (apply Exists.intro)); refine ⟨?_, ?_⟩; (· (repeat (first | (with_reducible assumption) | (with_reducible apply St.alloc) | (with_reducible apply St.drew) | (with_reducible apply St.drewN) | (with_reducible apply St.alloc') | (with_reducible apply St.set) | (with_reducible exact Pick.here) | (with_reducible apply Pick.there)))); (try simp only [World.size_alloc, World.size_setCell, size_drew, size_drewN]); intro hS; (try clear hQ); have hQ := St.facts hS; simp only [Facts, Res.fact, List.cons_append, List.nil_append, true_and, and_true] at hQ) | (go_at_call 41; (with_reducible refine (nested_any _ _ is ds ?_ ?_ hl39).mono ?_); (· (apply St.sl (hs := h); (repeat (first | (with_reducible assumption) | (with_reducible apply St.alloc) | (with_reducible apply St.drew) | (with_reducible apply St.drewN) | (with_reducible apply St.alloc') | (with_reducible apply St.set) | (with_reducible exact Pick.here) | (with_reducible apply Pick.there))))); (· exact hS.inss hs); rintro e w2 ⟨rfl, hF2⟩; (try rw [Hn.out]); refine st_fr hF2 ?_; (repeat (apply Exists.intro)); refine ⟨?_, ?_⟩; (· (repeat (first | (with_reducible assumption) | (with_reducible apply St.alloc) | (with_reducible apply St.drew) | (with_reducible apply St.drewN) | (with_reducible apply St.alloc') | (with_reducible apply St.set) | (with_reducible exact Pick.here) | (with_reducible apply Pick.there)))); (try simp only [World.size_alloc, World.size_setCell, size_drew, size_drewN]); intro hS; (try clear hQ); have hQ := St.facts hS; simp only [Facts, Res.fact, List.cons_append, List.nil_append, true_and, and_true] at hQ)
      go_loopw [3, 16] (fun u n wr => ∃ (k : Nat), n = .int .i64 k ∧ k ≤ is.length ∧ St [] w wr [.own 5 1 (u) ((is.take k).flatMap pInstr).length (((is.take k).flatMap pInstr).map B)]) (fun _ n _ => is.length - (intOf n).toNat)
      case atStart => exact ⟨0, rfl, by omega, hS.dst (.nil rfl)⟩
      case round =>
        obtain ⟨k, rfl, hk2, hS⟩ := hrel
        have lK : ((is.take k).flatMap pInstr).length ≤ (is.take k).length * 1600000 := flat_len7 _ fun i hi => pInstr_len (List.all_eq_true.1 Ha.out i (List.mem_of_mem_take hi)) (hsm i (List.mem_of_mem_take hi))
        rw [List.length_take] at lK
        by_cases hlt : k < is.length
        · obtain ⟨i, hi⟩ : ∃ t, is[k]? = some t := ⟨is[k], by simp [hlt]⟩
          have hmem := List.mem_of_getElem? hi
          have hmi := List.all_eq_true.1 Ha.out i hmem
          have hsi := hsm i hmem
          have hop := shape_ok (mayI_shape hmi)
          have lI := pOp_len hop.1
          have hop1 : 0 ≤ i.op ∧ i.op < 65536 := by have := hop.1; have := hop.2.1; omega
          obtain ⟨b, off, cap2, tv, lv, cv, hv, hb, hnS, hR, hc⟩ := Sl.ins_elem hh hs k i hi
          injection hv with hv1 hv2 hv3
          subst hv1 hv3
          have hbw : b < wr.heap.size := Nat.lt_of_lt_of_le hb hS.fr.size
          have hc2 : ∀ r, r < 19 → wr.cell? ⟨b, off + (k * 19 + r), none⟩ = (insC i tv lv cv)[r]? := fun r hr => (hS.fr.cell hb (by simp) _).trans (hc r hr)
          obtain ⟨ta, tc, rfl⟩ := hR.1.shape
          obtain ⟨la, lc, rfl⟩ := hR.2.1.shape
          obtain ⟨ca, cc, rfl⟩ := hR.2.2.shape
          have hRow : wr.rangeAt b (off + k * 19) (insC i (.slice ta i.types.length tc) (.slice la i.labels.length lc) (.slice ca i.catches.length cc)) := fun r v hv => by
            rw [Nat.add_assoc, hc2 r (List.getElem?_eq_some_iff.1 hv).1]
            exact hv
          have hOne : ∀ v ∈ insC i (.slice ta i.types.length tc) (.slice la i.labels.length lc) (.slice ca i.catches.length cc), v.oneCell' = true := by simp [insC, Value.oneCell']
          have e : (is.take (k + 1)).flatMap pInstr = (is.take k).flatMap pInstr ++ pOp i.op ++ pRest i := by
            rw [List.take_add_one, hi]; simp [pInstr]
          have E := Lib.hid e
          clear e hi hc hnS hc2 hop
          go_wp2_with first | (refine st_load (ty := 81) rfl rfl rfl und_ins rfl ?_; (repeat (apply Exists.intro)); refine ⟨?_, ?_, ?_, ?_⟩; (· (repeat (first | (with_reducible assumption) | (with_reducible apply St.alloc) | (with_reducible apply St.drew) | (with_reducible apply St.drewN) | (with_reducible apply St.alloc') | (with_reducible apply St.set) | (with_reducible exact Pick.here) | (with_reducible apply Pick.there)))); (· (try simp only [World.size_alloc, World.size_setCell, size_drew, size_drewN]); apply RowAt.elem; exact hRow); (· exact size_ins)) | (refine st_store (ty := 81) rfl rfl rfl rfl ?_; (repeat (apply Exists.intro)); refine ⟨?_, ?_, ?_, ?_, ?_, ?_⟩; (· (repeat (first | (with_reducible assumption) | (with_reducible apply St.alloc) | (with_reducible apply St.drew) | (with_reducible apply St.drewN) | (with_reducible apply St.alloc') | (with_reducible apply St.set) | (with_reducible exact Pick.here) | (with_reducible apply Pick.there)))); (· (try simp only [World.size_alloc, World.size_setCell, size_drew, size_drewN]); ((try simp only [World.size_alloc, World.size_setCell, size_drew, size_drewN]); repeat (first | (exact Pick.here) | (with_reducible apply Pick.there)))); (· rfl); (· exact size_ins); (· exact hOne); intro wN hS; (try clear hQ); have hQ := St.facts hS; simp only [Facts, Res.fact, List.cons_append, List.nil_append, true_and, and_true] at hQ)
          have hbox : Loc _ wr.heap.size (insC i (.slice ta i.types.length tc) (.slice la i.labels.length lc) (.slice ca i.catches.length cc)) 81 := hS.loc (by ((try simp only [World.size_alloc, World.size_setCell, size_drew, size_drewN]); repeat (first | (exact Pick.here) | (with_reducible apply Pick.there))))
          refine wp_region_held_drew (S := fun w' => w'.rangeAt wr.heap.size 0 (insC i (.slice ta i.types.length tc) (.slice la i.labels.length lc) (.slice ca i.catches.length cc))) (by kernel_rfl) (Loc.range (Loc.drew hbox)) (fun hr => ?_)
          have hS := hS.drew
          refine wpAnyH_take (i := 0) (v := u3) rfl (by kernel_rfl) (by kernel_rfl) (by kernel_rfl) (fun _ _ _ h => h) (Or.inl ⟨by rfl, fun _ _ => by go_simp⟩) hr ?_
          simp only [Act.put, List.setIfInBounds_toArray, List.set_cons_zero, List.set_cons_succ]
          refine wpAnyH_take (i := 1) (v := .pointer (some ⟨wr.heap.size, 0, none⟩)) rfl (by kernel_rfl) (by kernel_rfl) (by kernel_rfl) (fun _ _ _ h => h) (Or.inl ⟨by rfl, fun _ _ => by go_simp⟩) hr ?_
          simp only [Act.put, List.setIfInBounds_toArray, List.set_cons_zero, List.set_cons_succ]
          refine wpAnyH_take (i := 2) (v := .int .i64 i.op) rfl (by kernel_rfl) (by kernel_rfl) (by kernel_rfl) (fun _ _ _ h => h) (Or.inl ⟨by rfl, fun w' hw' => by
            have hc : w'.cell? ⟨wr.heap.size, 0, none⟩ = some (.int .i64 i.op) := hw' 0 _ rfl
            go_simp⟩) hr ?_
          simp only [Act.put, List.setIfInBounds_toArray, List.set_cons_zero, List.set_cons_succ]
          refine wpAnyH_take (i := 4) (v := .agg (List.toArray (insC i (.slice ta i.types.length tc) (.slice la i.labels.length lc) (.slice ca i.catches.length cc)))) rfl (by kernel_rfl) (by kernel_rfl) (by kernel_rfl) (fun _ _ _ h => h) (yieldsIf_load_mid rfl 81 _ rfl wr.heap.size 0 rfl (insC i (.slice ta i.types.length tc) (.slice la i.labels.length lc) (.slice ca i.catches.length cc)) _ (fun _ h => h) und_ins rfl size_ins) hr ?_
          simp only [Act.put, List.setIfInBounds_toArray, List.set_cons_zero, List.set_cons_succ]
          refine wpAnyH_ready (rs := [3]) (by kernel_rfl) (by simp) ?_; refine AllReadyH.cons rfl (fun K hK => ?_) AllReadyH.nil; rw [if_pos (by rfl)]; go_simp
          refine st_op ?_
          (repeat (apply Exists.intro))
          refine ⟨?_, ?_, ?_, ?_, ?_⟩
          · (repeat (first | (with_reducible assumption) | (with_reducible apply St.alloc) | (with_reducible apply St.drew) | (with_reducible apply St.drewN) | (with_reducible apply St.alloc') | (with_reducible apply St.set) | (with_reducible exact Pick.here) | (with_reducible apply Pick.there)))
          · (try simp only [World.size_alloc, World.size_setCell, size_drew, size_drewN]); ((try simp only [World.size_alloc, World.size_setCell, size_drew, size_drewN]); repeat (first | (exact Pick.here) | (with_reducible apply Pick.there)))
          · exact hop1
          · (first | (simp only [List.length_append, List.length_cons, List.length_nil, List.length_map]; done) | (simp only [List.length_append, List.length_cons, List.length_nil, List.length_map]; omega) | omega)
          intro vN wN hS
          refine hK.out _ _ (by exact Loc.range (hS.loc (by ((try simp only [World.size_alloc, World.size_setCell, size_drew, size_drewN]); repeat (first | (exact Pick.here) | (with_reducible apply Pick.there)))))) (fun hr => ?_); clear hK K
          refine wpAnyH_ready (rs := [5]) (by kernel_rfl) (by simp) ?_; refine AllReadyH.cons rfl (fun K hK => ?_) AllReadyH.nil; rw [if_pos (by rfl)]; go_simp
          refine st_rest hg hR hmi hsi ?_
          (repeat (apply Exists.intro))
          refine ⟨?_, ?_, ?_, ?_⟩
          · (repeat (first | (with_reducible assumption) | (with_reducible apply St.alloc) | (with_reducible apply St.drew) | (with_reducible apply St.drewN) | (with_reducible apply St.alloc') | (with_reducible apply St.set) | (with_reducible exact Pick.here) | (with_reducible apply Pick.there)))
          · (try simp only [World.size_alloc, World.size_setCell, size_drew, size_drewN]); ((try simp only [World.size_alloc, World.size_setCell, size_drew, size_drewN]); repeat (first | (exact Pick.here) | (with_reducible apply Pick.there)))
          · (first | (simp only [List.length_append, List.length_cons, List.length_nil, List.length_map]; done) | (simp only [List.length_append, List.length_cons, List.length_nil, List.length_map]; omega) | omega)
          intro vM wM hS
          refine hK.out _ _ (by exact Loc.range (hS.loc (by ((try simp only [World.size_alloc, World.size_setCell, size_drew, size_drewN]); repeat (first | (exact Pick.here) | (with_reducible apply Pick.there)))))) (fun hr => ?_); clear hK K
          refine wpAnyH_take (i := 6) (v := vM) rfl (by kernel_rfl) (by kernel_rfl) (by kernel_rfl) (fun _ _ _ h => h) (Or.inl ⟨by rfl, fun _ _ => by go_simp⟩) hr ?_
          refine wpAnyH_done (by kernel_rfl) ?_ _
          clear hr hbox
          simp only [Act.put, List.setIfInBounds_toArray, List.set_cons_zero, List.set_cons_succ]
          go_wp2
          go_roundw
          case rel =>
            refine ⟨k + 1, by go_num, by omega, ?_⟩
            rw [E.out]
            exact hS.sel (by ((try simp only [World.size_alloc, World.size_setCell, size_drew, size_drewN]); repeat (first | (exact Sel.all) | (exact Sel.nil) | (apply Sel.cons; (· ((try simp only [World.size_alloc, World.size_setCell, size_drew, size_drewN]); repeat (first | (exact Pick.here) | (with_reducible apply Pick.there))); done)) | (apply Sel.skip))))
          case measure => simp [intOf]; omega
        · obtain rfl : k = is.length := by omega
          rw [List.take_length] at hS lK
          go_wp2_with first | (at_builtin; refine st_app rfl rfl rfl rfl ?_; (repeat (apply Exists.intro)); refine ⟨?_, ?_, ?_, ?_, ?_⟩; (· (repeat (first | (with_reducible assumption) | (with_reducible apply St.alloc) | (with_reducible apply St.drew) | (with_reducible apply St.drewN) | (with_reducible apply St.alloc') | (with_reducible apply St.set) | (with_reducible exact Pick.here) | (with_reducible apply Pick.there)))); (· (try simp only [World.size_alloc, World.size_setCell, size_drew, size_drewN]); first | (apply Dst.own; ((try simp only [World.size_alloc, World.size_setCell, size_drew, size_drewN]); repeat (first | (exact Pick.here) | (with_reducible apply Pick.there))); done) | (apply Dst.lit; (· ((try simp only [World.size_alloc, World.size_setCell, size_drew, size_drewN]); repeat (first | (exact Pick.here) | (with_reducible apply Pick.there)))); (· omega)) | (apply Dst.nil; rfl)); (· (try simp only [World.size_alloc, World.size_setCell, size_drew, size_drewN]); first | (apply SrcOf.own; ((try simp only [World.size_alloc, World.size_setCell, size_drew, size_drewN]); repeat (first | (exact Pick.here) | (with_reducible apply Pick.there))); done) | (apply SrcOf.lit; (· ((try simp only [World.size_alloc, World.size_setCell, size_drew, size_drewN]); repeat (first | (exact Pick.here) | (with_reducible apply Pick.there)))); (· omega)) | (apply SrcOf.arg; assumption)); (· (first | (simp only [List.length_append, List.length_cons, List.length_nil, List.length_map]; done) | (simp only [List.length_append, List.length_cons, List.length_nil, List.length_map]; omega) | omega)); intro vN wN hS; (try clear hQ); have hQ := St.facts hS; simp only [Facts, Res.fact, List.cons_append, List.nil_append, true_and, and_true] at hQ)
          go_ret
          exact ⟨vN, rfl, hS.sel (by ((try simp only [World.size_alloc, World.size_setCell, size_drew, size_drewN]); repeat (first | (exact Sel.all) | (exact Sel.nil) | (apply Sel.cons; (· ((try simp only [World.size_alloc, World.size_setCell, size_drew, size_drewN]); repeat (first | (exact Pick.here) | (with_reducible apply Pick.there))); done)) | (apply Sel.skip))))⟩
end Go.Proofs.YtokneepfknepaaaDoor

set_option linter.unusedSimpArgs false
set_option linter.unusedVariables false
namespace Go.Proofs.YtokneepfknepaaaDoor
open Go.RowKit

structure RSt (S : List Nat) (w0 w : World) (rb : Nat) (bv : Value) (bs : List UInt8) (s : RdS) (G : List Res) : Prop where
  st : St [rb] w0 w G
  org : ∃ s0, Rd S w0 rb bv bs s0
  loc : Loc w rb (rdCells rb bv s) 28
  le : s.at_ ≤ bs.length
section
variable {S : List Nat} {w0 w w' : World} {rb : Nat} {bv : Value} {bs : List UInt8} {s s' : RdS} {G G' : List Res}
theorem RSt.rd (h : RSt S w0 w rb bv bs s G) : Rd S w rb bv bs s := by
  obtain ⟨s0, h0⟩ := h.org
  exact h0.step h.st.fr h.loc h.le
theorem RSt.start (h : Rd S w rb bv bs s) : RSt S w w rb bv bs s [] := ⟨St.start _ _, ⟨s, h⟩, h.loc, h.le⟩
theorem RSt.lt (h : RSt S w0 w rb bv bs s G) : rb < w0.heap.size := by
  obtain ⟨s0, h0⟩ := h.org
  exact h0.loc.lt
theorem RSt.step0 (h : RSt S w0 w rb bv bs s G) (hf : Fr [] w w') : RSt S w0 w' rb bv bs s G := ⟨h.st.step0 hf, h.org, h.loc.fr hf (by simp), h.le⟩
theorem RSt.call (h : RSt S w0 w rb bv bs s G) (hR : Rd S w' rb bv bs s') (hf : Fr [rb] w w') : RSt S w0 w' rb bv bs s' G :=
  ⟨h.st.step hf (fun b hb => ⟨hb, by simp at hb; subst hb; exact h.lt⟩), h.org, hR.loc, hR.le⟩
/-- What else is the call's own has changed. -/
theorem RSt.other (h : RSt S w0 w rb bv bs s G) {X : List Nat} (k : St [rb] w0 w' G') (hf : Fr X w w') (hx : rb ∉ X) : RSt S w0 w' rb bv bs s G' := ⟨k, h.org, h.loc.fr hf hx, h.le⟩
theorem RSt.alloc (h : RSt S w0 w rb bv bs s G) (cs : List Value) (T : TypeId) : RSt S w0 (w.alloc (.cells cs.toArray T)) rb bv bs s (.loc w.heap.size cs T :: G) :=
  h.other (X := []) (h.st.alloc cs T) ((Fr.refl _ _).alloc _) (by simp)
theorem RSt.drew (h : RSt S w0 w rb bv bs s G) : RSt S w0 w.drew rb bv bs s G := h.step0 ((Fr.refl _ _).drew)
theorem RSt.drewN (h : RSt S w0 w rb bv bs s G) (n : Nat) : RSt S w0 (w.drewN n) rb bv bs s G := h.step0 ((Fr.refl _ _).drewN n)
theorem RSt.away (h : RSt S w0 w rb bv bs s G) {b : Nat} {cs : List Value} {T : TypeId} (p : Pick G (.loc b cs T) G') : rb ∉ [b] := by
  have h1 := (h.st.pick p).new _ List.mem_cons_self b (by simp [Res.blk])
  have h2 := h.lt
  simp
  omega
theorem RSt.set (h : RSt S w0 w rb bv bs s G) {b : Nat} {cs : List Value} {T : TypeId} (p : Pick G (.loc b cs T) G') (i : Nat) (u : Value) : RSt S w0 (w.setCell ⟨b, i, none⟩ u) rb bv bs s (.loc b (cs.set i u) T :: G') :=
  h.other (h.st.set p i u) ((Fr.refl [b] w).setCell (p := ⟨b, i, none⟩) (by simp) u) (h.away p)
theorem RSt.setAll (h : RSt S w0 w rb bv bs s G) {b : Nat} {cs vs : List Value} {T : TypeId} (p : Pick G (.loc b cs T) G') (hl : vs.length = cs.length) : RSt S w0 (w.setCells b 0 vs) rb bv bs s (.loc b vs T :: G') :=
  h.other (h.st.setAll p hl) (Fr.setCells vs 0 w) (h.away p)
theorem RSt.gl7 (h : RSt S w0 w rb bv bs s G) (hg : Gl7 S w0) : Gl7 [] w := by
  obtain ⟨s0, h0⟩ := h.org
  refine (hg.fr (S' := [rb]) h.st.fr (fun b _ hb => ?_)).sub (by simp)
  simp at hb
  subst hb
  exact h0.mem
theorem RSt.gl7' (h : RSt S w0 w rb bv bs s G) (hg : Gl7 S w0) : Gl7 S w := by
  obtain ⟨s0, h0⟩ := h.org
  refine hg.fr (S' := [rb]) h.st.fr (fun b _ hb => ?_)
  simp at hb
  subst hb
  exact h0.mem
theorem rst_go {P : Prop} (hR : Rd S w' rb bv bs s') (hf : Fr [rb] w w') (h : ∃ w0 G s, RSt S w0 w rb bv bs s G ∧ (RSt S w0 w' rb bv bs s' G → P)) : P := by
  obtain ⟨w0, G, s, h1, h2⟩ := h
  exact h2 (h1.call hR hf)
theorem rst_fr {P : Prop} (k : Fr [] w w') (h : ∃ S w0 rb bv bs s G, RSt S w0 w rb bv bs s G ∧ (RSt S w0 w' rb bv bs s G → P)) : P := by
  obtain ⟨S, w0, rb, bv, bs, s, G, h1, h2⟩ := h
  exact h2 (h1.step0 k)
theorem RSt.fr (h : RSt S w0 w rb bv bs s G) : Fr [rb] w0 w := h.st.fr
variable {P : Program} {ops : Array Oper} {rest : List Oper} {o : Oper} {a : Act} {Q : Exit → Act → World → Prop}
theorem rst_store {ty : TypeId} {x y : Operand} {b : Nat} {vs : List Value} (hgd : o.guard = none) (ho : o.op = .store ty x y) (hx : a.eval x = .pointer (some ⟨b, 0, none⟩)) (hy : a.eval y = .agg vs.toArray)
    (h : ∃ S w0 rb bv bs s G G' cs T, RSt S w0 w rb bv bs s G ∧ Pick G (.loc b cs T) G' ∧ vs.length = cs.length ∧ (P.info? ty).map (·.size) = some vs.length ∧ (∀ v ∈ vs, v.oneCell' = true) ∧ ∀ w', RSt S w0 w' rb bv bs s (.loc b vs T :: G') → Fr [b] w w' → wpList P ops Q rest (a.put o.dst undef) w') : wpList P ops Q (o :: rest) a w := by
  obtain ⟨S, w0, rb, bv, bs, s, G, G', cs, T, hst, hp, hl, hi, h1, h⟩ := h
  refine wpList_store_mid hgd ty x y ho b 0 vs.toArray hx hy ?_ (by simpa using hi) (all_oneCell_toArray h1) ?_
  · have := (hst.st.loc hp).there
    simpa [hl] using this
  · simpa using h _ (hst.setAll hp hl) (Fr.setCells vs 0 w)
/-- A slice of the call's own, to be read behind it. -/
theorem RSt.sl (h : RSt S w0 w rb bv bs s G) {e : TypeId} {k n : Nat} {v : Value} {xs : List Value} (p : Pick G (.own e k v n xs) G') : Sl S w k v n xs := by
  have h1 := h.st.pick p
  have h3 : Own [] w e k v n xs := h1.head
  refine Own.sl h3 (S' := S) (fun b hb hm => ?_)
  obtain ⟨s0, h0⟩ := h.org
  have h2 := h1.new _ List.mem_cons_self b (by simpa [Res.blk] using hb)
  have h4 := h0.lt b hm
  omega
/-- With more that may be written: what is the call's own. -/
theorem RSt.wide (h : RSt S w0 w rb bv bs s G) {S' : List Nat} (hs : ∀ b, b ∈ S' → b ∈ S ∨ w0.heap.size ≤ b) (hlt : ∀ b, b ∈ S' → b < w.heap.size) (hm : ∀ b, b ∈ S → b ∈ S') : Rd S' w rb bv bs s := by
  have hR := h.rd
  obtain ⟨s0, h0⟩ := h.org
  have hh : ∀ b, b < w0.heap.size → b ∈ S' → b ∈ S := fun b hb hm => (hs b hm).elim id (fun h => by omega)
  have hr : ∀ b, b < w0.heap.size → b ∈ [rb] → b ∈ S' := fun b _ hb => by simp at hb; subst hb; exact hm _ h0.mem
  exact ⟨hm _ h0.mem, hlt, hR.loc, (h0.sl.sub hh).fr h.st.fr hr, (h0.gl.sub hh).fr h.st.fr hr, hR.le, hR.small⟩
theorem rst_appT {s1 x : Operand} {v xv : Value} {t tx e e' : TypeId} {i : TypeInfo} {z : Value} {k bytes : Nat} (hgd : o.guard = none)
    (ho : o.op = .call { callee := .builtin .append, args := #[s1, x], argTypes := #[t, tx] }) (hs : a.eval s1 = v) (hx : a.eval x = xv)
    (ht : P.underlying t = some (.slice e)) (htx : P.underlying tx = some (.slice e')) (hi : P.info? e = some i) (hz : i.zero = some z) (hsize : i.size = k) (hby : i.bytes = bytes) (hzs : z.cells.size = k) (hk : 0 < k) {L : Nat} (hL : L * bytes ≤ 140737488355328) (hL2 : L ≤ 1099511627776)
    (h : ∃ S w0 rb bv bs s G G' n xs m news, RSt S w0 w rb bv bs s G ∧ DstT e k G v n xs G' ∧ SrcT e k G w xv m news ∧ n + m ≤ L ∧
      ∀ v' w', RSt S w0 w' rb bv bs s (.own e k v' (n + m) (xs ++ news) :: G') → wpList P ops Q rest (a.put o.dst v') w') :
    wpList P ops Q (o :: rest) a w := by
  obtain ⟨S, w0, rb, bv, bs, s, G, G', n, xs, m, news, hst, hp, hsrc, hb, h⟩ := h
  have hd := hst.st.dstT hp
  refine wpList_app hgd s1 x t tx ho e i z k bytes ht hi hz hsize hby hzs hk [] (by simp) v n xs hs hd.head xv m news hx (hsrc.src htx hst.st) ?_ (by unfold maxLen; omega) fun v' w' ho' hf hb' => h v' w' (hst.other (hd.app hf ho' hb') hf (fun hm => ?_))
  · exact Nat.le_trans (Nat.mul_le_mul_right _ hb) (Nat.le_trans hL (by decide))
  · have h1 := hd.new _ List.mem_cons_self rb (by simpa [Res.blk] using hm)
    have h2 := hst.lt
    omega
end
theorem und_ints : Tryd.prog.underlying 76 = some (.slice 3) := by kernel_rfl
theorem info_int : (Tryd.prog.info? 3).map (fun i => (i.zero, i.size, i.bytes)) = some (some (.int .i64 0), 1, 8) := by kernel_rfl
theorem und_catches : Tryd.prog.underlying 79 = some (.slice 140) := by kernel_rfl
theorem info_catch : (Tryd.prog.info? 140).map (fun i => (i.zero, i.size, i.bytes)) = some (some (.agg #[.int .i64 0, .int .i64 0, .int .i64 0]), 3, 24) := by kernel_rfl
theorem und_inss : Tryd.prog.underlying 72 = some (.slice 81) := by kernel_rfl
theorem info_ins : (Tryd.prog.info? 81).map (fun i => (i.zero, i.size, i.bytes)) = some (some (.agg (insC (InstrT.of 0) (.slice none 0 0) (.slice none 0 0) (.slice none 0 0)).toArray), 19, 192) := by kernel_rfl
theorem rapp_int {w : World} {ops : Array Oper} {rest : List Oper} {o : Oper} {a : Act} {Q : Exit → Act → World → Prop} {s1 x : Operand} {v xv : Value} (hgd : o.guard = none)
    (ho : o.op = .call { callee := .builtin .append, args := #[s1, x], argTypes := #[76, 76] }) (hs : a.eval s1 = v) (hx : a.eval x = xv)
    (h : ∃ S w0 rb bv bs s G G' n xs m news, RSt S w0 w rb bv bs s G ∧ DstT 3 1 G v n xs G' ∧ SrcT 3 1 G w xv m news ∧ n + m ≤ 1099511627776 ∧
      ∀ v' w', RSt S w0 w' rb bv bs s (.own 3 1 v' (n + m) (xs ++ news) :: G') → wpList Tryd.prog ops Q rest (a.put o.dst v') w') :
    wpList Tryd.prog ops Q (o :: rest) a w := by
  obtain ⟨i0, hi, hz0, hz1, hz2⟩ := info_parts info_int
  exact rst_appT hgd ho hs hx und_ints und_ints hi hz0 hz1 hz2 rfl (by decide) (L := 1099511627776) (by decide) (by decide) h
theorem rapp_catch {w : World} {ops : Array Oper} {rest : List Oper} {o : Oper} {a : Act} {Q : Exit → Act → World → Prop} {s1 x : Operand} {v xv : Value} (hgd : o.guard = none)
    (ho : o.op = .call { callee := .builtin .append, args := #[s1, x], argTypes := #[79, 79] }) (hs : a.eval s1 = v) (hx : a.eval x = xv)
    (h : ∃ S w0 rb bv bs s G G' n xs m news, RSt S w0 w rb bv bs s G ∧ DstT 140 3 G v n xs G' ∧ SrcT 140 3 G w xv m news ∧ n + m ≤ 1099511627776 ∧
      ∀ v' w', RSt S w0 w' rb bv bs s (.own 140 3 v' (n + m) (xs ++ news) :: G') → wpList Tryd.prog ops Q rest (a.put o.dst v') w') :
    wpList Tryd.prog ops Q (o :: rest) a w := by
  obtain ⟨i0, hi, hz0, hz1, hz2⟩ := info_parts info_catch
  exact rst_appT hgd ho hs hx und_catches und_catches hi hz0 hz1 hz2 rfl (by decide) (L := 1099511627776) (by decide) (by decide) h
theorem rapp_ins {w : World} {ops : Array Oper} {rest : List Oper} {o : Oper} {a : Act} {Q : Exit → Act → World → Prop} {s1 x : Operand} {v xv : Value} (hgd : o.guard = none)
    (ho : o.op = .call { callee := .builtin .append, args := #[s1, x], argTypes := #[72, 72] }) (hs : a.eval s1 = v) (hx : a.eval x = xv)
    (h : ∃ S w0 rb bv bs s G G' n xs m news, RSt S w0 w rb bv bs s G ∧ DstT 81 19 G v n xs G' ∧ SrcT 81 19 G w xv m news ∧ n + m ≤ 549755813888 ∧
      ∀ v' w', RSt S w0 w' rb bv bs s (.own 81 19 v' (n + m) (xs ++ news) :: G') → wpList Tryd.prog ops Q rest (a.put o.dst v') w') :
    wpList Tryd.prog ops Q (o :: rest) a w := by
  obtain ⟨i0, hi, hz0, hz1, hz2⟩ := info_parts info_ins
  exact rst_appT hgd ho hs hx und_inss und_inss hi hz0 hz1 hz2 rfl (by decide) (L := 549755813888) (by decide) (by decide) h
/-- The call's result is a struct of its own. -/
theorem rst_ret {P : Program} {w : World} {fn : Func} {R : Ending → World → Prop} {a : Act} {p : Tmp} {ty : TypeId} {d : TypeDesc} {g : Nat} (h : fn.results = #[.cell p ty]) (hp : a.tmps.getD p undef = .pointer (some ⟨g, 0, none⟩))
    (hu : P.underlying ty = some d) (hd : (match d with | .struct _ | .array _ _ => true | _ => false) = true) (hdf : a.defers = []) 
    (hx : ∃ S w0 rb bv bs s G G' T cs, RSt S w0 w rb bv bs s G ∧ Pick G (.loc g cs T) G' ∧ (P.info? ty).map (·.size) = some cs.length ∧ R (.returned (.agg cs.toArray)) w) :
    bodyPost P fn R .ret a w := by
  obtain ⟨S, w0, rb, bv, bs, s, G, G', T, cs, hst, pk, hi, hR⟩ := hx
  exact ret_cell h hp (hst.st.loc pk) hu hd hi hdf hR
/-- Another reader, opened in between. -/
theorem RSt.alone {S : List Nat} {w0 w w1 w2 : World} {rb : Nat} {bv : Value} {bs : List UInt8} {s : RdS} {G : List Res} (h1 : RSt S w0 w rb bv bs s G) {ra : Nat} (hF : Fr [] w w1) (hn : w.heap.size ≤ ra) (hF2 : Fr [ra] w1 w2) : RSt S w0 w2 rb bv bs s G := by
  have h3 := h1.step0 hF
  refine ⟨⟨h3.st.fr.then hF2 (fun b hb => ?_), fun r hr => Res.on_fr hF2 (h3.st.all r hr) (fun b hb hm => ?_), h3.st.new, h3.st.apart⟩, h3.org, h3.loc.fr hF2 ?_, h3.le⟩
  · simp at hb
    subst hb
    have := h1.st.fr.size
    exact .inr (by omega)
  · simp at hm
    subst hm
    have := h1.st.lt hr hb
    omega
  · have h4 := h1.loc.lt
    simp
    omega
/-- The blocks of a list of things are apart. -/
def Apart1 (b : Nat) : List Res → Prop
  | [] => True
  | .loc c _ _ :: G => (b ≠ c ∧ c ≠ b) ∧ Apart1 b G
  | .own .. :: G => Apart1 b G
def Aparts : List Res → Prop
  | [] => True
  | .loc b _ _ :: G => Apart1 b G ∧ Aparts G
  | .own .. :: G => Aparts G
theorem apart1 {b : Nat} : ∀ {G : List Res}, (∀ s, s ∈ G → b ∉ s.blk) → Apart1 b G
  | [], _ => trivial
  | .loc c cs T :: G, h => by
    have h1 := h (.loc c cs T) List.mem_cons_self
    simp only [Res.blk, List.mem_singleton] at h1
    exact ⟨⟨h1, fun e => h1 e.symm⟩, apart1 fun s hs => h s (List.mem_cons_of_mem _ hs)⟩
  | .own .. :: G, h => apart1 (G := G) fun s hs => h s (List.mem_cons_of_mem _ hs)
theorem aparts : ∀ {G : List Res}, G.Pairwise (fun r s => ∀ b, b ∈ r.blk → b ∉ s.blk) → Aparts G
  | [], _ => trivial
  | .loc b cs T :: G, h => by
    have h1 := List.pairwise_cons.1 h
    exact ⟨apart1 fun s hs => h1.1 s hs b (by simp [Res.blk]), aparts h1.2⟩
  | .own .. :: G, h => aparts (G := G) (List.pairwise_cons.1 h).2
theorem RSt.nil {S : List Nat} {w0 w : World} {rb : Nat} {bv : Value} {bs : List UInt8} {s : RdS} {G : List Res} (h : RSt S w0 w rb bv bs s G) (e : TypeId) (k c : Nat) (hc : c = 0 := by rfl) : RSt S w0 w rb bv bs s (.own e k (.slice none 0 c) 0 [] :: G) := by
  subst hc
  exact ⟨h.st.put (Own.nil _ _ _ _) (fun b hb => by cases hb) (fun b hb => by cases hb), h.org, h.loc, h.le⟩
theorem RSt.sel {S : List Nat} {w0 w : World} {rb : Nat} {bv : Value} {bs : List UInt8} {s : RdS} {G G' : List Res} (h : RSt S w0 w rb bv bs s G) (p : Sel G G') : RSt S w0 w rb bv bs s G' := ⟨h.st.sel p, h.org, h.loc, h.le⟩
theorem RSt.only {S : List Nat} {w0 w : World} {rb : Nat} {bv : Value} {bs : List UInt8} {s : RdS} {r : Res} {G : List Res} (h : RSt S w0 w rb bv bs s (r :: G)) : RSt S w0 w rb bv bs s [r] := h.sel (.cons .here .nil)
/-- What a call brings that has memory of its own. -/
theorem RSt.join {S : List Nat} {w0 w w' : World} {rb : Nat} {bv : Value} {bs : List UInt8} {s s' : RdS} {G D : List Res} (h : RSt S w0 w rb bv bs s G) (k : RSt S w w' rb bv bs s' D) : RSt S w0 w' rb bv bs s' (D ++ G) :=
  ⟨h.st.call k.st (fun b hb => ⟨hb, by simp at hb; subst hb; exact h.lt⟩), h.org, k.loc, k.le⟩
theorem RSt.wideG {S : List Nat} {w0 w : World} {rb : Nat} {bv : Value} {bs : List UInt8} {s : RdS} {G : List Res} (h : RSt S w0 w rb bv bs s G) : Rd (G.flatMap Res.blk ++ S) w rb bv bs s := by
  obtain ⟨s0, h0⟩ := h.org
  refine h.wide (fun b hb => ?_) (fun b hb => ?_) (fun b hb => List.mem_append_right _ hb)
  · rcases List.mem_append.1 hb with hb | hb
    · obtain ⟨r, hr, hb⟩ := List.mem_flatMap.1 hb
      exact .inr (h.st.new r hr b hb)
    · exact .inl hb
  · rcases List.mem_append.1 hb with hb | hb
    · obtain ⟨r, hr, hb⟩ := List.mem_flatMap.1 hb
      exact h.st.lt hr hb
    · exact h.rd.lt b hb
theorem rst_use {P : Program} {f : FuncId} {args : Array Value} {w : World} {Q : Ending → World → Prop} (h : ∃ S w0 rb bv bs s G, RSt S w0 w rb bv bs s G ∧ (RSt S w0 w rb bv bs s G → Calls P f args w Q)) : Calls P f args w Q := by
  obtain ⟨S, w0, rb, bv, bs, s, G, h1, h2⟩ := h
  exact h2 h1
theorem RSt.pick {S : List Nat} {w0 w : World} {rb : Nat} {bv : Value} {bs : List UInt8} {s : RdS} {G G' : List Res} (h : RSt S w0 w rb bv bs s G) {r : Res} (p : Pick G r G') : RSt S w0 w rb bv bs s (r :: G') := ⟨h.st.pick p, h.org, h.loc, h.le⟩
theorem RSt.slM {S : List Nat} {w0 w : World} {rb : Nat} {bv : Value} {bs : List UInt8} {s : RdS} {G : List Res} (h : RSt S w0 w rb bv bs s G) {e : TypeId} {k n : Nat} {v : Value} {xs : List Value} (p : Res.own e k v n xs ∈ G) : Sl S w k v n xs := by
  have h3 : Own [] w e k v n xs := h.st.all _ p
  refine Own.sl h3 (S' := S) (fun b hb hm => ?_)
  obtain ⟨s0, h0⟩ := h.org
  have h2 := h.st.new _ p b (by simpa [Res.blk] using hb)
  have h4 := h0.lt b hm
  omega
def atOf (w : World) (rb : Nat) : Nat := match w.cell? ⟨rb, 0, none⟩ with
  | some (.int _ n) => n.toNat
  | _ => 0
theorem RSt.atOf {S : List Nat} {w0 w : World} {rb : Nat} {bv : Value} {bs : List UInt8} {s : RdS} {G : List Res} (h : RSt S w0 w rb bv bs s G) : atOf w rb = s.at_ := by
  unfold Go.Proofs.YtokneepfknepaaaDoor.atOf
  rw [h.loc.cell 0]
  simp [rdCells]
theorem und_block : Tryd.prog.underlying 78 = some ((Tryd.prog.underlying 78).get (by kernel_rfl)) := by kernel_rfl
theorem size_block : (Tryd.prog.info? 78).map (·.size) = some 6 := by kernel_rfl
theorem und_catch : Tryd.prog.underlying 140 = some ((Tryd.prog.underlying 140).get (by kernel_rfl)) := by kernel_rfl
theorem size_catch : (Tryd.prog.info? 140).map (·.size) = some 3 := by kernel_rfl
end Go.Proofs.YtokneepfknepaaaDoor

set_option linter.unusedSimpArgs false
set_option linter.unusedVariables false
namespace Go.Proofs.YtokneepfknepaaaDoor
open Go.RowKit

set_option maxRecDepth 100000 in set_option maxHeartbeats 1600000 in
theorem ib_failed {S : List Nat} {w : World} {rb : Nat} {bv : Value} {bs : List UInt8} {s : RdS} (h : Rd S w rb bv bs s) : Calls Tryd.prog 86 #[.pointer (some ⟨rb, 0, none⟩)] w fun e w' => e = .returned (.bool (s.err != 0)) ∧ Rd S w' rb bv bs s ∧ Fr [rb] w w' := by
  go_enter Tryd.func86, Tryd.ntmps86
  go_wp2_with (go_at_call 24; refine (rd_err h).mono ?_; rintro e w' ⟨rfl, n, rfl⟩)
  go_ret
  exact ⟨rfl, h.drewN _, by repeat (first | (with_reducible exact Fr.refl _ _) | (with_reducible assumption) | (with_reducible apply Fr.alloc) | (with_reducible apply Fr.drew) | (with_reducible apply Fr.drewN) | (with_reducible refine Fr.setCell ?_ (by first | (left; simp; done) | (right; simp; done) | (right; simp; omega)) _))⟩
set_option maxRecDepth 100000 in set_option maxHeartbeats 1600000 in
theorem ib_num {S : List Nat} {w : World} {rb : Nat} {bv : Value} {bs : List UInt8} {s : RdS} (h : Rd S w rb bv bs s) : Calls Tryd.prog 125 #[.pointer (some ⟨rb, 0, none⟩)] w fun e w' => e = .returned (.int .i64 (rNum bs s).1) ∧ Rd S w' rb bv bs (rNum bs s).2 ∧ Fr [rb] w w' := by
  have hlt := rU32_lt bs s
  have hS := RSt.start h
  go_enter Tryd.func125, Tryd.ntmps125
  go_wp2_with (go_at_call 13; refine rst_use ?_; (repeat (apply Exists.intro)); refine ⟨?_, ?_⟩; (· (repeat (first | (with_reducible assumption) | (with_reducible apply RSt.alloc) | (with_reducible apply RSt.drew) | (with_reducible apply RSt.drewN) | (with_reducible apply RSt.set) | (with_reducible exact Pick.here) | (with_reducible apply Pick.there)))); (try simp only [World.size_alloc, World.size_setCell, size_drew, size_drewN]); intro hT; refine (rd_u hT.rd 32 (by decide) (by decide)).mono ?_; rintro e w1 ⟨rfl, hR1, hF1⟩; have hS := hT.call hR1 hF1; clear hT hR1 hF1; (try clear hQ); have hQ := St.facts hS.st; (try simp only [Facts, Res.fact, List.cons_append, List.nil_append, true_and, and_true] at hQ); (try clear hN); have hN := aparts hS.st.apart; (try simp only [Aparts, Apart1, List.cons_append, List.nil_append, true_and, and_true] at hN))
  go_ret
  exact ⟨by simp [rNum, go_sem, *], by (first | (with_reducible exact hS.rd) | (apply RSt.rd; (repeat (first | (with_reducible assumption) | (with_reducible apply RSt.alloc) | (with_reducible apply RSt.drew) | (with_reducible apply RSt.drewN) | (with_reducible apply RSt.set) | (with_reducible exact Pick.here) | (with_reducible apply Pick.there))); done) | exact hS.rd), by (first | (with_reducible exact hS.fr) | (apply RSt.fr; (repeat (first | (with_reducible assumption) | (with_reducible apply RSt.alloc) | (with_reducible apply RSt.drew) | (with_reducible apply RSt.drewN) | (with_reducible apply RSt.set) | (with_reducible exact Pick.here) | (with_reducible apply Pick.there))); done) | exact hS.fr)⟩
set_option maxRecDepth 100000 in set_option maxHeartbeats 1600000 in
theorem ib_choice {S : List Nat} {w : World} {rb : Nat} {bv : Value} {bs : List UInt8} {s : RdS} (h : Rd S w rb bv bs s) : Calls Tryd.prog 131 #[.pointer (some ⟨rb, 0, none⟩), .int .u8 3] w fun e w' => e = .returned (.int .u8 (rChoice bs 3 s).1) ∧ Rd S w' rb bv bs (rChoice bs 3 s).2 ∧ Fr [rb] w w' := by
  have hS := RSt.start h
  have e0 : rChoice bs 3 s = ((rByte bs s).1, if 3 < (rByte bs s).1 then (rByte bs s).2.fail 60 s.at_ else (rByte bs s).2) := rfl
  by_cases hm : 3 < (rByte bs s).1
  · rw [e0, if_pos hm]
    clear e0
    have hm' : (3 : Int) < ((rByte bs s).1 : Nat) := by omega
    clear hm
    go_enter Tryd.func131, Tryd.ntmps131
    go_wp2_with first | (go_at_call 22; refine rst_use ?_; (repeat (apply Exists.intro)); refine ⟨?_, ?_⟩; (· (repeat (first | (with_reducible assumption) | (with_reducible apply RSt.alloc) | (with_reducible apply RSt.drew) | (with_reducible apply RSt.drewN) | (with_reducible apply RSt.set) | (with_reducible exact Pick.here) | (with_reducible apply Pick.there)))); (try simp only [World.size_alloc, World.size_setCell, size_drew, size_drewN]); intro hT; refine (rd_at hT.rd).mono ?_; rintro e w1 ⟨rfl, rfl⟩; clear hT) | (go_at_call 12; refine rst_use ?_; (repeat (apply Exists.intro)); refine ⟨?_, ?_⟩; (· (repeat (first | (with_reducible assumption) | (with_reducible apply RSt.alloc) | (with_reducible apply RSt.drew) | (with_reducible apply RSt.drewN) | (with_reducible apply RSt.set) | (with_reducible exact Pick.here) | (with_reducible apply Pick.there)))); (try simp only [World.size_alloc, World.size_setCell, size_drew, size_drewN]); intro hT; refine (rd_byte hT.rd).mono ?_; rintro e w1 ⟨rfl, hR1, hF1⟩; have hS := hT.call hR1 hF1; clear hT hR1 hF1; (try clear hQ); have hQ := St.facts hS.st; (try simp only [Facts, Res.fact, List.cons_append, List.nil_append, true_and, and_true] at hQ); (try clear hN); have hN := aparts hS.st.apart; (try simp only [Aparts, Apart1, List.cons_append, List.nil_append, true_and, and_true] at hN)) | (go_at_call 11; refine rst_use ?_; (repeat (apply Exists.intro)); refine ⟨?_, ?_⟩; (· (repeat (first | (with_reducible assumption) | (with_reducible apply RSt.alloc) | (with_reducible apply RSt.drew) | (with_reducible apply RSt.drewN) | (with_reducible apply RSt.set) | (with_reducible exact Pick.here) | (with_reducible apply Pick.there)))); (try simp only [World.size_alloc, World.size_setCell, size_drew, size_drewN]); intro hT; refine (rd_fail hT.rd _ _).mono ?_; rintro e w1 ⟨rfl, hR1, hF1⟩; have hS := hT.call hR1 hF1; clear hT hR1 hF1; (try clear hQ); have hQ := St.facts hS.st; (try simp only [Facts, Res.fact, List.cons_append, List.nil_append, true_and, and_true] at hQ); (try clear hN); have hN := aparts hS.st.apart; (try simp only [Aparts, Apart1, List.cons_append, List.nil_append, true_and, and_true] at hN))
    go_ret
    exact ⟨rfl, by (first | (with_reducible exact hS.rd) | (apply RSt.rd; (repeat (first | (with_reducible assumption) | (with_reducible apply RSt.alloc) | (with_reducible apply RSt.drew) | (with_reducible apply RSt.drewN) | (with_reducible apply RSt.set) | (with_reducible exact Pick.here) | (with_reducible apply Pick.there))); done) | exact hS.rd), by (first | (with_reducible exact hS.fr) | (apply RSt.fr; (repeat (first | (with_reducible assumption) | (with_reducible apply RSt.alloc) | (with_reducible apply RSt.drew) | (with_reducible apply RSt.drewN) | (with_reducible apply RSt.set) | (with_reducible exact Pick.here) | (with_reducible apply Pick.there))); done) | exact hS.fr)⟩
  · rw [e0, if_neg hm]
    clear e0
    have hm' : ¬ (3 : Int) < ((rByte bs s).1 : Nat) := by omega
    clear hm
    go_enter Tryd.func131, Tryd.ntmps131
    go_wp2_with first | (go_at_call 22; refine rst_use ?_; (repeat (apply Exists.intro)); refine ⟨?_, ?_⟩; (· (repeat (first | (with_reducible assumption) | (with_reducible apply RSt.alloc) | (with_reducible apply RSt.drew) | (with_reducible apply RSt.drewN) | (with_reducible apply RSt.set) | (with_reducible exact Pick.here) | (with_reducible apply Pick.there)))); (try simp only [World.size_alloc, World.size_setCell, size_drew, size_drewN]); intro hT; refine (rd_at hT.rd).mono ?_; rintro e w1 ⟨rfl, rfl⟩; clear hT) | (go_at_call 12; refine rst_use ?_; (repeat (apply Exists.intro)); refine ⟨?_, ?_⟩; (· (repeat (first | (with_reducible assumption) | (with_reducible apply RSt.alloc) | (with_reducible apply RSt.drew) | (with_reducible apply RSt.drewN) | (with_reducible apply RSt.set) | (with_reducible exact Pick.here) | (with_reducible apply Pick.there)))); (try simp only [World.size_alloc, World.size_setCell, size_drew, size_drewN]); intro hT; refine (rd_byte hT.rd).mono ?_; rintro e w1 ⟨rfl, hR1, hF1⟩; have hS := hT.call hR1 hF1; clear hT hR1 hF1; (try clear hQ); have hQ := St.facts hS.st; (try simp only [Facts, Res.fact, List.cons_append, List.nil_append, true_and, and_true] at hQ); (try clear hN); have hN := aparts hS.st.apart; (try simp only [Aparts, Apart1, List.cons_append, List.nil_append, true_and, and_true] at hN)) | (go_at_call 11; refine rst_use ?_; (repeat (apply Exists.intro)); refine ⟨?_, ?_⟩; (· (repeat (first | (with_reducible assumption) | (with_reducible apply RSt.alloc) | (with_reducible apply RSt.drew) | (with_reducible apply RSt.drewN) | (with_reducible apply RSt.set) | (with_reducible exact Pick.here) | (with_reducible apply Pick.there)))); (try simp only [World.size_alloc, World.size_setCell, size_drew, size_drewN]); intro hT; refine (rd_fail hT.rd _ _).mono ?_; rintro e w1 ⟨rfl, hR1, hF1⟩; have hS := hT.call hR1 hF1; clear hT hR1 hF1; (try clear hQ); have hQ := St.facts hS.st; (try simp only [Facts, Res.fact, List.cons_append, List.nil_append, true_and, and_true] at hQ); (try clear hN); have hN := aparts hS.st.apart; (try simp only [Aparts, Apart1, List.cons_append, List.nil_append, true_and, and_true] at hN))
    go_ret
    exact ⟨rfl, by (first | (with_reducible exact hS.rd) | (apply RSt.rd; (repeat (first | (with_reducible assumption) | (with_reducible apply RSt.alloc) | (with_reducible apply RSt.drew) | (with_reducible apply RSt.drewN) | (with_reducible apply RSt.set) | (with_reducible exact Pick.here) | (with_reducible apply Pick.there))); done) | exact hS.rd), by (first | (with_reducible exact hS.fr) | (apply RSt.fr; (repeat (first | (with_reducible assumption) | (with_reducible apply RSt.alloc) | (with_reducible apply RSt.drew) | (with_reducible apply RSt.drewN) | (with_reducible apply RSt.set) | (with_reducible exact Pick.here) | (with_reducible apply Pick.there))); done) | exact hS.fr)⟩

def catchV (c : CatchT) : Value := .agg #[.int .i64 c.kind, .int .i64 c.tag, .int .i64 c.label]
attribute [go_sem] catchV
set_option maxRecDepth 100000 in set_option maxHeartbeats 1600000 in
theorem ib_catch {S : List Nat} {w : World} {rb : Nat} {bv : Value} {bs : List UInt8} {s : RdS} (h : Rd S w rb bv bs s) : Calls Tryd.prog 130 #[.pointer (some ⟨rb, 0, none⟩)] w fun e w' => e = .returned (catchV (rCatch bs s).1) ∧ Rd S w' rb bv bs (rCatch bs s).2 ∧ Fr [rb] w w' := by
  have hS := RSt.start h
  have hb : (rChoice bs 3 s).1 < 256 := rByte_lt bs s
  have hw := IntWalk.wrap64_in (((rChoice bs 3 s).1 : Nat) : Int) (by omega)
  clear hb
  by_cases hm : (rChoice bs 3 s).1 < 2
  · have e0 : rCatch bs s = (⟨(rChoice bs 3 s).1, (rNum bs (rChoice bs 3 s).2).1, (rNum bs (rNum bs (rChoice bs 3 s).2).2).1⟩, (rNum bs (rNum bs (rChoice bs 3 s).2).2).2) := by
      unfold rCatch rCatchT
      rw [if_pos hm]
    rw [e0]
    clear e0
    have hm' : (((rChoice bs 3 s).1 : Nat) : Int) < 2 := by omega
    clear hm
    go_enter Tryd.func130, Tryd.ntmps130
    go_wp2_with first | (go_at_call 131; refine rst_use ?_; (repeat (apply Exists.intro)); refine ⟨?_, ?_⟩; (· (repeat (first | (with_reducible assumption) | (with_reducible apply RSt.alloc) | (with_reducible apply RSt.drew) | (with_reducible apply RSt.drewN) | (with_reducible apply RSt.set) | (with_reducible exact Pick.here) | (with_reducible apply Pick.there)))); (try simp only [World.size_alloc, World.size_setCell, size_drew, size_drewN]); intro hT; refine (ib_choice hT.rd).mono ?_; rintro e w1 ⟨rfl, hR1, hF1⟩; have hS := hT.call hR1 hF1; clear hT hR1 hF1; (try clear hQ); have hQ := St.facts hS.st; (try simp only [Facts, Res.fact, List.cons_append, List.nil_append, true_and, and_true] at hQ); (try clear hN); have hN := aparts hS.st.apart; (try simp only [Aparts, Apart1, List.cons_append, List.nil_append, true_and, and_true] at hN)) | (go_at_call 125; refine rst_use ?_; (repeat (apply Exists.intro)); refine ⟨?_, ?_⟩; (· (repeat (first | (with_reducible assumption) | (with_reducible apply RSt.alloc) | (with_reducible apply RSt.drew) | (with_reducible apply RSt.drewN) | (with_reducible apply RSt.set) | (with_reducible exact Pick.here) | (with_reducible apply Pick.there)))); (try simp only [World.size_alloc, World.size_setCell, size_drew, size_drewN]); intro hT; refine (ib_num hT.rd).mono ?_; rintro e w1 ⟨rfl, hR1, hF1⟩; have hS := hT.call hR1 hF1; clear hT hR1 hF1; (try clear hQ); have hQ := St.facts hS.st; (try simp only [Facts, Res.fact, List.cons_append, List.nil_append, true_and, and_true] at hQ); (try clear hN); have hN := aparts hS.st.apart; (try simp only [Aparts, Apart1, List.cons_append, List.nil_append, true_and, and_true] at hN))
    refine rst_ret rfl rfl und_catch rfl rfl ?_; (repeat (apply Exists.intro)); refine ⟨?_, ?_, ?_, ?_⟩; (· (repeat (first | (with_reducible assumption) | (with_reducible apply RSt.alloc) | (with_reducible apply RSt.drew) | (with_reducible apply RSt.drewN) | (with_reducible apply RSt.set) | (with_reducible exact Pick.here) | (with_reducible apply Pick.there)))); (· (try simp only [World.size_alloc, World.size_setCell, size_drew, size_drewN]); ((try simp only [World.size_alloc, World.size_setCell, size_drew, size_drewN]); first | ((repeat (first | (with_reducible exact Pick.here) | (with_reducible apply Pick.there))); done) | (repeat (first | (exact Pick.here) | (with_reducible apply Pick.there))))); (· exact size_catch)
    exact ⟨rfl, by (first | (with_reducible exact hS.rd) | (apply RSt.rd; (repeat (first | (with_reducible assumption) | (with_reducible apply RSt.alloc) | (with_reducible apply RSt.drew) | (with_reducible apply RSt.drewN) | (with_reducible apply RSt.set) | (with_reducible exact Pick.here) | (with_reducible apply Pick.there))); done) | exact hS.rd), by (first | (with_reducible exact hS.fr) | (apply RSt.fr; (repeat (first | (with_reducible assumption) | (with_reducible apply RSt.alloc) | (with_reducible apply RSt.drew) | (with_reducible apply RSt.drewN) | (with_reducible apply RSt.set) | (with_reducible exact Pick.here) | (with_reducible apply Pick.there))); done) | exact hS.fr)⟩
  · have e0 : rCatch bs s = (⟨(rChoice bs 3 s).1, 0, (rNum bs (rChoice bs 3 s).2).1⟩, (rNum bs (rChoice bs 3 s).2).2) := by
      unfold rCatch rCatchT
      rw [if_neg hm]
    rw [e0]
    clear e0
    have hm' : ¬ (((rChoice bs 3 s).1 : Nat) : Int) < 2 := by omega
    clear hm
    go_enter Tryd.func130, Tryd.ntmps130
    go_wp2_with first | (go_at_call 131; refine rst_use ?_; (repeat (apply Exists.intro)); refine ⟨?_, ?_⟩; (· (repeat (first | (with_reducible assumption) | (with_reducible apply RSt.alloc) | (with_reducible apply RSt.drew) | (with_reducible apply RSt.drewN) | (with_reducible apply RSt.set) | (with_reducible exact Pick.here) | (with_reducible apply Pick.there)))); (try simp only [World.size_alloc, World.size_setCell, size_drew, size_drewN]); intro hT; refine (ib_choice hT.rd).mono ?_; rintro e w1 ⟨rfl, hR1, hF1⟩; have hS := hT.call hR1 hF1; clear hT hR1 hF1; (try clear hQ); have hQ := St.facts hS.st; (try simp only [Facts, Res.fact, List.cons_append, List.nil_append, true_and, and_true] at hQ); (try clear hN); have hN := aparts hS.st.apart; (try simp only [Aparts, Apart1, List.cons_append, List.nil_append, true_and, and_true] at hN)) | (go_at_call 125; refine rst_use ?_; (repeat (apply Exists.intro)); refine ⟨?_, ?_⟩; (· (repeat (first | (with_reducible assumption) | (with_reducible apply RSt.alloc) | (with_reducible apply RSt.drew) | (with_reducible apply RSt.drewN) | (with_reducible apply RSt.set) | (with_reducible exact Pick.here) | (with_reducible apply Pick.there)))); (try simp only [World.size_alloc, World.size_setCell, size_drew, size_drewN]); intro hT; refine (ib_num hT.rd).mono ?_; rintro e w1 ⟨rfl, hR1, hF1⟩; have hS := hT.call hR1 hF1; clear hT hR1 hF1; (try clear hQ); have hQ := St.facts hS.st; (try simp only [Facts, Res.fact, List.cons_append, List.nil_append, true_and, and_true] at hQ); (try clear hN); have hN := aparts hS.st.apart; (try simp only [Aparts, Apart1, List.cons_append, List.nil_append, true_and, and_true] at hN))
    refine rst_ret rfl rfl und_catch rfl rfl ?_; (repeat (apply Exists.intro)); refine ⟨?_, ?_, ?_, ?_⟩; (· (repeat (first | (with_reducible assumption) | (with_reducible apply RSt.alloc) | (with_reducible apply RSt.drew) | (with_reducible apply RSt.drewN) | (with_reducible apply RSt.set) | (with_reducible exact Pick.here) | (with_reducible apply Pick.there)))); (· (try simp only [World.size_alloc, World.size_setCell, size_drew, size_drewN]); ((try simp only [World.size_alloc, World.size_setCell, size_drew, size_drewN]); first | ((repeat (first | (with_reducible exact Pick.here) | (with_reducible apply Pick.there))); done) | (repeat (first | (exact Pick.here) | (with_reducible apply Pick.there))))); (· exact size_catch)
    exact ⟨rfl, by (first | (with_reducible exact hS.rd) | (apply RSt.rd; (repeat (first | (with_reducible assumption) | (with_reducible apply RSt.alloc) | (with_reducible apply RSt.drew) | (with_reducible apply RSt.drewN) | (with_reducible apply RSt.set) | (with_reducible exact Pick.here) | (with_reducible apply Pick.there))); done) | exact hS.rd), by (first | (with_reducible exact hS.fr) | (apply RSt.fr; (repeat (first | (with_reducible assumption) | (with_reducible apply RSt.alloc) | (with_reducible apply RSt.drew) | (with_reducible apply RSt.drewN) | (with_reducible apply RSt.set) | (with_reducible exact Pick.here) | (with_reducible apply Pick.there))); done) | exact hS.fr)⟩


set_option maxRecDepth 100000 in set_option maxHeartbeats 1600000 in
theorem ilist_int {S : List Nat} {w : World} {rb : Nat} {bv : Value} {bs : List UInt8} {s : RdS} (h : Rd S w rb bv bs s) :
    Calls Tryd.prog 126 #[.pointer (some ⟨rb, 0, none⟩), .func (.func 125) #[] #[]] w fun e w' =>
      ∃ v, e = .returned v ∧ RSt S w w' rb bv bs (rListN bs (rNum bs) s).2 [.own 3 1 v (rListN bs (rNum bs) s).1.length ((rListN bs (rNum bs) s).1.flatMap intC)] := by
  have hS := RSt.start h
  have hsm := h.small
  have hCnt := rCount_le bs s
  have hl : rListN bs (rNum bs) s = rMany (rNum bs) (rCount bs s).1 (rCount bs s).2 := rfl
  rw [hl]
  clear hl
  go_enter Tryd.func126, Tryd.ntmps126
  go_wp2_with (go_at_call 16; refine rst_use ?_; (repeat (apply Exists.intro)); refine ⟨?_, ?_⟩; (· (repeat (first | (with_reducible assumption) | (with_reducible apply RSt.alloc) | (with_reducible apply RSt.drew) | (with_reducible apply RSt.drewN) | (with_reducible apply RSt.set) | (with_reducible exact Pick.here) | (with_reducible apply Pick.there)))); (try simp only [World.size_alloc, World.size_setCell, size_drew, size_drewN]); intro hT; refine (rd_count hT.rd).mono ?_; rintro e w1 ⟨rfl, hR1, hF1⟩; have hS := hT.call hR1 hF1; clear hT hR1 hF1; (try clear hQ); have hQ := St.facts hS.st; (try simp only [Facts, Res.fact, List.cons_append, List.nil_append, true_and, and_true] at hQ); (try clear hN); have hN := aparts hS.st.apart; (try simp only [Aparts, Apart1, List.cons_append, List.nil_append, true_and, and_true] at hN))
  go_loopw [5, 6] (fun v n wr => ∃ (k : Nat) (xs : List Int) (t : RdS), n = .int .i64 k ∧ RSt S w wr rb bv bs t [.own 3 1 v xs.length (xs.flatMap intC)] ∧ k + xs.length = (rCount bs s).1 ∧ Hid (rMany (rNum bs) (rCount bs s).1 (rCount bs s).2 = (xs ++ (rMany (rNum bs) k t).1, (rMany (rNum bs) k t).2))) (fun _ n _ => (intOf n).toNat)
  case atStart => exact ⟨(rCount bs s).1, [], _, rfl, hS.nil _ _ _, by simp, Lib.hid rfl⟩
  case round =>
    obtain ⟨k, xs, t, rfl, hS, hks, hg⟩ := hrel
    have Hks := Lib.hid hks
    have hbnd : xs.length + 1 ≤ 1099511627776 ∨ k = 0 := by omega
    clear hks
    have hexit : (k = 0 ∨ t.err ≠ 0) → rMany (rNum bs) (rCount bs s).1 (rCount bs s).2 = (xs, t) := by
      intro hh
      rw [hg.out]
      cases k with
      | zero => simp [rMany]
      | succ k => simp [rMany, hh.resolve_left (by omega)]
    by_cases hk : k = 0
    · have hE := Lib.hid (hexit (.inl hk))
      subst hk
      clear hexit hbnd
      go_wp2
      go_ret
      refine ⟨_, rfl, ?_⟩
      rw [hE.out]
      exact hS
    · have hkp : 0 < k := by omega
      by_cases he : t.err = 0
      · have g1 : (t.err != 0) = false := by simp [he]
        have hx : rMany (rNum bs) k t = (((rNum bs) t).1 :: (rMany (rNum bs) (k - 1) ((rNum bs) t).2).1, (rMany (rNum bs) (k - 1) ((rNum bs) t).2).2) := by
          obtain ⟨j, rfl⟩ : ∃ j, k = j + 1 := ⟨k - 1, by omega⟩
          simp [rMany, he]
        have HX := Lib.hid hx
        have hb2 : xs.length + 1 ≤ 1099511627776 := by omega
        have hk40 : k ≤ 1099511627776 := by have := Hks.out; omega
        clear hx he hexit hbnd
        go_wp2_with first | (go_at_call 86; refine rst_use ?_; (repeat (apply Exists.intro)); refine ⟨?_, ?_⟩; (· (repeat (first | (with_reducible assumption) | (with_reducible apply RSt.alloc) | (with_reducible apply RSt.drew) | (with_reducible apply RSt.drewN) | (with_reducible apply RSt.set) | (with_reducible exact Pick.here) | (with_reducible apply Pick.there)))); (try simp only [World.size_alloc, World.size_setCell, size_drew, size_drewN]); intro hT; refine (ib_failed hT.rd).mono ?_; rintro e w1 ⟨rfl, hR1, hF1⟩; have hS := hT.call hR1 hF1; clear hT hR1 hF1; (try clear hQ); have hQ := St.facts hS.st; (try simp only [Facts, Res.fact, List.cons_append, List.nil_append, true_and, and_true] at hQ); (try clear hN); have hN := aparts hS.st.apart; (try simp only [Aparts, Apart1, List.cons_append, List.nil_append, true_and, and_true] at hN)) | (go_at_call 125; refine rst_use ?_; (repeat (apply Exists.intro)); refine ⟨?_, ?_⟩; (· (repeat (first | (with_reducible assumption) | (with_reducible apply RSt.alloc) | (with_reducible apply RSt.drew) | (with_reducible apply RSt.drewN) | (with_reducible apply RSt.set) | (with_reducible exact Pick.here) | (with_reducible apply Pick.there)))); (try simp only [World.size_alloc, World.size_setCell, size_drew, size_drewN]); intro hT; refine (ib_num hT.rd).mono ?_; rintro e w1 ⟨rfl, hR1, hF1⟩; have hS := hT.call hR1 hF1; clear hT hR1 hF1; (try clear hQ); have hQ := St.facts hS.st; (try simp only [Facts, Res.fact, List.cons_append, List.nil_append, true_and, and_true] at hQ); (try clear hN); have hN := aparts hS.st.apart; (try simp only [Aparts, Apart1, List.cons_append, List.nil_append, true_and, and_true] at hN)) | (at_builtin; refine rapp_int rfl rfl rfl rfl ?_; (repeat (apply Exists.intro)); refine ⟨?_, ?_, ?_, ?_, ?_⟩; (· (repeat (first | (with_reducible assumption) | (with_reducible apply RSt.alloc) | (with_reducible apply RSt.drew) | (with_reducible apply RSt.drewN) | (with_reducible apply RSt.set) | (with_reducible exact Pick.here) | (with_reducible apply Pick.there)))); (· (try simp only [World.size_alloc, World.size_setCell, size_drew, size_drewN]); apply DstT.own; ((try simp only [World.size_alloc, World.size_setCell, size_drew, size_drewN]); first | ((repeat (first | (with_reducible exact Pick.here) | (with_reducible apply Pick.there))); done) | (repeat (first | (exact Pick.here) | (with_reducible apply Pick.there))))); (· (try simp only [World.size_alloc, World.size_setCell, size_drew, size_drewN]); apply SrcT.lit; (· ((try simp only [World.size_alloc, World.size_setCell, size_drew, size_drewN]); first | ((repeat (first | (with_reducible exact Pick.here) | (with_reducible apply Pick.there))); done) | (repeat (first | (exact Pick.here) | (with_reducible apply Pick.there))))); (· rfl); (· simp [Value.oneCell'])); (· omega); intro vN wN hS; (try clear hQ); have hQ := St.facts hS.st; (try simp only [Facts, Res.fact, List.cons_append, List.nil_append, true_and, and_true] at hQ); (try clear hN); have hN := aparts hS.st.apart; (try simp only [Aparts, Apart1, List.cons_append, List.nil_append, true_and, and_true] at hN))
        go_roundw
        case rel =>
          refine ⟨k - 1, xs ++ [((rNum bs) t).1], ((rNum bs) t).2, by go_num, ?_, by have := Hks.out; simp; omega, Lib.hid ?_⟩
          · have e1 : (xs ++ [((rNum bs) t).1]).length = xs.length + 1 := by simp
            have e2 : (xs ++ [((rNum bs) t).1]).flatMap intC = xs.flatMap intC ++ intC ((rNum bs) t).1 := by simp
            rw [e1, e2]
            exact hS.only
          · rw [hg.out, HX.out]; simp
        case measure => simp [intOf]; omega
      · have g1 : (t.err != 0) = true := by simp [he]
        have hE := Lib.hid (hexit (.inr he))
        clear hexit hbnd
        go_wp2_with first | (go_at_call 86; refine rst_use ?_; (repeat (apply Exists.intro)); refine ⟨?_, ?_⟩; (· (repeat (first | (with_reducible assumption) | (with_reducible apply RSt.alloc) | (with_reducible apply RSt.drew) | (with_reducible apply RSt.drewN) | (with_reducible apply RSt.set) | (with_reducible exact Pick.here) | (with_reducible apply Pick.there)))); (try simp only [World.size_alloc, World.size_setCell, size_drew, size_drewN]); intro hT; refine (ib_failed hT.rd).mono ?_; rintro e w1 ⟨rfl, hR1, hF1⟩; have hS := hT.call hR1 hF1; clear hT hR1 hF1; (try clear hQ); have hQ := St.facts hS.st; (try simp only [Facts, Res.fact, List.cons_append, List.nil_append, true_and, and_true] at hQ); (try clear hN); have hN := aparts hS.st.apart; (try simp only [Aparts, Apart1, List.cons_append, List.nil_append, true_and, and_true] at hN))
        go_ret
        refine ⟨_, rfl, ?_⟩
        rw [hE.out]
        exact hS

set_option maxRecDepth 100000 in set_option maxHeartbeats 1600000 in
theorem ilist_catch {S : List Nat} {w : World} {rb : Nat} {bv : Value} {bs : List UInt8} {s : RdS} (h : Rd S w rb bv bs s) :
    Calls Tryd.prog 129 #[.pointer (some ⟨rb, 0, none⟩), .func (.func 130) #[] #[]] w fun e w' =>
      ∃ v, e = .returned v ∧ RSt S w w' rb bv bs (rListN bs (rCatch bs) s).2 [.own 140 3 v (rListN bs (rCatch bs) s).1.length ((rListN bs (rCatch bs) s).1.flatMap catchC)] := by
  have hS := RSt.start h
  have hsm := h.small
  have hCnt := rCount_le bs s
  have hl : rListN bs (rCatch bs) s = rMany (rCatch bs) (rCount bs s).1 (rCount bs s).2 := rfl
  rw [hl]
  clear hl
  go_enter Tryd.func129, Tryd.ntmps129
  go_wp2_with (go_at_call 16; refine rst_use ?_; (repeat (apply Exists.intro)); refine ⟨?_, ?_⟩; (· (repeat (first | (with_reducible assumption) | (with_reducible apply RSt.alloc) | (with_reducible apply RSt.drew) | (with_reducible apply RSt.drewN) | (with_reducible apply RSt.set) | (with_reducible exact Pick.here) | (with_reducible apply Pick.there)))); (try simp only [World.size_alloc, World.size_setCell, size_drew, size_drewN]); intro hT; refine (rd_count hT.rd).mono ?_; rintro e w1 ⟨rfl, hR1, hF1⟩; have hS := hT.call hR1 hF1; clear hT hR1 hF1; (try clear hQ); have hQ := St.facts hS.st; (try simp only [Facts, Res.fact, List.cons_append, List.nil_append, true_and, and_true] at hQ); (try clear hN); have hN := aparts hS.st.apart; (try simp only [Aparts, Apart1, List.cons_append, List.nil_append, true_and, and_true] at hN))
  go_loopw [5, 6] (fun v n wr => ∃ (k : Nat) (xs : List CatchT) (t : RdS), n = .int .i64 k ∧ RSt S w wr rb bv bs t [.own 140 3 v xs.length (xs.flatMap catchC)] ∧ k + xs.length = (rCount bs s).1 ∧ Hid (rMany (rCatch bs) (rCount bs s).1 (rCount bs s).2 = (xs ++ (rMany (rCatch bs) k t).1, (rMany (rCatch bs) k t).2))) (fun _ n _ => (intOf n).toNat)
  case atStart => exact ⟨(rCount bs s).1, [], _, rfl, hS.nil _ _ _, by simp, Lib.hid rfl⟩
  case round =>
    obtain ⟨k, xs, t, rfl, hS, hks, hg⟩ := hrel
    have Hks := Lib.hid hks
    have hbnd : xs.length + 1 ≤ 1099511627776 ∨ k = 0 := by omega
    clear hks
    have hexit : (k = 0 ∨ t.err ≠ 0) → rMany (rCatch bs) (rCount bs s).1 (rCount bs s).2 = (xs, t) := by
      intro hh
      rw [hg.out]
      cases k with
      | zero => simp [rMany]
      | succ k => simp [rMany, hh.resolve_left (by omega)]
    by_cases hk : k = 0
    · have hE := Lib.hid (hexit (.inl hk))
      subst hk
      clear hexit hbnd
      go_wp2
      go_ret
      refine ⟨_, rfl, ?_⟩
      rw [hE.out]
      exact hS
    · have hkp : 0 < k := by omega
      by_cases he : t.err = 0
      · have g1 : (t.err != 0) = false := by simp [he]
        have hx : rMany (rCatch bs) k t = (((rCatch bs) t).1 :: (rMany (rCatch bs) (k - 1) ((rCatch bs) t).2).1, (rMany (rCatch bs) (k - 1) ((rCatch bs) t).2).2) := by
          obtain ⟨j, rfl⟩ : ∃ j, k = j + 1 := ⟨k - 1, by omega⟩
          simp [rMany, he]
        have HX := Lib.hid hx
        have hb2 : xs.length + 1 ≤ 1099511627776 := by omega
        have hk40 : k ≤ 1099511627776 := by have := Hks.out; omega
        clear hx he hexit hbnd
        go_wp2_with first | (go_at_call 86; refine rst_use ?_; (repeat (apply Exists.intro)); refine ⟨?_, ?_⟩; (· (repeat (first | (with_reducible assumption) | (with_reducible apply RSt.alloc) | (with_reducible apply RSt.drew) | (with_reducible apply RSt.drewN) | (with_reducible apply RSt.set) | (with_reducible exact Pick.here) | (with_reducible apply Pick.there)))); (try simp only [World.size_alloc, World.size_setCell, size_drew, size_drewN]); intro hT; refine (ib_failed hT.rd).mono ?_; rintro e w1 ⟨rfl, hR1, hF1⟩; have hS := hT.call hR1 hF1; clear hT hR1 hF1; (try clear hQ); have hQ := St.facts hS.st; (try simp only [Facts, Res.fact, List.cons_append, List.nil_append, true_and, and_true] at hQ); (try clear hN); have hN := aparts hS.st.apart; (try simp only [Aparts, Apart1, List.cons_append, List.nil_append, true_and, and_true] at hN)) | (go_at_call 130; refine rst_use ?_; (repeat (apply Exists.intro)); refine ⟨?_, ?_⟩; (· (repeat (first | (with_reducible assumption) | (with_reducible apply RSt.alloc) | (with_reducible apply RSt.drew) | (with_reducible apply RSt.drewN) | (with_reducible apply RSt.set) | (with_reducible exact Pick.here) | (with_reducible apply Pick.there)))); (try simp only [World.size_alloc, World.size_setCell, size_drew, size_drewN]); intro hT; refine (ib_catch hT.rd).mono ?_; rintro e w1 ⟨rfl, hR1, hF1⟩; have hS := hT.call hR1 hF1; clear hT hR1 hF1; (try clear hQ); have hQ := St.facts hS.st; (try simp only [Facts, Res.fact, List.cons_append, List.nil_append, true_and, and_true] at hQ); (try clear hN); have hN := aparts hS.st.apart; (try simp only [Aparts, Apart1, List.cons_append, List.nil_append, true_and, and_true] at hN)) | (at_builtin; refine rapp_catch rfl rfl rfl rfl ?_; (repeat (apply Exists.intro)); refine ⟨?_, ?_, ?_, ?_, ?_⟩; (· (repeat (first | (with_reducible assumption) | (with_reducible apply RSt.alloc) | (with_reducible apply RSt.drew) | (with_reducible apply RSt.drewN) | (with_reducible apply RSt.set) | (with_reducible exact Pick.here) | (with_reducible apply Pick.there)))); (· (try simp only [World.size_alloc, World.size_setCell, size_drew, size_drewN]); apply DstT.own; ((try simp only [World.size_alloc, World.size_setCell, size_drew, size_drewN]); first | ((repeat (first | (with_reducible exact Pick.here) | (with_reducible apply Pick.there))); done) | (repeat (first | (exact Pick.here) | (with_reducible apply Pick.there))))); (· (try simp only [World.size_alloc, World.size_setCell, size_drew, size_drewN]); apply SrcT.lit; (· ((try simp only [World.size_alloc, World.size_setCell, size_drew, size_drewN]); first | ((repeat (first | (with_reducible exact Pick.here) | (with_reducible apply Pick.there))); done) | (repeat (first | (exact Pick.here) | (with_reducible apply Pick.there))))); (· rfl); (· simp [Value.oneCell'])); (· omega); intro vN wN hS; (try clear hQ); have hQ := St.facts hS.st; (try simp only [Facts, Res.fact, List.cons_append, List.nil_append, true_and, and_true] at hQ); (try clear hN); have hN := aparts hS.st.apart; (try simp only [Aparts, Apart1, List.cons_append, List.nil_append, true_and, and_true] at hN))
        go_roundw
        case rel =>
          refine ⟨k - 1, xs ++ [((rCatch bs) t).1], ((rCatch bs) t).2, by go_num, ?_, by have := Hks.out; simp; omega, Lib.hid ?_⟩
          · have e1 : (xs ++ [((rCatch bs) t).1]).length = xs.length + 1 := by simp
            have e2 : (xs ++ [((rCatch bs) t).1]).flatMap catchC = xs.flatMap catchC ++ catchC ((rCatch bs) t).1 := by simp
            rw [e1, e2]
            exact hS.only
          · rw [hg.out, HX.out]; simp
        case measure => simp [intOf]; omega
      · have g1 : (t.err != 0) = true := by simp [he]
        have hE := Lib.hid (hexit (.inr he))
        clear hexit hbnd
        go_wp2_with first | (go_at_call 86; refine rst_use ?_; (repeat (apply Exists.intro)); refine ⟨?_, ?_⟩; (· (repeat (first | (with_reducible assumption) | (with_reducible apply RSt.alloc) | (with_reducible apply RSt.drew) | (with_reducible apply RSt.drewN) | (with_reducible apply RSt.set) | (with_reducible exact Pick.here) | (with_reducible apply Pick.there)))); (try simp only [World.size_alloc, World.size_setCell, size_drew, size_drewN]); intro hT; refine (ib_failed hT.rd).mono ?_; rintro e w1 ⟨rfl, hR1, hF1⟩; have hS := hT.call hR1 hF1; clear hT hR1 hF1; (try clear hQ); have hQ := St.facts hS.st; (try simp only [Facts, Res.fact, List.cons_append, List.nil_append, true_and, and_true] at hQ); (try clear hN); have hN := aparts hS.st.apart; (try simp only [Aparts, Apart1, List.cons_append, List.nil_append, true_and, and_true] at hN))
        go_ret
        refine ⟨_, rfl, ?_⟩
        rw [hE.out]
        exact hS
end Go.Proofs.YtokneepfknepaaaDoor

set_option linter.unusedSimpArgs false
set_option linter.unusedVariables false
namespace Go.Proofs.YtokneepfknepaaaDoor
open Go.RowKit

theorem or8 (c n : Nat) (hc : c = 251 ∨ c = 252) (hn : n ≤ 255) : bits .or .i64 (c * 256) n = c * 256 + n := by
  have h1 : ∀ n ∈ List.range 256, bits .or .i64 (((251 : Nat) : Int) * 256) (n : Int) = ((251 : Nat) : Int) * 256 + n ∧ bits .or .i64 (((252 : Nat) : Int) * 256) (n : Int) = ((252 : Nat) : Int) * 256 + n := by decide +kernel
  have h2 := h1 n (List.mem_range.2 (by omega))
  rcases hc with rfl | rfl
  · exact h2.1
  · exact h2.2

set_option maxRecDepth 100000 in set_option maxHeartbeats 1600000 in
theorem ib_opcode {S : List Nat} {w : World} {rb : Nat} {bv : Value} {bs : List UInt8} {s : RdS} (h : Rd S w rb bv bs s) (hg : Gl7 S w) : Calls Tryd.prog 124 #[.pointer (some ⟨rb, 0, none⟩)] w fun e w' => e = .returned (.int .i64 (rOp bs s).1) ∧ Rd S w' rb bv bs (rOp bs s).2 ∧ Fr [rb] w w' := by
  have hS := RSt.start h
  have hb := rByte_lt bs s
  have hu := rU32_lt bs (rByte bs s).2
  by_cases h1 : (rByte bs s).1 = 251 ∨ (rByte bs s).1 = 252
  · by_cases h2 : 255 < (rU bs 32 (rByte bs s).2).1
    · have e0 : rOp bs s = (0, (rU bs 32 (rByte bs s).2).2.fail 60 s.at_) := by unfold rOp; rw [if_pos h1, if_pos h2]
      rw [e0]
      have i2 : (255 : Int) < ((rU bs 32 (rByte bs s).2).1 : Nat) := by omega
      have q : ((((rByte bs s).1 : Nat) : Int) == 251) = true ∨ ((((rByte bs s).1 : Nat) : Int) == 251) = false ∧ ((((rByte bs s).1 : Nat) : Int) == 252) = true := by simp; omega
      clear e0 h1 h2
      rcases q with q1 | ⟨q1, q2⟩
      all_goals
        go_enter Tryd.func124, Tryd.ntmps124
        go_wp2_with first | (go_at_call 22; refine rst_use ?_; (repeat (apply Exists.intro)); refine ⟨?_, ?_⟩; (· (repeat (first | (with_reducible assumption) | (with_reducible apply RSt.alloc) | (with_reducible apply RSt.drew) | (with_reducible apply RSt.drewN) | (with_reducible apply RSt.set) | (with_reducible exact Pick.here) | (with_reducible apply Pick.there)))); (try simp only [World.size_alloc, World.size_setCell, size_drew, size_drewN]); intro hT; refine (rd_at hT.rd).mono ?_; rintro e w1 ⟨rfl, rfl⟩; clear hT) | (go_at_call 12; refine rst_use ?_; (repeat (apply Exists.intro)); refine ⟨?_, ?_⟩; (· (repeat (first | (with_reducible assumption) | (with_reducible apply RSt.alloc) | (with_reducible apply RSt.drew) | (with_reducible apply RSt.drewN) | (with_reducible apply RSt.set) | (with_reducible exact Pick.here) | (with_reducible apply Pick.there)))); (try simp only [World.size_alloc, World.size_setCell, size_drew, size_drewN]); intro hT; refine (rd_byte hT.rd).mono ?_; rintro e w1 ⟨rfl, hR1, hF1⟩; have hS := hT.call hR1 hF1; clear hT hR1 hF1; (try clear hQ); have hQ := St.facts hS.st; (try simp only [Facts, Res.fact, List.cons_append, List.nil_append, true_and, and_true] at hQ); (try clear hN); have hN := aparts hS.st.apart; (try simp only [Aparts, Apart1, List.cons_append, List.nil_append, true_and, and_true] at hN)) | (go_at_call 13; refine rst_use ?_; (repeat (apply Exists.intro)); refine ⟨?_, ?_⟩; (· (repeat (first | (with_reducible assumption) | (with_reducible apply RSt.alloc) | (with_reducible apply RSt.drew) | (with_reducible apply RSt.drewN) | (with_reducible apply RSt.set) | (with_reducible exact Pick.here) | (with_reducible apply Pick.there)))); (try simp only [World.size_alloc, World.size_setCell, size_drew, size_drewN]); intro hT; refine (rd_u hT.rd 32 (by decide) (by decide)).mono ?_; rintro e w1 ⟨rfl, hR1, hF1⟩; have hS := hT.call hR1 hF1; clear hT hR1 hF1; (try clear hQ); have hQ := St.facts hS.st; (try simp only [Facts, Res.fact, List.cons_append, List.nil_append, true_and, and_true] at hQ); (try clear hN); have hN := aparts hS.st.apart; (try simp only [Aparts, Apart1, List.cons_append, List.nil_append, true_and, and_true] at hN)) | (go_at_call 144; refine rst_use ?_; (repeat (apply Exists.intro)); refine ⟨?_, ?_⟩; (· (repeat (first | (with_reducible assumption) | (with_reducible apply RSt.alloc) | (with_reducible apply RSt.drew) | (with_reducible apply RSt.drewN) | (with_reducible apply RSt.set) | (with_reducible exact Pick.here) | (with_reducible apply Pick.there)))); (try simp only [World.size_alloc, World.size_setCell, size_drew, size_drewN]); intro hT; refine (known_any (hT.gl7 hg) _).mono ?_; rintro e w1 ⟨rfl, hF1⟩; have hS := hT.step0 hF1; clear hT hF1; (try clear hQ); have hQ := St.facts hS.st; (try simp only [Facts, Res.fact, List.cons_append, List.nil_append, true_and, and_true] at hQ); (try clear hN); have hN := aparts hS.st.apart; (try simp only [Aparts, Apart1, List.cons_append, List.nil_append, true_and, and_true] at hN)) | (go_at_call 89; refine rst_use ?_; (repeat (apply Exists.intro)); refine ⟨?_, ?_⟩; (· (repeat (first | (with_reducible assumption) | (with_reducible apply RSt.alloc) | (with_reducible apply RSt.drew) | (with_reducible apply RSt.drewN) | (with_reducible apply RSt.set) | (with_reducible exact Pick.here) | (with_reducible apply Pick.there)))); (try simp only [World.size_alloc, World.size_setCell, size_drew, size_drewN]); intro hT; refine (shape_any (hT.gl7 hg) _ (by omega) (by omega)).mono ?_; rintro e w1 ⟨rfl, hF1⟩; have hS := hT.step0 hF1; clear hT hF1; (try clear hQ); have hQ := St.facts hS.st; (try simp only [Facts, Res.fact, List.cons_append, List.nil_append, true_and, and_true] at hQ); (try clear hN); have hN := aparts hS.st.apart; (try simp only [Aparts, Apart1, List.cons_append, List.nil_append, true_and, and_true] at hN)) | (go_at_call 11; refine rst_use ?_; (repeat (apply Exists.intro)); refine ⟨?_, ?_⟩; (· (repeat (first | (with_reducible assumption) | (with_reducible apply RSt.alloc) | (with_reducible apply RSt.drew) | (with_reducible apply RSt.drewN) | (with_reducible apply RSt.set) | (with_reducible exact Pick.here) | (with_reducible apply Pick.there)))); (try simp only [World.size_alloc, World.size_setCell, size_drew, size_drewN]); intro hT; refine (rd_fail hT.rd _ _).mono ?_; rintro e w1 ⟨rfl, hR1, hF1⟩; have hS := hT.call hR1 hF1; clear hT hR1 hF1; (try clear hQ); have hQ := St.facts hS.st; (try simp only [Facts, Res.fact, List.cons_append, List.nil_append, true_and, and_true] at hQ); (try clear hN); have hN := aparts hS.st.apart; (try simp only [Aparts, Apart1, List.cons_append, List.nil_append, true_and, and_true] at hN))
        (go_ret; exact ⟨rfl, by (first | (with_reducible exact hS.rd) | (apply RSt.rd; (repeat (first | (with_reducible assumption) | (with_reducible apply RSt.alloc) | (with_reducible apply RSt.drew) | (with_reducible apply RSt.drewN) | (with_reducible apply RSt.set) | (with_reducible exact Pick.here) | (with_reducible apply Pick.there))); done) | exact hS.rd), by (first | (with_reducible exact hS.fr) | (apply RSt.fr; (repeat (first | (with_reducible assumption) | (with_reducible apply RSt.alloc) | (with_reducible apply RSt.drew) | (with_reducible apply RSt.drewN) | (with_reducible apply RSt.set) | (with_reducible exact Pick.here) | (with_reducible apply Pick.there))); done) | exact hS.fr)⟩)
    · have i2 : ¬ (255 : Int) < ((rU bs 32 (rByte bs s).2).1 : Nat) := by omega
      have q : ((((rByte bs s).1 : Nat) : Int) == 251) = true ∨ ((((rByte bs s).1 : Nat) : Int) == 251) = false ∧ ((((rByte bs s).1 : Nat) : Int) == 252) = true := by simp; omega
      have hor := or8 _ _ h1 (by omega : (rU bs 32 (rByte bs s).2).1 ≤ 255)
      have e0 : rOp bs s = rOpEnd ((rByte bs s).1 * 256 + (rU bs 32 (rByte bs s).2).1) s.at_ (rU bs 32 (rByte bs s).2).2 := by unfold rOp; rw [if_pos h1, if_neg h2]
      rw [e0]
      unfold rOpEnd
      have i3 : (((rByte bs s).1 : Nat) : Int) * 256 + ((rU bs 32 (rByte bs s).2).1 : Nat) < 65536 := by omega
      have i4 : 0 ≤ (((rByte bs s).1 : Nat) : Int) * 256 + ((rU bs 32 (rByte bs s).2).1 : Nat) := by omega
      generalize (((rByte bs s).1 : Nat) : Int) * 256 + ((rU bs 32 (rByte bs s).2).1 : Nat) = op at hor i3 i4 ⊢
      clear e0 h1 h2
      cases hk : knownP op
      · by_cases hs : shapeP op = 0
        · have qs : (shapeP op == 0) = true := by simp [hs]
          rw [if_neg (by simp), if_pos hs]
          clear hs
          rcases q with q1 | ⟨q1, q2⟩
          all_goals
            go_enter Tryd.func124, Tryd.ntmps124
            go_wp2_with first | (go_at_call 22; refine rst_use ?_; (repeat (apply Exists.intro)); refine ⟨?_, ?_⟩; (· (repeat (first | (with_reducible assumption) | (with_reducible apply RSt.alloc) | (with_reducible apply RSt.drew) | (with_reducible apply RSt.drewN) | (with_reducible apply RSt.set) | (with_reducible exact Pick.here) | (with_reducible apply Pick.there)))); (try simp only [World.size_alloc, World.size_setCell, size_drew, size_drewN]); intro hT; refine (rd_at hT.rd).mono ?_; rintro e w1 ⟨rfl, rfl⟩; clear hT) | (go_at_call 12; refine rst_use ?_; (repeat (apply Exists.intro)); refine ⟨?_, ?_⟩; (· (repeat (first | (with_reducible assumption) | (with_reducible apply RSt.alloc) | (with_reducible apply RSt.drew) | (with_reducible apply RSt.drewN) | (with_reducible apply RSt.set) | (with_reducible exact Pick.here) | (with_reducible apply Pick.there)))); (try simp only [World.size_alloc, World.size_setCell, size_drew, size_drewN]); intro hT; refine (rd_byte hT.rd).mono ?_; rintro e w1 ⟨rfl, hR1, hF1⟩; have hS := hT.call hR1 hF1; clear hT hR1 hF1; (try clear hQ); have hQ := St.facts hS.st; (try simp only [Facts, Res.fact, List.cons_append, List.nil_append, true_and, and_true] at hQ); (try clear hN); have hN := aparts hS.st.apart; (try simp only [Aparts, Apart1, List.cons_append, List.nil_append, true_and, and_true] at hN)) | (go_at_call 13; refine rst_use ?_; (repeat (apply Exists.intro)); refine ⟨?_, ?_⟩; (· (repeat (first | (with_reducible assumption) | (with_reducible apply RSt.alloc) | (with_reducible apply RSt.drew) | (with_reducible apply RSt.drewN) | (with_reducible apply RSt.set) | (with_reducible exact Pick.here) | (with_reducible apply Pick.there)))); (try simp only [World.size_alloc, World.size_setCell, size_drew, size_drewN]); intro hT; refine (rd_u hT.rd 32 (by decide) (by decide)).mono ?_; rintro e w1 ⟨rfl, hR1, hF1⟩; have hS := hT.call hR1 hF1; clear hT hR1 hF1; (try clear hQ); have hQ := St.facts hS.st; (try simp only [Facts, Res.fact, List.cons_append, List.nil_append, true_and, and_true] at hQ); (try clear hN); have hN := aparts hS.st.apart; (try simp only [Aparts, Apart1, List.cons_append, List.nil_append, true_and, and_true] at hN)) | (go_at_call 144; refine rst_use ?_; (repeat (apply Exists.intro)); refine ⟨?_, ?_⟩; (· (repeat (first | (with_reducible assumption) | (with_reducible apply RSt.alloc) | (with_reducible apply RSt.drew) | (with_reducible apply RSt.drewN) | (with_reducible apply RSt.set) | (with_reducible exact Pick.here) | (with_reducible apply Pick.there)))); (try simp only [World.size_alloc, World.size_setCell, size_drew, size_drewN]); intro hT; refine (known_any (hT.gl7 hg) _).mono ?_; rintro e w1 ⟨rfl, hF1⟩; have hS := hT.step0 hF1; clear hT hF1; (try clear hQ); have hQ := St.facts hS.st; (try simp only [Facts, Res.fact, List.cons_append, List.nil_append, true_and, and_true] at hQ); (try clear hN); have hN := aparts hS.st.apart; (try simp only [Aparts, Apart1, List.cons_append, List.nil_append, true_and, and_true] at hN)) | (go_at_call 89; refine rst_use ?_; (repeat (apply Exists.intro)); refine ⟨?_, ?_⟩; (· (repeat (first | (with_reducible assumption) | (with_reducible apply RSt.alloc) | (with_reducible apply RSt.drew) | (with_reducible apply RSt.drewN) | (with_reducible apply RSt.set) | (with_reducible exact Pick.here) | (with_reducible apply Pick.there)))); (try simp only [World.size_alloc, World.size_setCell, size_drew, size_drewN]); intro hT; refine (shape_any (hT.gl7 hg) _ (by omega) (by omega)).mono ?_; rintro e w1 ⟨rfl, hF1⟩; have hS := hT.step0 hF1; clear hT hF1; (try clear hQ); have hQ := St.facts hS.st; (try simp only [Facts, Res.fact, List.cons_append, List.nil_append, true_and, and_true] at hQ); (try clear hN); have hN := aparts hS.st.apart; (try simp only [Aparts, Apart1, List.cons_append, List.nil_append, true_and, and_true] at hN)) | (go_at_call 11; refine rst_use ?_; (repeat (apply Exists.intro)); refine ⟨?_, ?_⟩; (· (repeat (first | (with_reducible assumption) | (with_reducible apply RSt.alloc) | (with_reducible apply RSt.drew) | (with_reducible apply RSt.drewN) | (with_reducible apply RSt.set) | (with_reducible exact Pick.here) | (with_reducible apply Pick.there)))); (try simp only [World.size_alloc, World.size_setCell, size_drew, size_drewN]); intro hT; refine (rd_fail hT.rd _ _).mono ?_; rintro e w1 ⟨rfl, hR1, hF1⟩; have hS := hT.call hR1 hF1; clear hT hR1 hF1; (try clear hQ); have hQ := St.facts hS.st; (try simp only [Facts, Res.fact, List.cons_append, List.nil_append, true_and, and_true] at hQ); (try clear hN); have hN := aparts hS.st.apart; (try simp only [Aparts, Apart1, List.cons_append, List.nil_append, true_and, and_true] at hN))
            (go_ret; exact ⟨rfl, by (first | (with_reducible exact hS.rd) | (apply RSt.rd; (repeat (first | (with_reducible assumption) | (with_reducible apply RSt.alloc) | (with_reducible apply RSt.drew) | (with_reducible apply RSt.drewN) | (with_reducible apply RSt.set) | (with_reducible exact Pick.here) | (with_reducible apply Pick.there))); done) | exact hS.rd), by (first | (with_reducible exact hS.fr) | (apply RSt.fr; (repeat (first | (with_reducible assumption) | (with_reducible apply RSt.alloc) | (with_reducible apply RSt.drew) | (with_reducible apply RSt.drewN) | (with_reducible apply RSt.set) | (with_reducible exact Pick.here) | (with_reducible apply Pick.there))); done) | exact hS.fr)⟩)
        · have qs : (shapeP op == 0) = false := by simp [hs]
          rw [if_neg (by simp), if_neg hs]
          clear hs
          rcases q with q1 | ⟨q1, q2⟩
          all_goals
            go_enter Tryd.func124, Tryd.ntmps124
            go_wp2_with first | (go_at_call 22; refine rst_use ?_; (repeat (apply Exists.intro)); refine ⟨?_, ?_⟩; (· (repeat (first | (with_reducible assumption) | (with_reducible apply RSt.alloc) | (with_reducible apply RSt.drew) | (with_reducible apply RSt.drewN) | (with_reducible apply RSt.set) | (with_reducible exact Pick.here) | (with_reducible apply Pick.there)))); (try simp only [World.size_alloc, World.size_setCell, size_drew, size_drewN]); intro hT; refine (rd_at hT.rd).mono ?_; rintro e w1 ⟨rfl, rfl⟩; clear hT) | (go_at_call 12; refine rst_use ?_; (repeat (apply Exists.intro)); refine ⟨?_, ?_⟩; (· (repeat (first | (with_reducible assumption) | (with_reducible apply RSt.alloc) | (with_reducible apply RSt.drew) | (with_reducible apply RSt.drewN) | (with_reducible apply RSt.set) | (with_reducible exact Pick.here) | (with_reducible apply Pick.there)))); (try simp only [World.size_alloc, World.size_setCell, size_drew, size_drewN]); intro hT; refine (rd_byte hT.rd).mono ?_; rintro e w1 ⟨rfl, hR1, hF1⟩; have hS := hT.call hR1 hF1; clear hT hR1 hF1; (try clear hQ); have hQ := St.facts hS.st; (try simp only [Facts, Res.fact, List.cons_append, List.nil_append, true_and, and_true] at hQ); (try clear hN); have hN := aparts hS.st.apart; (try simp only [Aparts, Apart1, List.cons_append, List.nil_append, true_and, and_true] at hN)) | (go_at_call 13; refine rst_use ?_; (repeat (apply Exists.intro)); refine ⟨?_, ?_⟩; (· (repeat (first | (with_reducible assumption) | (with_reducible apply RSt.alloc) | (with_reducible apply RSt.drew) | (with_reducible apply RSt.drewN) | (with_reducible apply RSt.set) | (with_reducible exact Pick.here) | (with_reducible apply Pick.there)))); (try simp only [World.size_alloc, World.size_setCell, size_drew, size_drewN]); intro hT; refine (rd_u hT.rd 32 (by decide) (by decide)).mono ?_; rintro e w1 ⟨rfl, hR1, hF1⟩; have hS := hT.call hR1 hF1; clear hT hR1 hF1; (try clear hQ); have hQ := St.facts hS.st; (try simp only [Facts, Res.fact, List.cons_append, List.nil_append, true_and, and_true] at hQ); (try clear hN); have hN := aparts hS.st.apart; (try simp only [Aparts, Apart1, List.cons_append, List.nil_append, true_and, and_true] at hN)) | (go_at_call 144; refine rst_use ?_; (repeat (apply Exists.intro)); refine ⟨?_, ?_⟩; (· (repeat (first | (with_reducible assumption) | (with_reducible apply RSt.alloc) | (with_reducible apply RSt.drew) | (with_reducible apply RSt.drewN) | (with_reducible apply RSt.set) | (with_reducible exact Pick.here) | (with_reducible apply Pick.there)))); (try simp only [World.size_alloc, World.size_setCell, size_drew, size_drewN]); intro hT; refine (known_any (hT.gl7 hg) _).mono ?_; rintro e w1 ⟨rfl, hF1⟩; have hS := hT.step0 hF1; clear hT hF1; (try clear hQ); have hQ := St.facts hS.st; (try simp only [Facts, Res.fact, List.cons_append, List.nil_append, true_and, and_true] at hQ); (try clear hN); have hN := aparts hS.st.apart; (try simp only [Aparts, Apart1, List.cons_append, List.nil_append, true_and, and_true] at hN)) | (go_at_call 89; refine rst_use ?_; (repeat (apply Exists.intro)); refine ⟨?_, ?_⟩; (· (repeat (first | (with_reducible assumption) | (with_reducible apply RSt.alloc) | (with_reducible apply RSt.drew) | (with_reducible apply RSt.drewN) | (with_reducible apply RSt.set) | (with_reducible exact Pick.here) | (with_reducible apply Pick.there)))); (try simp only [World.size_alloc, World.size_setCell, size_drew, size_drewN]); intro hT; refine (shape_any (hT.gl7 hg) _ (by omega) (by omega)).mono ?_; rintro e w1 ⟨rfl, hF1⟩; have hS := hT.step0 hF1; clear hT hF1; (try clear hQ); have hQ := St.facts hS.st; (try simp only [Facts, Res.fact, List.cons_append, List.nil_append, true_and, and_true] at hQ); (try clear hN); have hN := aparts hS.st.apart; (try simp only [Aparts, Apart1, List.cons_append, List.nil_append, true_and, and_true] at hN)) | (go_at_call 11; refine rst_use ?_; (repeat (apply Exists.intro)); refine ⟨?_, ?_⟩; (· (repeat (first | (with_reducible assumption) | (with_reducible apply RSt.alloc) | (with_reducible apply RSt.drew) | (with_reducible apply RSt.drewN) | (with_reducible apply RSt.set) | (with_reducible exact Pick.here) | (with_reducible apply Pick.there)))); (try simp only [World.size_alloc, World.size_setCell, size_drew, size_drewN]); intro hT; refine (rd_fail hT.rd _ _).mono ?_; rintro e w1 ⟨rfl, hR1, hF1⟩; have hS := hT.call hR1 hF1; clear hT hR1 hF1; (try clear hQ); have hQ := St.facts hS.st; (try simp only [Facts, Res.fact, List.cons_append, List.nil_append, true_and, and_true] at hQ); (try clear hN); have hN := aparts hS.st.apart; (try simp only [Aparts, Apart1, List.cons_append, List.nil_append, true_and, and_true] at hN))
            (go_ret; exact ⟨rfl, by (first | (with_reducible exact hS.rd) | (apply RSt.rd; (repeat (first | (with_reducible assumption) | (with_reducible apply RSt.alloc) | (with_reducible apply RSt.drew) | (with_reducible apply RSt.drewN) | (with_reducible apply RSt.set) | (with_reducible exact Pick.here) | (with_reducible apply Pick.there))); done) | exact hS.rd), by (first | (with_reducible exact hS.fr) | (apply RSt.fr; (repeat (first | (with_reducible assumption) | (with_reducible apply RSt.alloc) | (with_reducible apply RSt.drew) | (with_reducible apply RSt.drewN) | (with_reducible apply RSt.set) | (with_reducible exact Pick.here) | (with_reducible apply Pick.there))); done) | exact hS.fr)⟩)
      · rw [if_pos rfl]
        rcases q with q1 | ⟨q1, q2⟩
        all_goals
          go_enter Tryd.func124, Tryd.ntmps124
          go_wp2_with first | (go_at_call 22; refine rst_use ?_; (repeat (apply Exists.intro)); refine ⟨?_, ?_⟩; (· (repeat (first | (with_reducible assumption) | (with_reducible apply RSt.alloc) | (with_reducible apply RSt.drew) | (with_reducible apply RSt.drewN) | (with_reducible apply RSt.set) | (with_reducible exact Pick.here) | (with_reducible apply Pick.there)))); (try simp only [World.size_alloc, World.size_setCell, size_drew, size_drewN]); intro hT; refine (rd_at hT.rd).mono ?_; rintro e w1 ⟨rfl, rfl⟩; clear hT) | (go_at_call 12; refine rst_use ?_; (repeat (apply Exists.intro)); refine ⟨?_, ?_⟩; (· (repeat (first | (with_reducible assumption) | (with_reducible apply RSt.alloc) | (with_reducible apply RSt.drew) | (with_reducible apply RSt.drewN) | (with_reducible apply RSt.set) | (with_reducible exact Pick.here) | (with_reducible apply Pick.there)))); (try simp only [World.size_alloc, World.size_setCell, size_drew, size_drewN]); intro hT; refine (rd_byte hT.rd).mono ?_; rintro e w1 ⟨rfl, hR1, hF1⟩; have hS := hT.call hR1 hF1; clear hT hR1 hF1; (try clear hQ); have hQ := St.facts hS.st; (try simp only [Facts, Res.fact, List.cons_append, List.nil_append, true_and, and_true] at hQ); (try clear hN); have hN := aparts hS.st.apart; (try simp only [Aparts, Apart1, List.cons_append, List.nil_append, true_and, and_true] at hN)) | (go_at_call 13; refine rst_use ?_; (repeat (apply Exists.intro)); refine ⟨?_, ?_⟩; (· (repeat (first | (with_reducible assumption) | (with_reducible apply RSt.alloc) | (with_reducible apply RSt.drew) | (with_reducible apply RSt.drewN) | (with_reducible apply RSt.set) | (with_reducible exact Pick.here) | (with_reducible apply Pick.there)))); (try simp only [World.size_alloc, World.size_setCell, size_drew, size_drewN]); intro hT; refine (rd_u hT.rd 32 (by decide) (by decide)).mono ?_; rintro e w1 ⟨rfl, hR1, hF1⟩; have hS := hT.call hR1 hF1; clear hT hR1 hF1; (try clear hQ); have hQ := St.facts hS.st; (try simp only [Facts, Res.fact, List.cons_append, List.nil_append, true_and, and_true] at hQ); (try clear hN); have hN := aparts hS.st.apart; (try simp only [Aparts, Apart1, List.cons_append, List.nil_append, true_and, and_true] at hN)) | (go_at_call 144; refine rst_use ?_; (repeat (apply Exists.intro)); refine ⟨?_, ?_⟩; (· (repeat (first | (with_reducible assumption) | (with_reducible apply RSt.alloc) | (with_reducible apply RSt.drew) | (with_reducible apply RSt.drewN) | (with_reducible apply RSt.set) | (with_reducible exact Pick.here) | (with_reducible apply Pick.there)))); (try simp only [World.size_alloc, World.size_setCell, size_drew, size_drewN]); intro hT; refine (known_any (hT.gl7 hg) _).mono ?_; rintro e w1 ⟨rfl, hF1⟩; have hS := hT.step0 hF1; clear hT hF1; (try clear hQ); have hQ := St.facts hS.st; (try simp only [Facts, Res.fact, List.cons_append, List.nil_append, true_and, and_true] at hQ); (try clear hN); have hN := aparts hS.st.apart; (try simp only [Aparts, Apart1, List.cons_append, List.nil_append, true_and, and_true] at hN)) | (go_at_call 89; refine rst_use ?_; (repeat (apply Exists.intro)); refine ⟨?_, ?_⟩; (· (repeat (first | (with_reducible assumption) | (with_reducible apply RSt.alloc) | (with_reducible apply RSt.drew) | (with_reducible apply RSt.drewN) | (with_reducible apply RSt.set) | (with_reducible exact Pick.here) | (with_reducible apply Pick.there)))); (try simp only [World.size_alloc, World.size_setCell, size_drew, size_drewN]); intro hT; refine (shape_any (hT.gl7 hg) _ (by omega) (by omega)).mono ?_; rintro e w1 ⟨rfl, hF1⟩; have hS := hT.step0 hF1; clear hT hF1; (try clear hQ); have hQ := St.facts hS.st; (try simp only [Facts, Res.fact, List.cons_append, List.nil_append, true_and, and_true] at hQ); (try clear hN); have hN := aparts hS.st.apart; (try simp only [Aparts, Apart1, List.cons_append, List.nil_append, true_and, and_true] at hN)) | (go_at_call 11; refine rst_use ?_; (repeat (apply Exists.intro)); refine ⟨?_, ?_⟩; (· (repeat (first | (with_reducible assumption) | (with_reducible apply RSt.alloc) | (with_reducible apply RSt.drew) | (with_reducible apply RSt.drewN) | (with_reducible apply RSt.set) | (with_reducible exact Pick.here) | (with_reducible apply Pick.there)))); (try simp only [World.size_alloc, World.size_setCell, size_drew, size_drewN]); intro hT; refine (rd_fail hT.rd _ _).mono ?_; rintro e w1 ⟨rfl, hR1, hF1⟩; have hS := hT.call hR1 hF1; clear hT hR1 hF1; (try clear hQ); have hQ := St.facts hS.st; (try simp only [Facts, Res.fact, List.cons_append, List.nil_append, true_and, and_true] at hQ); (try clear hN); have hN := aparts hS.st.apart; (try simp only [Aparts, Apart1, List.cons_append, List.nil_append, true_and, and_true] at hN))
          (go_ret; exact ⟨rfl, by (first | (with_reducible exact hS.rd) | (apply RSt.rd; (repeat (first | (with_reducible assumption) | (with_reducible apply RSt.alloc) | (with_reducible apply RSt.drew) | (with_reducible apply RSt.drewN) | (with_reducible apply RSt.set) | (with_reducible exact Pick.here) | (with_reducible apply Pick.there))); done) | exact hS.rd), by (first | (with_reducible exact hS.fr) | (apply RSt.fr; (repeat (first | (with_reducible assumption) | (with_reducible apply RSt.alloc) | (with_reducible apply RSt.drew) | (with_reducible apply RSt.drewN) | (with_reducible apply RSt.set) | (with_reducible exact Pick.here) | (with_reducible apply Pick.there))); done) | exact hS.fr)⟩)
  · have e0 : rOp bs s = rOpEnd (rByte bs s).1 s.at_ (rByte bs s).2 := by unfold rOp; rw [if_neg h1]
    have q1 : ((((rByte bs s).1 : Nat) : Int) == 251) = false := by simp; omega
    have q2 : ((((rByte bs s).1 : Nat) : Int) == 252) = false := by simp; omega
    rw [e0]
    unfold rOpEnd
    clear e0 h1
    cases hk : knownP ((rByte bs s).1 : Nat)
    · by_cases hs : shapeP ((rByte bs s).1 : Nat) = 0
      · have qs : (shapeP ((rByte bs s).1 : Nat) == 0) = true := by simp [hs]
        rw [if_neg (by simp), if_pos hs]
        clear hs
        go_enter Tryd.func124, Tryd.ntmps124
        go_wp2_with first | (go_at_call 22; refine rst_use ?_; (repeat (apply Exists.intro)); refine ⟨?_, ?_⟩; (· (repeat (first | (with_reducible assumption) | (with_reducible apply RSt.alloc) | (with_reducible apply RSt.drew) | (with_reducible apply RSt.drewN) | (with_reducible apply RSt.set) | (with_reducible exact Pick.here) | (with_reducible apply Pick.there)))); (try simp only [World.size_alloc, World.size_setCell, size_drew, size_drewN]); intro hT; refine (rd_at hT.rd).mono ?_; rintro e w1 ⟨rfl, rfl⟩; clear hT) | (go_at_call 12; refine rst_use ?_; (repeat (apply Exists.intro)); refine ⟨?_, ?_⟩; (· (repeat (first | (with_reducible assumption) | (with_reducible apply RSt.alloc) | (with_reducible apply RSt.drew) | (with_reducible apply RSt.drewN) | (with_reducible apply RSt.set) | (with_reducible exact Pick.here) | (with_reducible apply Pick.there)))); (try simp only [World.size_alloc, World.size_setCell, size_drew, size_drewN]); intro hT; refine (rd_byte hT.rd).mono ?_; rintro e w1 ⟨rfl, hR1, hF1⟩; have hS := hT.call hR1 hF1; clear hT hR1 hF1; (try clear hQ); have hQ := St.facts hS.st; (try simp only [Facts, Res.fact, List.cons_append, List.nil_append, true_and, and_true] at hQ); (try clear hN); have hN := aparts hS.st.apart; (try simp only [Aparts, Apart1, List.cons_append, List.nil_append, true_and, and_true] at hN)) | (go_at_call 13; refine rst_use ?_; (repeat (apply Exists.intro)); refine ⟨?_, ?_⟩; (· (repeat (first | (with_reducible assumption) | (with_reducible apply RSt.alloc) | (with_reducible apply RSt.drew) | (with_reducible apply RSt.drewN) | (with_reducible apply RSt.set) | (with_reducible exact Pick.here) | (with_reducible apply Pick.there)))); (try simp only [World.size_alloc, World.size_setCell, size_drew, size_drewN]); intro hT; refine (rd_u hT.rd 32 (by decide) (by decide)).mono ?_; rintro e w1 ⟨rfl, hR1, hF1⟩; have hS := hT.call hR1 hF1; clear hT hR1 hF1; (try clear hQ); have hQ := St.facts hS.st; (try simp only [Facts, Res.fact, List.cons_append, List.nil_append, true_and, and_true] at hQ); (try clear hN); have hN := aparts hS.st.apart; (try simp only [Aparts, Apart1, List.cons_append, List.nil_append, true_and, and_true] at hN)) | (go_at_call 144; refine rst_use ?_; (repeat (apply Exists.intro)); refine ⟨?_, ?_⟩; (· (repeat (first | (with_reducible assumption) | (with_reducible apply RSt.alloc) | (with_reducible apply RSt.drew) | (with_reducible apply RSt.drewN) | (with_reducible apply RSt.set) | (with_reducible exact Pick.here) | (with_reducible apply Pick.there)))); (try simp only [World.size_alloc, World.size_setCell, size_drew, size_drewN]); intro hT; refine (known_any (hT.gl7 hg) _).mono ?_; rintro e w1 ⟨rfl, hF1⟩; have hS := hT.step0 hF1; clear hT hF1; (try clear hQ); have hQ := St.facts hS.st; (try simp only [Facts, Res.fact, List.cons_append, List.nil_append, true_and, and_true] at hQ); (try clear hN); have hN := aparts hS.st.apart; (try simp only [Aparts, Apart1, List.cons_append, List.nil_append, true_and, and_true] at hN)) | (go_at_call 89; refine rst_use ?_; (repeat (apply Exists.intro)); refine ⟨?_, ?_⟩; (· (repeat (first | (with_reducible assumption) | (with_reducible apply RSt.alloc) | (with_reducible apply RSt.drew) | (with_reducible apply RSt.drewN) | (with_reducible apply RSt.set) | (with_reducible exact Pick.here) | (with_reducible apply Pick.there)))); (try simp only [World.size_alloc, World.size_setCell, size_drew, size_drewN]); intro hT; refine (shape_any (hT.gl7 hg) _ (by omega) (by omega)).mono ?_; rintro e w1 ⟨rfl, hF1⟩; have hS := hT.step0 hF1; clear hT hF1; (try clear hQ); have hQ := St.facts hS.st; (try simp only [Facts, Res.fact, List.cons_append, List.nil_append, true_and, and_true] at hQ); (try clear hN); have hN := aparts hS.st.apart; (try simp only [Aparts, Apart1, List.cons_append, List.nil_append, true_and, and_true] at hN)) | (go_at_call 11; refine rst_use ?_; (repeat (apply Exists.intro)); refine ⟨?_, ?_⟩; (· (repeat (first | (with_reducible assumption) | (with_reducible apply RSt.alloc) | (with_reducible apply RSt.drew) | (with_reducible apply RSt.drewN) | (with_reducible apply RSt.set) | (with_reducible exact Pick.here) | (with_reducible apply Pick.there)))); (try simp only [World.size_alloc, World.size_setCell, size_drew, size_drewN]); intro hT; refine (rd_fail hT.rd _ _).mono ?_; rintro e w1 ⟨rfl, hR1, hF1⟩; have hS := hT.call hR1 hF1; clear hT hR1 hF1; (try clear hQ); have hQ := St.facts hS.st; (try simp only [Facts, Res.fact, List.cons_append, List.nil_append, true_and, and_true] at hQ); (try clear hN); have hN := aparts hS.st.apart; (try simp only [Aparts, Apart1, List.cons_append, List.nil_append, true_and, and_true] at hN))
        (go_ret; exact ⟨rfl, by (first | (with_reducible exact hS.rd) | (apply RSt.rd; (repeat (first | (with_reducible assumption) | (with_reducible apply RSt.alloc) | (with_reducible apply RSt.drew) | (with_reducible apply RSt.drewN) | (with_reducible apply RSt.set) | (with_reducible exact Pick.here) | (with_reducible apply Pick.there))); done) | exact hS.rd), by (first | (with_reducible exact hS.fr) | (apply RSt.fr; (repeat (first | (with_reducible assumption) | (with_reducible apply RSt.alloc) | (with_reducible apply RSt.drew) | (with_reducible apply RSt.drewN) | (with_reducible apply RSt.set) | (with_reducible exact Pick.here) | (with_reducible apply Pick.there))); done) | exact hS.fr)⟩)
      · have qs : (shapeP ((rByte bs s).1 : Nat) == 0) = false := by simp [hs]
        rw [if_neg (by simp), if_neg hs]
        clear hs
        go_enter Tryd.func124, Tryd.ntmps124
        go_wp2_with first | (go_at_call 22; refine rst_use ?_; (repeat (apply Exists.intro)); refine ⟨?_, ?_⟩; (· (repeat (first | (with_reducible assumption) | (with_reducible apply RSt.alloc) | (with_reducible apply RSt.drew) | (with_reducible apply RSt.drewN) | (with_reducible apply RSt.set) | (with_reducible exact Pick.here) | (with_reducible apply Pick.there)))); (try simp only [World.size_alloc, World.size_setCell, size_drew, size_drewN]); intro hT; refine (rd_at hT.rd).mono ?_; rintro e w1 ⟨rfl, rfl⟩; clear hT) | (go_at_call 12; refine rst_use ?_; (repeat (apply Exists.intro)); refine ⟨?_, ?_⟩; (· (repeat (first | (with_reducible assumption) | (with_reducible apply RSt.alloc) | (with_reducible apply RSt.drew) | (with_reducible apply RSt.drewN) | (with_reducible apply RSt.set) | (with_reducible exact Pick.here) | (with_reducible apply Pick.there)))); (try simp only [World.size_alloc, World.size_setCell, size_drew, size_drewN]); intro hT; refine (rd_byte hT.rd).mono ?_; rintro e w1 ⟨rfl, hR1, hF1⟩; have hS := hT.call hR1 hF1; clear hT hR1 hF1; (try clear hQ); have hQ := St.facts hS.st; (try simp only [Facts, Res.fact, List.cons_append, List.nil_append, true_and, and_true] at hQ); (try clear hN); have hN := aparts hS.st.apart; (try simp only [Aparts, Apart1, List.cons_append, List.nil_append, true_and, and_true] at hN)) | (go_at_call 13; refine rst_use ?_; (repeat (apply Exists.intro)); refine ⟨?_, ?_⟩; (· (repeat (first | (with_reducible assumption) | (with_reducible apply RSt.alloc) | (with_reducible apply RSt.drew) | (with_reducible apply RSt.drewN) | (with_reducible apply RSt.set) | (with_reducible exact Pick.here) | (with_reducible apply Pick.there)))); (try simp only [World.size_alloc, World.size_setCell, size_drew, size_drewN]); intro hT; refine (rd_u hT.rd 32 (by decide) (by decide)).mono ?_; rintro e w1 ⟨rfl, hR1, hF1⟩; have hS := hT.call hR1 hF1; clear hT hR1 hF1; (try clear hQ); have hQ := St.facts hS.st; (try simp only [Facts, Res.fact, List.cons_append, List.nil_append, true_and, and_true] at hQ); (try clear hN); have hN := aparts hS.st.apart; (try simp only [Aparts, Apart1, List.cons_append, List.nil_append, true_and, and_true] at hN)) | (go_at_call 144; refine rst_use ?_; (repeat (apply Exists.intro)); refine ⟨?_, ?_⟩; (· (repeat (first | (with_reducible assumption) | (with_reducible apply RSt.alloc) | (with_reducible apply RSt.drew) | (with_reducible apply RSt.drewN) | (with_reducible apply RSt.set) | (with_reducible exact Pick.here) | (with_reducible apply Pick.there)))); (try simp only [World.size_alloc, World.size_setCell, size_drew, size_drewN]); intro hT; refine (known_any (hT.gl7 hg) _).mono ?_; rintro e w1 ⟨rfl, hF1⟩; have hS := hT.step0 hF1; clear hT hF1; (try clear hQ); have hQ := St.facts hS.st; (try simp only [Facts, Res.fact, List.cons_append, List.nil_append, true_and, and_true] at hQ); (try clear hN); have hN := aparts hS.st.apart; (try simp only [Aparts, Apart1, List.cons_append, List.nil_append, true_and, and_true] at hN)) | (go_at_call 89; refine rst_use ?_; (repeat (apply Exists.intro)); refine ⟨?_, ?_⟩; (· (repeat (first | (with_reducible assumption) | (with_reducible apply RSt.alloc) | (with_reducible apply RSt.drew) | (with_reducible apply RSt.drewN) | (with_reducible apply RSt.set) | (with_reducible exact Pick.here) | (with_reducible apply Pick.there)))); (try simp only [World.size_alloc, World.size_setCell, size_drew, size_drewN]); intro hT; refine (shape_any (hT.gl7 hg) _ (by omega) (by omega)).mono ?_; rintro e w1 ⟨rfl, hF1⟩; have hS := hT.step0 hF1; clear hT hF1; (try clear hQ); have hQ := St.facts hS.st; (try simp only [Facts, Res.fact, List.cons_append, List.nil_append, true_and, and_true] at hQ); (try clear hN); have hN := aparts hS.st.apart; (try simp only [Aparts, Apart1, List.cons_append, List.nil_append, true_and, and_true] at hN)) | (go_at_call 11; refine rst_use ?_; (repeat (apply Exists.intro)); refine ⟨?_, ?_⟩; (· (repeat (first | (with_reducible assumption) | (with_reducible apply RSt.alloc) | (with_reducible apply RSt.drew) | (with_reducible apply RSt.drewN) | (with_reducible apply RSt.set) | (with_reducible exact Pick.here) | (with_reducible apply Pick.there)))); (try simp only [World.size_alloc, World.size_setCell, size_drew, size_drewN]); intro hT; refine (rd_fail hT.rd _ _).mono ?_; rintro e w1 ⟨rfl, hR1, hF1⟩; have hS := hT.call hR1 hF1; clear hT hR1 hF1; (try clear hQ); have hQ := St.facts hS.st; (try simp only [Facts, Res.fact, List.cons_append, List.nil_append, true_and, and_true] at hQ); (try clear hN); have hN := aparts hS.st.apart; (try simp only [Aparts, Apart1, List.cons_append, List.nil_append, true_and, and_true] at hN))
        (go_ret; exact ⟨rfl, by (first | (with_reducible exact hS.rd) | (apply RSt.rd; (repeat (first | (with_reducible assumption) | (with_reducible apply RSt.alloc) | (with_reducible apply RSt.drew) | (with_reducible apply RSt.drewN) | (with_reducible apply RSt.set) | (with_reducible exact Pick.here) | (with_reducible apply Pick.there))); done) | exact hS.rd), by (first | (with_reducible exact hS.fr) | (apply RSt.fr; (repeat (first | (with_reducible assumption) | (with_reducible apply RSt.alloc) | (with_reducible apply RSt.drew) | (with_reducible apply RSt.drewN) | (with_reducible apply RSt.set) | (with_reducible exact Pick.here) | (with_reducible apply Pick.there))); done) | exact hS.fr)⟩)
    · rw [if_pos rfl]
      go_enter Tryd.func124, Tryd.ntmps124
      go_wp2_with first | (go_at_call 22; refine rst_use ?_; (repeat (apply Exists.intro)); refine ⟨?_, ?_⟩; (· (repeat (first | (with_reducible assumption) | (with_reducible apply RSt.alloc) | (with_reducible apply RSt.drew) | (with_reducible apply RSt.drewN) | (with_reducible apply RSt.set) | (with_reducible exact Pick.here) | (with_reducible apply Pick.there)))); (try simp only [World.size_alloc, World.size_setCell, size_drew, size_drewN]); intro hT; refine (rd_at hT.rd).mono ?_; rintro e w1 ⟨rfl, rfl⟩; clear hT) | (go_at_call 12; refine rst_use ?_; (repeat (apply Exists.intro)); refine ⟨?_, ?_⟩; (· (repeat (first | (with_reducible assumption) | (with_reducible apply RSt.alloc) | (with_reducible apply RSt.drew) | (with_reducible apply RSt.drewN) | (with_reducible apply RSt.set) | (with_reducible exact Pick.here) | (with_reducible apply Pick.there)))); (try simp only [World.size_alloc, World.size_setCell, size_drew, size_drewN]); intro hT; refine (rd_byte hT.rd).mono ?_; rintro e w1 ⟨rfl, hR1, hF1⟩; have hS := hT.call hR1 hF1; clear hT hR1 hF1; (try clear hQ); have hQ := St.facts hS.st; (try simp only [Facts, Res.fact, List.cons_append, List.nil_append, true_and, and_true] at hQ); (try clear hN); have hN := aparts hS.st.apart; (try simp only [Aparts, Apart1, List.cons_append, List.nil_append, true_and, and_true] at hN)) | (go_at_call 13; refine rst_use ?_; (repeat (apply Exists.intro)); refine ⟨?_, ?_⟩; (· (repeat (first | (with_reducible assumption) | (with_reducible apply RSt.alloc) | (with_reducible apply RSt.drew) | (with_reducible apply RSt.drewN) | (with_reducible apply RSt.set) | (with_reducible exact Pick.here) | (with_reducible apply Pick.there)))); (try simp only [World.size_alloc, World.size_setCell, size_drew, size_drewN]); intro hT; refine (rd_u hT.rd 32 (by decide) (by decide)).mono ?_; rintro e w1 ⟨rfl, hR1, hF1⟩; have hS := hT.call hR1 hF1; clear hT hR1 hF1; (try clear hQ); have hQ := St.facts hS.st; (try simp only [Facts, Res.fact, List.cons_append, List.nil_append, true_and, and_true] at hQ); (try clear hN); have hN := aparts hS.st.apart; (try simp only [Aparts, Apart1, List.cons_append, List.nil_append, true_and, and_true] at hN)) | (go_at_call 144; refine rst_use ?_; (repeat (apply Exists.intro)); refine ⟨?_, ?_⟩; (· (repeat (first | (with_reducible assumption) | (with_reducible apply RSt.alloc) | (with_reducible apply RSt.drew) | (with_reducible apply RSt.drewN) | (with_reducible apply RSt.set) | (with_reducible exact Pick.here) | (with_reducible apply Pick.there)))); (try simp only [World.size_alloc, World.size_setCell, size_drew, size_drewN]); intro hT; refine (known_any (hT.gl7 hg) _).mono ?_; rintro e w1 ⟨rfl, hF1⟩; have hS := hT.step0 hF1; clear hT hF1; (try clear hQ); have hQ := St.facts hS.st; (try simp only [Facts, Res.fact, List.cons_append, List.nil_append, true_and, and_true] at hQ); (try clear hN); have hN := aparts hS.st.apart; (try simp only [Aparts, Apart1, List.cons_append, List.nil_append, true_and, and_true] at hN)) | (go_at_call 89; refine rst_use ?_; (repeat (apply Exists.intro)); refine ⟨?_, ?_⟩; (· (repeat (first | (with_reducible assumption) | (with_reducible apply RSt.alloc) | (with_reducible apply RSt.drew) | (with_reducible apply RSt.drewN) | (with_reducible apply RSt.set) | (with_reducible exact Pick.here) | (with_reducible apply Pick.there)))); (try simp only [World.size_alloc, World.size_setCell, size_drew, size_drewN]); intro hT; refine (shape_any (hT.gl7 hg) _ (by omega) (by omega)).mono ?_; rintro e w1 ⟨rfl, hF1⟩; have hS := hT.step0 hF1; clear hT hF1; (try clear hQ); have hQ := St.facts hS.st; (try simp only [Facts, Res.fact, List.cons_append, List.nil_append, true_and, and_true] at hQ); (try clear hN); have hN := aparts hS.st.apart; (try simp only [Aparts, Apart1, List.cons_append, List.nil_append, true_and, and_true] at hN)) | (go_at_call 11; refine rst_use ?_; (repeat (apply Exists.intro)); refine ⟨?_, ?_⟩; (· (repeat (first | (with_reducible assumption) | (with_reducible apply RSt.alloc) | (with_reducible apply RSt.drew) | (with_reducible apply RSt.drewN) | (with_reducible apply RSt.set) | (with_reducible exact Pick.here) | (with_reducible apply Pick.there)))); (try simp only [World.size_alloc, World.size_setCell, size_drew, size_drewN]); intro hT; refine (rd_fail hT.rd _ _).mono ?_; rintro e w1 ⟨rfl, hR1, hF1⟩; have hS := hT.call hR1 hF1; clear hT hR1 hF1; (try clear hQ); have hQ := St.facts hS.st; (try simp only [Facts, Res.fact, List.cons_append, List.nil_append, true_and, and_true] at hQ); (try clear hN); have hN := aparts hS.st.apart; (try simp only [Aparts, Apart1, List.cons_append, List.nil_append, true_and, and_true] at hN))
      (go_ret; exact ⟨rfl, by (first | (with_reducible exact hS.rd) | (apply RSt.rd; (repeat (first | (with_reducible assumption) | (with_reducible apply RSt.alloc) | (with_reducible apply RSt.drew) | (with_reducible apply RSt.drewN) | (with_reducible apply RSt.set) | (with_reducible exact Pick.here) | (with_reducible apply Pick.there))); done) | exact hS.rd), by (first | (with_reducible exact hS.fr) | (apply RSt.fr; (repeat (first | (with_reducible assumption) | (with_reducible apply RSt.alloc) | (with_reducible apply RSt.drew) | (with_reducible apply RSt.drewN) | (with_reducible apply RSt.set) | (with_reducible exact Pick.here) | (with_reducible apply Pick.there))); done) | exact hS.fr)⟩)

set_option maxRecDepth 100000 in set_option maxHeartbeats 1600000 in
theorem ib_memory {S : List Nat} {w0 w : World} {rb : Nat} {bv : Value} {bs : List UInt8} {s : RdS} {G : List Res} {ib : Nat} {op : Int} (hS : RSt S w0 w rb bv bs s (.loc ib (insC (InstrT.of op) (.slice none 0 0) (.slice none 0 0) (.slice none 0 0)) 81 :: G)) :
    Calls Tryd.prog 127 #[.pointer (some ⟨rb, 0, none⟩), .pointer (some ⟨ib, 0, none⟩)] w fun e w' => e = .returned (.tuple #[]) ∧
      RSt S w0 w' rb bv bs (rU bs 64 (rMemY bs s).2).2 (.loc ib (insC ({ InstrT.of op with x := (rMemY bs s).1.1, y := (rMemY bs s).1.2, u := (rU bs 64 (rMemY bs s).2).1 } : InstrT) (.slice none 0 0) (.slice none 0 0) (.slice none 0 0)) 81 :: G) := by
  have hlt := rU32_lt bs s
  unfold insC InstrT.of at hS
  (try clear hQ); have hQ := St.facts hS.st; (try simp only [Facts, Res.fact, List.cons_append, List.nil_append, true_and, and_true] at hQ); (try clear hN); have hN := aparts hS.st.apart; (try simp only [Aparts, Apart1, List.cons_append, List.nil_append, true_and, and_true] at hN)
  have eX : rMemX bs s = ((rNum bs s).1, if 127 < (rNum bs s).1 then (rNum bs s).2.fail 60 s.at_ else (rNum bs s).2) := rfl
  have hn : (rNum bs s).1 = ((rU bs 32 s).1 : Nat) := rfl
  by_cases h1 : 127 < (rNum bs s).1
  · rw [if_pos h1] at eX
    have eY : rMemY bs s = (((rNum bs s).1 - 64, (rNum bs ((rNum bs s).2.fail 60 s.at_)).1), (rNum bs ((rNum bs s).2.fail 60 s.at_)).2) := by unfold rMemY; rw [eX, if_pos (by simp only; omega)]
    rw [eY]
    have hw := IntWalk.wrap64_in ((rNum bs s).1 - 64) (by omega)
    have i2 : 64 ≤ (rNum bs s).1 := by omega
    clear eX eY hn
    go_enter Tryd.func127, Tryd.ntmps127
    go_wp2_with first | (go_at_call 22; refine rst_use ?_; (repeat (apply Exists.intro)); refine ⟨?_, ?_⟩; (· (repeat (first | (with_reducible assumption) | (with_reducible apply RSt.alloc) | (with_reducible apply RSt.drew) | (with_reducible apply RSt.drewN) | (with_reducible apply RSt.set) | (with_reducible exact Pick.here) | (with_reducible apply Pick.there)))); (try simp only [World.size_alloc, World.size_setCell, size_drew, size_drewN]); intro hT; refine (rd_at hT.rd).mono ?_; rintro e w1 ⟨rfl, rfl⟩; clear hT) | (go_at_call 125; refine rst_use ?_; (repeat (apply Exists.intro)); refine ⟨?_, ?_⟩; (· (repeat (first | (with_reducible assumption) | (with_reducible apply RSt.alloc) | (with_reducible apply RSt.drew) | (with_reducible apply RSt.drewN) | (with_reducible apply RSt.set) | (with_reducible exact Pick.here) | (with_reducible apply Pick.there)))); (try simp only [World.size_alloc, World.size_setCell, size_drew, size_drewN]); intro hT; refine (ib_num hT.rd).mono ?_; rintro e w1 ⟨rfl, hR1, hF1⟩; have hS := hT.call hR1 hF1; clear hT hR1 hF1; (try clear hQ); have hQ := St.facts hS.st; (try simp only [Facts, Res.fact, List.cons_append, List.nil_append, true_and, and_true] at hQ); (try clear hN); have hN := aparts hS.st.apart; (try simp only [Aparts, Apart1, List.cons_append, List.nil_append, true_and, and_true] at hN)) | (go_at_call 13; refine rst_use ?_; (repeat (apply Exists.intro)); refine ⟨?_, ?_⟩; (· (repeat (first | (with_reducible assumption) | (with_reducible apply RSt.alloc) | (with_reducible apply RSt.drew) | (with_reducible apply RSt.drewN) | (with_reducible apply RSt.set) | (with_reducible exact Pick.here) | (with_reducible apply Pick.there)))); (try simp only [World.size_alloc, World.size_setCell, size_drew, size_drewN]); intro hT; refine (rd_u hT.rd 64 (by decide) (by decide)).mono ?_; rintro e w1 ⟨rfl, hR1, hF1⟩; have hS := hT.call hR1 hF1; clear hT hR1 hF1; (try clear hQ); have hQ := St.facts hS.st; (try simp only [Facts, Res.fact, List.cons_append, List.nil_append, true_and, and_true] at hQ); (try clear hN); have hN := aparts hS.st.apart; (try simp only [Aparts, Apart1, List.cons_append, List.nil_append, true_and, and_true] at hN)) | (go_at_call 11; refine rst_use ?_; (repeat (apply Exists.intro)); refine ⟨?_, ?_⟩; (· (repeat (first | (with_reducible assumption) | (with_reducible apply RSt.alloc) | (with_reducible apply RSt.drew) | (with_reducible apply RSt.drewN) | (with_reducible apply RSt.set) | (with_reducible exact Pick.here) | (with_reducible apply Pick.there)))); (try simp only [World.size_alloc, World.size_setCell, size_drew, size_drewN]); intro hT; refine (rd_fail hT.rd _ _).mono ?_; rintro e w1 ⟨rfl, hR1, hF1⟩; have hS := hT.call hR1 hF1; clear hT hR1 hF1; (try clear hQ); have hQ := St.facts hS.st; (try simp only [Facts, Res.fact, List.cons_append, List.nil_append, true_and, and_true] at hQ); (try clear hN); have hN := aparts hS.st.apart; (try simp only [Aparts, Apart1, List.cons_append, List.nil_append, true_and, and_true] at hN))
    go_end0
    exact ⟨rfl, hS.set Pick.here 3 _⟩
  · rw [if_neg h1] at eX
    by_cases h2 : 64 ≤ (rNum bs s).1
    · have eY : rMemY bs s = (((rNum bs s).1 - 64, (rNum bs (rNum bs s).2).1), (rNum bs (rNum bs s).2).2) := by unfold rMemY; rw [eX, if_pos h2]
      rw [eY]
      have hw := IntWalk.wrap64_in ((rNum bs s).1 - 64) (by omega)
      clear eX eY hn
      go_enter Tryd.func127, Tryd.ntmps127
      go_wp2_with first | (go_at_call 22; refine rst_use ?_; (repeat (apply Exists.intro)); refine ⟨?_, ?_⟩; (· (repeat (first | (with_reducible assumption) | (with_reducible apply RSt.alloc) | (with_reducible apply RSt.drew) | (with_reducible apply RSt.drewN) | (with_reducible apply RSt.set) | (with_reducible exact Pick.here) | (with_reducible apply Pick.there)))); (try simp only [World.size_alloc, World.size_setCell, size_drew, size_drewN]); intro hT; refine (rd_at hT.rd).mono ?_; rintro e w1 ⟨rfl, rfl⟩; clear hT) | (go_at_call 125; refine rst_use ?_; (repeat (apply Exists.intro)); refine ⟨?_, ?_⟩; (· (repeat (first | (with_reducible assumption) | (with_reducible apply RSt.alloc) | (with_reducible apply RSt.drew) | (with_reducible apply RSt.drewN) | (with_reducible apply RSt.set) | (with_reducible exact Pick.here) | (with_reducible apply Pick.there)))); (try simp only [World.size_alloc, World.size_setCell, size_drew, size_drewN]); intro hT; refine (ib_num hT.rd).mono ?_; rintro e w1 ⟨rfl, hR1, hF1⟩; have hS := hT.call hR1 hF1; clear hT hR1 hF1; (try clear hQ); have hQ := St.facts hS.st; (try simp only [Facts, Res.fact, List.cons_append, List.nil_append, true_and, and_true] at hQ); (try clear hN); have hN := aparts hS.st.apart; (try simp only [Aparts, Apart1, List.cons_append, List.nil_append, true_and, and_true] at hN)) | (go_at_call 13; refine rst_use ?_; (repeat (apply Exists.intro)); refine ⟨?_, ?_⟩; (· (repeat (first | (with_reducible assumption) | (with_reducible apply RSt.alloc) | (with_reducible apply RSt.drew) | (with_reducible apply RSt.drewN) | (with_reducible apply RSt.set) | (with_reducible exact Pick.here) | (with_reducible apply Pick.there)))); (try simp only [World.size_alloc, World.size_setCell, size_drew, size_drewN]); intro hT; refine (rd_u hT.rd 64 (by decide) (by decide)).mono ?_; rintro e w1 ⟨rfl, hR1, hF1⟩; have hS := hT.call hR1 hF1; clear hT hR1 hF1; (try clear hQ); have hQ := St.facts hS.st; (try simp only [Facts, Res.fact, List.cons_append, List.nil_append, true_and, and_true] at hQ); (try clear hN); have hN := aparts hS.st.apart; (try simp only [Aparts, Apart1, List.cons_append, List.nil_append, true_and, and_true] at hN)) | (go_at_call 11; refine rst_use ?_; (repeat (apply Exists.intro)); refine ⟨?_, ?_⟩; (· (repeat (first | (with_reducible assumption) | (with_reducible apply RSt.alloc) | (with_reducible apply RSt.drew) | (with_reducible apply RSt.drewN) | (with_reducible apply RSt.set) | (with_reducible exact Pick.here) | (with_reducible apply Pick.there)))); (try simp only [World.size_alloc, World.size_setCell, size_drew, size_drewN]); intro hT; refine (rd_fail hT.rd _ _).mono ?_; rintro e w1 ⟨rfl, hR1, hF1⟩; have hS := hT.call hR1 hF1; clear hT hR1 hF1; (try clear hQ); have hQ := St.facts hS.st; (try simp only [Facts, Res.fact, List.cons_append, List.nil_append, true_and, and_true] at hQ); (try clear hN); have hN := aparts hS.st.apart; (try simp only [Aparts, Apart1, List.cons_append, List.nil_append, true_and, and_true] at hN))
      go_end0
      exact ⟨rfl, hS.set Pick.here 3 _⟩
    · have eY : rMemY bs s = (((rNum bs s).1, 0), (rNum bs s).2) := by unfold rMemY; rw [eX, if_neg h2]
      rw [eY]
      clear eX eY hn
      go_enter Tryd.func127, Tryd.ntmps127
      go_wp2_with first | (go_at_call 22; refine rst_use ?_; (repeat (apply Exists.intro)); refine ⟨?_, ?_⟩; (· (repeat (first | (with_reducible assumption) | (with_reducible apply RSt.alloc) | (with_reducible apply RSt.drew) | (with_reducible apply RSt.drewN) | (with_reducible apply RSt.set) | (with_reducible exact Pick.here) | (with_reducible apply Pick.there)))); (try simp only [World.size_alloc, World.size_setCell, size_drew, size_drewN]); intro hT; refine (rd_at hT.rd).mono ?_; rintro e w1 ⟨rfl, rfl⟩; clear hT) | (go_at_call 125; refine rst_use ?_; (repeat (apply Exists.intro)); refine ⟨?_, ?_⟩; (· (repeat (first | (with_reducible assumption) | (with_reducible apply RSt.alloc) | (with_reducible apply RSt.drew) | (with_reducible apply RSt.drewN) | (with_reducible apply RSt.set) | (with_reducible exact Pick.here) | (with_reducible apply Pick.there)))); (try simp only [World.size_alloc, World.size_setCell, size_drew, size_drewN]); intro hT; refine (ib_num hT.rd).mono ?_; rintro e w1 ⟨rfl, hR1, hF1⟩; have hS := hT.call hR1 hF1; clear hT hR1 hF1; (try clear hQ); have hQ := St.facts hS.st; (try simp only [Facts, Res.fact, List.cons_append, List.nil_append, true_and, and_true] at hQ); (try clear hN); have hN := aparts hS.st.apart; (try simp only [Aparts, Apart1, List.cons_append, List.nil_append, true_and, and_true] at hN)) | (go_at_call 13; refine rst_use ?_; (repeat (apply Exists.intro)); refine ⟨?_, ?_⟩; (· (repeat (first | (with_reducible assumption) | (with_reducible apply RSt.alloc) | (with_reducible apply RSt.drew) | (with_reducible apply RSt.drewN) | (with_reducible apply RSt.set) | (with_reducible exact Pick.here) | (with_reducible apply Pick.there)))); (try simp only [World.size_alloc, World.size_setCell, size_drew, size_drewN]); intro hT; refine (rd_u hT.rd 64 (by decide) (by decide)).mono ?_; rintro e w1 ⟨rfl, hR1, hF1⟩; have hS := hT.call hR1 hF1; clear hT hR1 hF1; (try clear hQ); have hQ := St.facts hS.st; (try simp only [Facts, Res.fact, List.cons_append, List.nil_append, true_and, and_true] at hQ); (try clear hN); have hN := aparts hS.st.apart; (try simp only [Aparts, Apart1, List.cons_append, List.nil_append, true_and, and_true] at hN)) | (go_at_call 11; refine rst_use ?_; (repeat (apply Exists.intro)); refine ⟨?_, ?_⟩; (· (repeat (first | (with_reducible assumption) | (with_reducible apply RSt.alloc) | (with_reducible apply RSt.drew) | (with_reducible apply RSt.drewN) | (with_reducible apply RSt.set) | (with_reducible exact Pick.here) | (with_reducible apply Pick.there)))); (try simp only [World.size_alloc, World.size_setCell, size_drew, size_drewN]); intro hT; refine (rd_fail hT.rd _ _).mono ?_; rintro e w1 ⟨rfl, hR1, hF1⟩; have hS := hT.call hR1 hF1; clear hT hR1 hF1; (try clear hQ); have hQ := St.facts hS.st; (try simp only [Facts, Res.fact, List.cons_append, List.nil_append, true_and, and_true] at hQ); (try clear hN); have hN := aparts hS.st.apart; (try simp only [Aparts, Apart1, List.cons_append, List.nil_append, true_and, and_true] at hN))
      go_end0
      exact ⟨rfl, hS.set Pick.here 3 _⟩
end Go.Proofs.YtokneepfknepaaaDoor
