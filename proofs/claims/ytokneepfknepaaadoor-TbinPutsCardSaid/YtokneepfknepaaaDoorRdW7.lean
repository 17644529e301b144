/- The walks of layer 6, the seventh part: supers and fields, and lists of them. -/
import Derived.Test.YtokneepfknepaaaDoorRdW6
set_option linter.unusedSimpArgs false
set_option linter.unusedVariables false
namespace Go.Proofs.YtokneepfknepaaaDoor
open Go.RowKit

theorem lebGo_32 : ∀ (l : List UInt8) (at_ done acc : Nat), acc < 2 ^ done → done < 32 → (lebGo false 32 l at_ done acc).1 < 549755813888 := by
  intro l
  induction l with
  | nil => intro at_ done acc _ _; simp [lebGo]
  | cons c r ih =>
    intro at_ done acc ha hd
    have hlt : acc + c.toNat % 128 * 2 ^ done < 2 ^ (done + 7) := join_lt ha (by rw [show done + 7 - done = 7 by omega]; omega) (by omega)
    have hm : (acc + c.toNat % 128 * 2 ^ done) % 18446744073709551616 < 2 ^ (done + 7) := Nat.lt_of_le_of_lt (Nat.mod_le _ _) hlt
    have hp : 2 ^ (done + 7) ≤ 2 ^ 39 := Nat.pow_le_pow_right (by omega) (by omega)
    simp only [lebGo]
    split
    · simp
    · split
      · simp only [Bool.false_and, Bool.false_eq_true, if_false]
        omega
      · split
        · simp
        · exact ih _ _ _ hm (by omega)
theorem rU32_lt (bs : List UInt8) (s : RdS) : (rU bs 32 s).1 < 549755813888 := by
  unfold rU
  split
  · split
    · unfold lebRead
      split
      · exact lebGo_32 _ _ _ _ (by simp) (by omega)
      · simp
    · simp
  · simp

set_option maxRecDepth 100000 in
set_option maxHeartbeats 400000 in
theorem rd_super {S : List Nat} {w : World} {rb : Nat} {bv : Value} {bs : List UInt8} {s : RdS} (h : Rd S w rb bv bs s) :
    Calls Tryd.prog 101 #[.pointer (some ⟨rb, 0, none⟩)] w fun e w' => e = .returned (heapV (rSuper bs s).1) ∧ Rd S w' rb bv bs (rSuper bs s).2 ∧ Fr [rb] w w' := by
  have hrb := h.loc.lt
  have hlt := rU32_lt bs s
  have hR := h.loc1 (.cells #[.int .i64 0, .int .i64 0] 40)
  have hL : Loc (w.alloc (.cells #[.int .i64 0, .int .i64 0] 40)) w.heap.size [.int .i64 0, .int .i64 0] 40 := Loc.new _ _ _
  have f0 : Fr [rb] w (w.alloc (.cells #[.int .i64 0, .int .i64 0] 40)) := (Fr.refl _ _).alloc _
  go_enter Tryd.func101, Tryd.ntmps101
  go_wp2_with ((go_at_call 13; refine (rd_u hR 32 (by decide) (by decide)).mono ?_; rintro e w1 ⟨rfl, hR1, hF1⟩); have hL1 := hL.fr hF1 (by simp; omega); have f1 := f0.trans hF1; have hLC1 := hL1.cell; have hLF1 := hL1.frz; have hLT1 := hL1.lt)
  refine bodyPost_ret (v := heapV (rSuper bs s).1) (by simp [results, Tryd.results101, go_sem, rSuper, *]) rfl ⟨rfl, ?_, ?_⟩
  · refine Rd.un1 (lb := w.heap.size) ?_ h.mem
    unfold rSuper
    repeat (first | (with_reducible assumption) | (with_reducible refine Rd.setLoc ?_ (by simp) (by omega) _ _) | (with_reducible apply Rd.alloc) | (with_reducible apply Rd.drewN))
  · repeat (first | (with_reducible exact Fr.refl _ _) | (with_reducible assumption) | (with_reducible apply Fr.alloc) | (with_reducible apply Fr.drew) | (with_reducible apply Fr.drewN) | (with_reducible refine Fr.setCell ?_ (by first | (left; simp; done) | (right; simp; done) | (right; simp; omega)) _))

theorem info_heap : (Tryd.prog.info? 40).map (fun i => (i.zero, i.size, i.bytes)) = some (some (.agg #[.int .i64 0, .int .i64 0]), 2, 16) := by kernel_rfl
theorem und_heaps : Tryd.prog.underlying 54 = some (.slice 40) := by kernel_rfl
/-- append on such a slice of the call's own. -/
theorem app_heap {w : World} {ops : Array Oper} {rest : List Oper} {o : Oper} {a : Act} {Q : Exit → Act → World → Prop} (hgd : o.guard = none) (s x : Operand) (tx : TypeId)
    (ho : o.op = .call { callee := .builtin .append, args := #[s, x], argTypes := #[54, tx] })
    (v : Value) (n : Nat) (xs : List Value) (hs : a.eval s = v) (hown : Own [] w 40 2 v n xs) (xv : Value) (m : Nat) (news : List Value) (hx : a.eval x = xv) (hsrc : Src Tryd.prog 2 tx xv m news w)
    (hb : n + m ≤ 1099511627776)
    (h : ∀ v' w', Own [] w' 40 2 v' (n + m) (xs ++ news) → Fr (Value.blk v) w w' → (Value.blk v' = Value.blk v ∨ Value.blk v' = [w.heap.size]) → wpList Tryd.prog ops Q rest (a.put o.dst v') w') :
    wpList Tryd.prog ops Q (o :: rest) a w := by
  obtain ⟨i0, hi, hz0, hz1, hz2⟩ := info_parts info_heap
  exact wpList_app hgd s x _ tx ho _ i0 _ 2 16 und_heaps hi hz0 hz1 hz2 rfl (by decide) [] (by simp) v n xs hs hown xv m news hx hsrc (by omega) (by unfold maxLen; omega) h

set_option maxRecDepth 100000 in
set_option maxHeartbeats 400000 in
theorem told_heaps {S : List Nat} {w : World} {rb : Nat} {bv : Value} {bs : List UInt8} {s : RdS} (h : Rd S w rb bv bs s) (v : Value) :
    Calls Tryd.prog 138 #[.pointer (some ⟨rb, 0, none⟩), v] w fun e w' => e = .returned (if s.err = 0 then v else .slice none 0 0) ∧ w = w' := by
  by_cases he : s.err = 0
  · have g1 : (s.err == 0) = true := by simp [he]
    rw [if_pos he]
    clear he
    go_enter Tryd.func138, Tryd.ntmps138
    go_wp2_with (go_at_call 45; refine (rd_reads h).mono ?_; rintro e w' ⟨rfl, rfl⟩)
    go_ret
    exact ⟨rfl, rfl⟩
  · have g1 : (s.err == 0) = false := by simp [he]
    rw [if_neg he]
    clear he
    go_enter Tryd.func138, Tryd.ntmps138
    go_wp2_with (go_at_call 45; refine (rd_reads h).mono ?_; rintro e w' ⟨rfl, rfl⟩)
    go_ret
    exact ⟨rfl, rfl⟩

set_option maxRecDepth 100000 in
set_option maxHeartbeats 1600000 in
theorem list_heap {S : List Nat} {w : World} {rb : Nat} {bv : Value} {bs : List UInt8} {s : RdS} (h : Rd S w rb bv bs s) :
    Calls Tryd.prog 100 #[.pointer (some ⟨rb, 0, none⟩), .func (.func 101) #[.pointer (some ⟨rb, 0, none⟩)] #[]] w fun e w' =>
      ∃ v, e = .returned v ∧ Sl S w' 2 v (rList bs (rSuper bs) s).1.length ((rList bs (rSuper bs) s).1.flatMap heapC) ∧ Rd S w' rb bv bs (rList bs (rSuper bs) s).2 ∧ Fr [rb] w w' := by
  have hrb := h.loc.lt
  have hsm := h.small
  have hN := rCount_le bs s
  have hl : rList bs (rSuper bs) s = ((rMany (rSuper bs) (rCount bs s).1 (rCount bs s).2).2.told [] (rMany (rSuper bs) (rCount bs s).1 (rCount bs s).2).1, (rMany (rSuper bs) (rCount bs s).1 (rCount bs s).2).2) := rfl
  rw [hl]
  clear hl
  go_enter Tryd.func100, Tryd.ntmps100
  go_wp2_with (go_at_call 16; refine (rd_count h).mono ?_; rintro e w1 ⟨rfl, hR1, hF1⟩)
  go_loopw [5, 6] (fun v n wr => ∃ (k : Nat) (xs : List HeapT) (t : RdS), n = .int .i64 k ∧ Own [] wr 40 2 v xs.length (xs.flatMap heapC) ∧ New w v ∧ Rd S wr rb bv bs t ∧ Fr [rb] w wr ∧ k + xs.length = (rCount bs s).1 ∧ Hid (rMany (rSuper bs) (rCount bs s).1 (rCount bs s).2 = (xs ++ (rMany (rSuper bs) k t).1, (rMany (rSuper bs) k t).2))) (fun _ n _ => (intOf n).toNat)
  case atStart => exact ⟨(rCount bs s).1, [], _, rfl, Own.nil _ _ _ _, New.nil _, hR1, hF1, by simp, Lib.hid rfl⟩
  case round =>
    obtain ⟨k, xs, t, rfl, hown, hnew, hR, hF, hks, hg⟩ := hrel
    have Hks := Lib.hid hks
    have hbnd : xs.length + 1 ≤ 1099511627776 ∨ k = 0 := by omega
    clear hks
    have hexit : (k = 0 ∨ t.err ≠ 0) → rMany (rSuper bs) (rCount bs s).1 (rCount bs s).2 = (xs, t) := by
      intro hh
      rw [hg.out]
      cases k with
      | zero => simp [rMany]
      | succ k => simp [rMany, hh.resolve_left (by omega)]
    by_cases hk : k = 0
    · have hE := Lib.hid (hexit (.inl hk))
      subst hk
      clear hexit hbnd
      by_cases he : t.err = 0
      · have g1 : (t.err == 0) = true := by simp [he]
        go_wp2_with first | (go_at_call 138; refine (told_heaps hR _).mono ?_; rintro e w' ⟨rfl, rfl⟩) | (go_at_call 45; refine (rd_reads hR).mono ?_; rintro e w' ⟨rfl, rfl⟩)
        go_ret
        refine ⟨_, rfl, ?_, by rw [hE.out]; exact hR, hF⟩
        rw [hE.out]
        simp only [RdS.told, if_pos he]
        exact hown.slN hnew h.lt
      · have g1 : (t.err == 0) = false := by simp [he]
        go_wp2_with first | (go_at_call 138; refine (told_heaps hR _).mono ?_; rintro e w' ⟨rfl, rfl⟩) | (go_at_call 45; refine (rd_reads hR).mono ?_; rintro e w' ⟨rfl, rfl⟩)
        go_ret
        refine ⟨_, rfl, ?_, by rw [hE.out]; exact hR, hF⟩
        rw [hE.out]
        simp only [RdS.told, if_neg he]
        exact Sl.nil _ _ _
    · by_cases he : t.err = 0
      · have g1 : (t.err == 0) = true := by simp [he]
        have hx : rMany (rSuper bs) k t = ((rSuper bs t).1 :: (rMany (rSuper bs) (k - 1) (rSuper bs t).2).1, (rMany (rSuper bs) (k - 1) (rSuper bs t).2).2) := by
          obtain ⟨j, rfl⟩ : ∃ j, k = j + 1 := ⟨k - 1, by omega⟩
          simp [rMany, he]
        have HX := Lib.hid hx
        have hkp : 0 < k := by omega
        have hb2 : xs.length + 1 ≤ 1099511627776 := by omega
        have hk40 : k ≤ 1099511627776 := by have := Hks.out; omega
        clear hx he hexit hbnd
        have hone : ∀ u ∈ heapC (rSuper bs t).1, u.oneCell' = true := (by intro u hu; simp [heapC] at hu; rcases hu with rfl | rfl <;> rfl)
        have hrv := hnew.not hrb
        go_wp2_with first | (go_at_call 45; refine (rd_reads hR).mono ?_; rintro e w' ⟨rfl, rfl⟩) | ((go_at_call 101; refine (rd_super hR).mono ?_; rintro e w2 ⟨rfl, hR2, hF2⟩); have hown2 := hown.fr hF2 (by intro b hb; simp at hb; subst hb; exact hrv)) | (at_builtin; refine app_heap rfl (.tmp 17) (.tmp 20) _ rfl _ _ _ rfl (hown2.alloc _) _ _ _ rfl (src_alloc und_heaps _ (heapC (rSuper bs t).1) _ _ _ rfl hone) hb2 ?_; intro v' w3 hown3 hf3 hb3)
        have hF3 : Fr [rb] w w3 := ((hF.trans hF2).alloc _).app hf3 hnew
        go_roundw
        case rel =>
          refine ⟨k - 1, xs ++ [(rSuper bs t).1], _, by go_num, ?_, hnew.app hb3 (by have := hF.size; have := hF2.size; first | omega | (simp only [World.size_alloc]; omega)), h.step hF3 ((hR2.loc.alloc _).fr hf3 hrv) hR2.le, hF3, by have := Hks.out; simp; omega, Lib.hid ?_⟩
          · simpa using hown3
          · rw [hg.out, HX.out]; simp
        case measure => simp [intOf]; omega
      · have g1 : (t.err == 0) = false := by simp [he]
        have hE := Lib.hid (hexit (.inr he))
        have hkp : 0 < k := by omega
        clear hexit hbnd
        go_wp2_with first | (go_at_call 138; refine (told_heaps hR _).mono ?_; rintro e w' ⟨rfl, rfl⟩) | (go_at_call 45; refine (rd_reads hR).mono ?_; rintro e w' ⟨rfl, rfl⟩)
        go_ret
        refine ⟨_, rfl, ?_, by rw [hE.out]; exact hR, hF⟩
        rw [hE.out]
        simp only [RdS.told, if_neg he]
        exact Sl.nil _ _ _

end Go.Proofs.YtokneepfknepaaaDoor
