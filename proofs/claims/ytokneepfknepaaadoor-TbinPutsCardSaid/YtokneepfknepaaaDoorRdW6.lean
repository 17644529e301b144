/- The walks of layer 6, the sixth part: lists are read. -/
import Derived.Test.YtokneepfknepaaaDoorRdW5
set_option linter.unusedSimpArgs false
set_option linter.unusedVariables false
namespace Go.Proofs.YtokneepfknepaaaDoor
open Go.RowKit

def heapC (h : HeapT) : List Value := [.int .i64 h.kind, .int .i64 h.n]
def valC (v : ValT) : List Value := [.int .i64 v.kind, .bool v.null, .int .i64 v.heap.kind, .int .i64 v.heap.n]
def fieldC (f : FieldT) : List Value := [.int .i64 f.pack, .int .i64 f.val.kind, .bool f.val.null, .int .i64 f.val.heap.kind, .int .i64 f.val.heap.n, .bool f.mut_]

theorem rCount_le (bs : List UInt8) (s : RdS) : (rCount bs s).1 ≤ bs.length := by
  unfold rCount
  split
  · simp
  · omega

theorem info_val : (Tryd.prog.info? 44).map (fun i => (i.zero, i.size, i.bytes)) = some (some (.agg #[.int .i64 0, .bool false, .int .i64 0, .int .i64 0]), 4, 32) := by kernel_rfl
theorem und_vals : Tryd.prog.underlying 46 = some (.slice 44) := by kernel_rfl
/-- append on such a slice of the call's own. -/
theorem app_val {w : World} {ops : Array Oper} {rest : List Oper} {o : Oper} {a : Act} {Q : Exit → Act → World → Prop} (hgd : o.guard = none) (s x : Operand) (tx : TypeId)
    (ho : o.op = .call { callee := .builtin .append, args := #[s, x], argTypes := #[46, tx] })
    (v : Value) (n : Nat) (xs : List Value) (hs : a.eval s = v) (hown : Own [] w 44 4 v n xs) (xv : Value) (m : Nat) (news : List Value) (hx : a.eval x = xv) (hsrc : Src Tryd.prog 4 tx xv m news w)
    (hb : n + m ≤ 1099511627776)
    (h : ∀ v' w', Own [] w' 44 4 v' (n + m) (xs ++ news) → Fr (Value.blk v) w w' → (Value.blk v' = Value.blk v ∨ Value.blk v' = [w.heap.size]) → wpList Tryd.prog ops Q rest (a.put o.dst v') w') :
    wpList Tryd.prog ops Q (o :: rest) a w := by
  obtain ⟨i0, hi, hz0, hz1, hz2⟩ := info_parts info_val
  exact wpList_app hgd s x _ tx ho _ i0 _ 4 32 und_vals hi hz0 hz1 hz2 rfl (by decide) [] (by simp) v n xs hs hown xv m news hx hsrc (by omega) (by unfold maxLen; omega) h

set_option maxRecDepth 100000 in
set_option maxHeartbeats 400000 in
theorem told_vals {S : List Nat} {w : World} {rb : Nat} {bv : Value} {bs : List UInt8} {s : RdS} (h : Rd S w rb bv bs s) (v : Value) :
    Calls Tryd.prog 99 #[.pointer (some ⟨rb, 0, none⟩), v] w fun e w' => e = .returned (if s.err = 0 then v else .slice none 0 0) ∧ w = w' := by
  by_cases he : s.err = 0
  · have g1 : (s.err == 0) = true := by simp [he]
    rw [if_pos he]
    clear he
    go_enter Tryd.func99, Tryd.ntmps99
    go_wp2_with (go_at_call 45; refine (rd_reads h).mono ?_; rintro e w' ⟨rfl, rfl⟩)
    go_ret
    exact ⟨rfl, rfl⟩
  · have g1 : (s.err == 0) = false := by simp [he]
    rw [if_neg he]
    clear he
    go_enter Tryd.func99, Tryd.ntmps99
    go_wp2_with (go_at_call 45; refine (rd_reads h).mono ?_; rintro e w' ⟨rfl, rfl⟩)
    go_ret
    exact ⟨rfl, rfl⟩

set_option maxRecDepth 100000 in
set_option maxHeartbeats 1600000 in
theorem list_val {S : List Nat} {w : World} {rb : Nat} {bv : Value} {bs : List UInt8} {s : RdS} (h : Rd S w rb bv bs s) :
    Calls Tryd.prog 61 #[.pointer (some ⟨rb, 0, none⟩), .func (.func 19) #[.pointer (some ⟨rb, 0, none⟩)] #[]] w fun e w' =>
      ∃ v, e = .returned v ∧ Sl S w' 4 v (rList bs (rVal bs) s).1.length ((rList bs (rVal bs) s).1.flatMap valC) ∧ Rd S w' rb bv bs (rList bs (rVal bs) s).2 ∧ Fr [rb] w w' := by
  have hrb := h.loc.lt
  have hsm := h.small
  have hN := rCount_le bs s
  have hl : rList bs (rVal bs) s = ((rMany (rVal bs) (rCount bs s).1 (rCount bs s).2).2.told [] (rMany (rVal bs) (rCount bs s).1 (rCount bs s).2).1, (rMany (rVal bs) (rCount bs s).1 (rCount bs s).2).2) := rfl
  rw [hl]
  clear hl
  go_enter Tryd.func61, Tryd.ntmps61
  go_wp2_with (go_at_call 16; refine (rd_count h).mono ?_; rintro e w1 ⟨rfl, hR1, hF1⟩)
  go_loopw [5, 6] (fun v n wr => ∃ (k : Nat) (xs : List ValT) (t : RdS), n = .int .i64 k ∧ Own [] wr 44 4 v xs.length (xs.flatMap valC) ∧ New w v ∧ Rd S wr rb bv bs t ∧ Fr [rb] w wr ∧ k + xs.length = (rCount bs s).1 ∧ Hid (rMany (rVal bs) (rCount bs s).1 (rCount bs s).2 = (xs ++ (rMany (rVal bs) k t).1, (rMany (rVal bs) k t).2))) (fun _ n _ => (intOf n).toNat)
  case atStart => exact ⟨(rCount bs s).1, [], _, rfl, Own.nil _ _ _ _, New.nil _, hR1, hF1, by simp, Lib.hid rfl⟩
  case round =>
    obtain ⟨k, xs, t, rfl, hown, hnew, hR, hF, hks, hg⟩ := hrel
    have Hks := Lib.hid hks
    have hbnd : xs.length + 1 ≤ 1099511627776 ∨ k = 0 := by omega
    clear hks
    have hexit : (k = 0 ∨ t.err ≠ 0) → rMany (rVal bs) (rCount bs s).1 (rCount bs s).2 = (xs, t) := by
      intro hh
      rw [hg.out]
      cases k with
      | zero => simp [rMany]
      | succ k => simp [rMany, hh.resolve_left (by omega)]
    by_cases hk : k = 0
    · have hE := Lib.hid (hexit (.inl hk))
      subst hk
      clear hexit hbnd
      by_cases he : t.err = 0
      · have g1 : (t.err == 0) = true := by simp [he]
        go_wp2_with first | (go_at_call 99; refine (told_vals hR _).mono ?_; rintro e w' ⟨rfl, rfl⟩) | (go_at_call 45; refine (rd_reads hR).mono ?_; rintro e w' ⟨rfl, rfl⟩)
        go_ret
        refine ⟨_, rfl, ?_, by rw [hE.out]; exact hR, hF⟩
        rw [hE.out]
        simp only [RdS.told, if_pos he]
        exact hown.slN hnew h.lt
      · have g1 : (t.err == 0) = false := by simp [he]
        go_wp2_with first | (go_at_call 99; refine (told_vals hR _).mono ?_; rintro e w' ⟨rfl, rfl⟩) | (go_at_call 45; refine (rd_reads hR).mono ?_; rintro e w' ⟨rfl, rfl⟩)
        go_ret
        refine ⟨_, rfl, ?_, by rw [hE.out]; exact hR, hF⟩
        rw [hE.out]
        simp only [RdS.told, if_neg he]
        exact Sl.nil _ _ _
    · by_cases he : t.err = 0
      · have g1 : (t.err == 0) = true := by simp [he]
        have hx : rMany (rVal bs) k t = ((rVal bs t).1 :: (rMany (rVal bs) (k - 1) (rVal bs t).2).1, (rMany (rVal bs) (k - 1) (rVal bs t).2).2) := by
          obtain ⟨j, rfl⟩ : ∃ j, k = j + 1 := ⟨k - 1, by omega⟩
          simp [rMany, he]
        have HX := Lib.hid hx
        have hkp : 0 < k := by omega
        have hb2 : xs.length + 1 ≤ 1099511627776 := by omega
        have hk40 : k ≤ 1099511627776 := by have := Hks.out; omega
        clear hx he hexit hbnd
        have hone : ∀ u ∈ valC (rVal bs t).1, u.oneCell' = true := (by intro u hu; simp [valC] at hu; rcases hu with rfl | rfl | rfl | rfl <;> rfl)
        have hrv := hnew.not hrb
        go_wp2_with first | (go_at_call 45; refine (rd_reads hR).mono ?_; rintro e w' ⟨rfl, rfl⟩) | ((go_at_call 19; refine (rd_val hR).mono ?_; rintro e w2 ⟨rfl, hR2, hF2⟩); have hown2 := hown.fr hF2 (by intro b hb; simp at hb; subst hb; exact hrv)) | (at_builtin; refine app_val rfl (.tmp 17) (.tmp 20) _ rfl _ _ _ rfl (hown2.alloc _) _ _ _ rfl (src_alloc und_vals _ (valC (rVal bs t).1) _ _ _ rfl hone) hb2 ?_; intro v' w3 hown3 hf3 hb3)
        have hF3 : Fr [rb] w w3 := ((hF.trans hF2).alloc _).app hf3 hnew
        go_roundw
        case rel =>
          refine ⟨k - 1, xs ++ [(rVal bs t).1], _, by go_num, ?_, hnew.app hb3 (by have := hF.size; have := hF2.size; first | omega | (simp only [World.size_alloc]; omega)), h.step hF3 ((hR2.loc.alloc _).fr hf3 hrv) hR2.le, hF3, by have := Hks.out; simp; omega, Lib.hid ?_⟩
          · simpa using hown3
          · rw [hg.out, HX.out]; simp
        case measure => simp [intOf]; omega
      · have g1 : (t.err == 0) = false := by simp [he]
        have hE := Lib.hid (hexit (.inr he))
        have hkp : 0 < k := by omega
        clear hexit hbnd
        go_wp2_with first | (go_at_call 99; refine (told_vals hR _).mono ?_; rintro e w' ⟨rfl, rfl⟩) | (go_at_call 45; refine (rd_reads hR).mono ?_; rintro e w' ⟨rfl, rfl⟩)
        go_ret
        refine ⟨_, rfl, ?_, by rw [hE.out]; exact hR, hF⟩
        rw [hE.out]
        simp only [RdS.told, if_neg he]
        exact Sl.nil _ _ _

end Go.Proofs.YtokneepfknepaaaDoor
