/- The walks of layer 6, the eleventh part: lists of sub types, and recursive types. -/
import Derived.Test.YtokneepfknepaaaDoorRdWA
set_option linter.unusedSimpArgs false
set_option linter.unusedVariables false
namespace Go.Proofs.YtokneepfknepaaaDoor
open Go.RowKit

theorem Rd.grow {S S' : List Nat} {w wr : World} {rb : Nat} {bv : Value} {bs : List UInt8} {s t : RdS} (h : Rd S w rb bv bs s) (hf : Fr [rb] w wr) (hR : Rd S wr rb bv bs t) (hs : ∀ b, b ∈ S' → b ∈ S ∨ w.heap.size ≤ b) (hlt : ∀ b, b ∈ S' → b < wr.heap.size) (hm : rb ∈ S') : Rd S' wr rb bv bs t :=
  have hh : ∀ b, b < w.heap.size → b ∈ S' → b ∈ S := fun b hb hm => (hs b hm).elim id (fun h => by omega)
  have hr : ∀ b, b < w.heap.size → b ∈ [rb] → b ∈ S' := fun b _ hb => by simp at hb; subst hb; exact hm
  ⟨hm, hlt, hR.loc, (h.sl.sub hh).fr hf hr, (h.gl.sub hh).fr hf hr, hR.le, hR.small⟩
theorem Rd.growO {S : List Nat} {w wr : World} {rb k n : Nat} {bv v : Value} {bs : List UInt8} {s t : RdS} {e : TypeId} {xs : List Value} (h : Rd S w rb bv bs s) (hf : Fr [rb] w wr) (hR : Rd S wr rb bv bs t) (hown : Own [] wr e k v n xs) (hnew : New w v) : Rd (Value.blk v ++ S) wr rb bv bs t :=
  h.grow hf hR (by
    intro b hb
    rcases List.mem_append.1 hb with hb | hb
    · exact .inr (hnew b hb)
    · exact .inl hb) (by
    intro b hb
    rcases List.mem_append.1 hb with hb | hb
    · exact (hown.blk_lt b hb).1
    · exact hR.lt b hb) (List.mem_append_right _ h.mem)
theorem SubsR.app {S : List Nat} {W w3 : World} {v v' : Value} {ts : List SubT} {cs : List Value} (h : SubsR (Value.blk v ++ S) W ts cs) (hf : Fr (Value.blk v) W w3) (hb : Value.blk v' = Value.blk v ∨ Value.blk v' = [W.heap.size]) : SubsR (Value.blk v' ++ S) w3 ts cs := by
  have h1 : SubsR (Value.blk v' ++ (Value.blk v ++ S)) W ts cs := h.sub (by
    intro b hlt hm
    rcases List.mem_append.1 hm with hm | hm
    · rcases hb with hb | hb
      · rw [hb] at hm; exact List.mem_append_left _ hm
      · rw [hb] at hm; simp at hm; omega
    · exact hm)
  have h2 := SubsR.fr hf (fun b _ hm => by simp [hm]) h1
  exact SubsR.sub (fun b _ hm => by
    rcases List.mem_append.1 hm with hm | hm <;> simp [hm]) h2

theorem info_sub : (Tryd.prog.info? 60).map (fun i => (i.zero, i.size, i.bytes)) = some (some (.agg #[.bool false, .slice none 0 0, .int .i64 0, .slice none 0 0, .slice none 0 0, .slice none 0 0]), 6, 112) := by kernel_rfl
theorem und_subs : Tryd.prog.underlying 48 = some (.slice 60) := by kernel_rfl
/-- append on such a slice of the call's own. -/
theorem app_sub {w : World} {ops : Array Oper} {rest : List Oper} {o : Oper} {a : Act} {Q : Exit → Act → World → Prop} (hgd : o.guard = none) (s x : Operand) (tx : TypeId)
    (ho : o.op = .call { callee := .builtin .append, args := #[s, x], argTypes := #[48, tx] })
    (v : Value) (n : Nat) (xs : List Value) (hs : a.eval s = v) (hown : Own [] w 60 6 v n xs) (xv : Value) (m : Nat) (news : List Value) (hx : a.eval x = xv) (hsrc : Src Tryd.prog 6 tx xv m news w)
    (hb : n + m ≤ 1099511627776)
    (h : ∀ v' w', Own [] w' 60 6 v' (n + m) (xs ++ news) → Fr (Value.blk v) w w' → (Value.blk v' = Value.blk v ∨ Value.blk v' = [w.heap.size]) → wpList Tryd.prog ops Q rest (a.put o.dst v') w') :
    wpList Tryd.prog ops Q (o :: rest) a w := by
  obtain ⟨i0, hi, hz0, hz1, hz2⟩ := info_parts info_sub
  exact wpList_app hgd s x _ tx ho _ i0 _ 6 112 und_subs hi hz0 hz1 hz2 rfl (by decide) [] (by simp) v n xs hs hown xv m news hx hsrc (by omega) (by unfold maxLen; omega) h

set_option maxRecDepth 100000 in
set_option maxHeartbeats 400000 in
theorem told_subs {S : List Nat} {w : World} {rb : Nat} {bv : Value} {bs : List UInt8} {s : RdS} (h : Rd S w rb bv bs s) (v : Value) :
    Calls Tryd.prog 64 #[.pointer (some ⟨rb, 0, none⟩), v] w fun e w' => e = .returned (if s.err = 0 then v else .slice none 0 0) ∧ w = w' := by
  by_cases he : s.err = 0
  · have g1 : (s.err == 0) = true := by simp [he]
    rw [if_pos he]
    clear he
    go_enter Tryd.func64, Tryd.ntmps64
    go_wp2_with (go_at_call 45; refine (rd_reads h).mono ?_; rintro e w' ⟨rfl, rfl⟩)
    go_ret
    exact ⟨rfl, rfl⟩
  · have g1 : (s.err == 0) = false := by simp [he]
    rw [if_neg he]
    clear he
    go_enter Tryd.func64, Tryd.ntmps64
    go_wp2_with (go_at_call 45; refine (rd_reads h).mono ?_; rintro e w' ⟨rfl, rfl⟩)
    go_ret
    exact ⟨rfl, rfl⟩

set_option maxRecDepth 100000 in
set_option maxHeartbeats 3200000 in
theorem list_sub {S : List Nat} {w : World} {rb : Nat} {bv : Value} {bs : List UInt8} {s : RdS} (h : Rd S w rb bv bs s) :
    Calls Tryd.prog 62 #[.pointer (some ⟨rb, 0, none⟩), .func (.func 63) #[.pointer (some ⟨rb, 0, none⟩)] #[]] w fun e w' =>
      ∃ v cs, e = .returned v ∧ Sl S w' 6 v (rList bs (rSub bs) s).1.length cs ∧ SubsR S w' (rList bs (rSub bs) s).1 cs ∧ Rd S w' rb bv bs (rList bs (rSub bs) s).2 ∧ Fr [rb] w w' := by
  have hrb := h.loc.lt
  have hsm := h.small
  have hN := rCount_le bs s
  have hl : rList bs (rSub bs) s = ((rMany (rSub bs) (rCount bs s).1 (rCount bs s).2).2.told [] (rMany (rSub bs) (rCount bs s).1 (rCount bs s).2).1, (rMany (rSub bs) (rCount bs s).1 (rCount bs s).2).2) := rfl
  rw [hl]
  clear hl
  go_enter Tryd.func62, Tryd.ntmps62
  go_wp2_with (go_at_call 16; refine (rd_count h).mono ?_; rintro e w1 ⟨rfl, hR1, hF1⟩)
  go_loopw [5, 6] (fun v n wr => ∃ (k : Nat) (xs : List SubT) (cs : List Value) (t : RdS), n = .int .i64 k ∧ Own [] wr 60 6 v xs.length cs ∧ New w v ∧ SubsR (Value.blk v ++ S) wr xs cs ∧ Rd S wr rb bv bs t ∧ Fr [rb] w wr ∧ k + xs.length = (rCount bs s).1 ∧ Hid (rMany (rSub bs) (rCount bs s).1 (rCount bs s).2 = (xs ++ (rMany (rSub bs) k t).1, (rMany (rSub bs) k t).2))) (fun _ n _ => (intOf n).toNat)
  case atStart => exact ⟨(rCount bs s).1, [], [], _, rfl, Own.nil _ _ _ _, New.nil _, rfl, hR1, hF1, by simp, Lib.hid rfl⟩
  case round =>
    obtain ⟨k, xs, cs, t, rfl, hown, hnew, hsubs, hR, hF, hks, hg⟩ := hrel
    have Hks := Lib.hid hks
    have hbnd : xs.length + 1 ≤ 1099511627776 ∨ k = 0 := by omega
    clear hks
    have hexit : (k = 0 ∨ t.err ≠ 0) → rMany (rSub bs) (rCount bs s).1 (rCount bs s).2 = (xs, t) := by
      intro hh
      rw [hg.out]
      cases k with
      | zero => simp [rMany]
      | succ k => simp [rMany, hh.resolve_left (by omega)]
    by_cases hk : k = 0
    · have hE := Lib.hid (hexit (.inl hk))
      subst hk
      clear hexit hbnd
      by_cases he : t.err = 0
      · have g1 : (t.err == 0) = true := by simp [he]
        go_wp2_with first | (go_at_call 64; refine (told_subs hR _).mono ?_; rintro e w' ⟨rfl, rfl⟩) | (go_at_call 45; refine (rd_reads hR).mono ?_; rintro e w' ⟨rfl, rfl⟩)
        go_ret
        refine ⟨_, cs, rfl, ?_, ?_, by rw [hE.out]; exact hR, hF⟩
        · rw [hE.out]
          simp only [RdS.told, if_pos he]
          exact hown.slN hnew h.lt
        · rw [hE.out]
          simp only [RdS.told, if_pos he]
          exact hsubs.sub fun b _ hm => List.mem_append_right _ hm
      · have g1 : (t.err == 0) = false := by simp [he]
        go_wp2_with first | (go_at_call 64; refine (told_subs hR _).mono ?_; rintro e w' ⟨rfl, rfl⟩) | (go_at_call 45; refine (rd_reads hR).mono ?_; rintro e w' ⟨rfl, rfl⟩)
        go_ret
        refine ⟨_, [], rfl, ?_, ?_, by rw [hE.out]; exact hR, hF⟩
        · rw [hE.out]
          simp only [RdS.told, if_neg he]
          exact Sl.nil _ _ _
        · rw [hE.out]
          simp only [RdS.told, if_neg he]
          rfl
    · by_cases he : t.err = 0
      · have g1 : (t.err == 0) = true := by simp [he]
        have hx : rMany (rSub bs) k t = ((rSub bs t).1 :: (rMany (rSub bs) (k - 1) (rSub bs t).2).1, (rMany (rSub bs) (k - 1) (rSub bs t).2).2) := by
          obtain ⟨j, rfl⟩ : ∃ j, k = j + 1 := ⟨k - 1, by omega⟩
          simp [rMany, he]
        have HX := Lib.hid hx
        have hkp : 0 < k := by omega
        have hb2 : xs.length + 1 ≤ 1099511627776 := by omega
        have hk40 : k ≤ 1099511627776 := by have := Hks.out; omega
        clear hx he hexit hbnd
        have hrv := hnew.not hrb
        have hRg := h.growO hF hR hown hnew
        have hmR := hRg.mem
        go_wp2_with first | (go_at_call 45; refine (rd_reads hR).mono ?_; rintro e w' ⟨rfl, rfl⟩) | ((go_at_call 63; refine (rd_sub hRg).mono ?_; rintro e w2 ⟨h2, p2, r2, v2, rfl, hC2, hR2, hF2⟩; obtain ⟨ha, hc, rfl⟩ := hC2.1.shape; obtain ⟨pa, pc, rfl⟩ := hC2.2.1.shape; obtain ⟨ra, rc, rfl⟩ := hC2.2.2.1.shape; obtain ⟨fa, fc, rfl⟩ := hC2.2.2.2.shape); have hown2 := hown.fr hF2 (by intro b hb; simp at hb; subst hb; exact hrv)) | (at_builtin; refine app_sub rfl (.tmp 17) (.tmp 20) _ rfl _ _ _ rfl (hown2.alloc _) _ _ _ rfl (src_alloc und_subs _ [.bool (rSub bs t).1.final_, .slice ha (rSub bs t).1.supers.length hc, .int .i64 (rSub bs t).1.comp.kind, .slice pa (rSub bs t).1.comp.params.length pc, .slice ra (rSub bs t).1.comp.results.length rc, .slice fa (rSub bs t).1.comp.fields.length fc] _ _ _ rfl (by intro u hu; simp at hu; rcases hu with rfl | rfl | rfl | rfl | rfl | rfl <;> rfl)) hb2 ?_; intro v' w3 hown3 hf3 hb3)
        have hF3 : Fr [rb] w w3 := ((hF.trans hF2).alloc _).app hf3 hnew
        have hsub0 := SubsR.fr hF2 (fun b _ hb => by rw [List.mem_singleton.1 hb]; exact hmR) hsubs
        have hsub2 := fun o => SubsR.snoc (hC2.fr ((Fr.refl [] w2).alloc o) (by simp)) (SubsR.fr ((Fr.refl [] w2).alloc o) (by simp) hsub0)
        go_roundw
        case rel =>
          refine ⟨k - 1, xs ++ [(rSub bs t).1], _, _, by go_num, ?_, hnew.app hb3 (by have := hF.size; have := hF2.size; first | omega | (simp only [World.size_alloc]; omega)), (hsub2 _).app hf3 hb3, h.step hF3 ((hR2.loc.alloc _).fr hf3 hrv) hR2.le, hF3, by have := Hks.out; simp; omega, Lib.hid ?_⟩
          · simpa using hown3
          · rw [hg.out, HX.out]; simp
        case measure => simp [intOf]; omega
      · have g1 : (t.err == 0) = false := by simp [he]
        have hE := Lib.hid (hexit (.inr he))
        have hkp : 0 < k := by omega
        clear hexit hbnd
        go_wp2_with first | (go_at_call 64; refine (told_subs hR _).mono ?_; rintro e w' ⟨rfl, rfl⟩) | (go_at_call 45; refine (rd_reads hR).mono ?_; rintro e w' ⟨rfl, rfl⟩)
        go_ret
        refine ⟨_, [], rfl, ?_, ?_, by rw [hE.out]; exact hR, hF⟩
        · rw [hE.out]
          simp only [RdS.told, if_neg he]
          exact Sl.nil _ _ _
        · rw [hE.out]
          simp only [RdS.told, if_neg he]
          rfl

end Go.Proofs.YtokneepfknepaaaDoor
