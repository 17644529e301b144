/- The walk of layer 7: what of an instruction is put behind its opcode. Made by tools/rest.py. The walks of layer 7: what is open in a row; whether a row is well nested. The walk of layer 7: instructions are put. The walks of layer 7: a reader, and the call's own memory, as one fact. The walks of layer 7: the reader's small parts. The walks of layer 7: opcodes and memory operands are read. The walks of layer 7: a block's type is read. The walks of layer 7: value types of the call's own are read. -/
import Derived.Test.YtokneepfknepaaaGreatDoorG5
import Derived.Test.YtokneepfknepaaaGreatDoorG2
import Derived.Test.YtokneepfknepaaaGreatDoorG1
set_option linter.unusedSimpArgs false
set_option linter.unusedVariables false
namespace Go.Proofs.YtokneepfknepaaaGreatDoor
open Go.RowKit
set_option maxRecDepth 100000 in set_option maxHeartbeats 6400000 in
theorem rest10_st {w0 w : World} {G : List Res} {v : Value} {xs : List UInt8} (hS : St [] w0 w (.own 5 1 (v) (xs).length ((xs).map B) :: G)) (hg : Gl7 [] w0) (o x y : Int) (u : Nat) (hk hn jk jn : Int) (n1 n2 : Bool) (ts : List ValT) (ls : List Int) (bk vk : Int) (vn : Bool) (wk wn bn : Int) (cs : List CatchT) (tv lv cv : Value) (hR : InsR [] w0 (⟨o, x, y, u, ⟨hk, hn⟩, ⟨jk, jn⟩, n1, n2, ts, ls, ⟨bk, ⟨vk, vn, ⟨wk, wn⟩⟩, bn⟩, cs⟩ : InstrT) tv lv cv) (hx : xs.length ≤ 17592186044416) (hm : mayI (⟨o, x, y, u, ⟨hk, hn⟩, ⟨jk, jn⟩, n1, n2, ts, ls, ⟨bk, ⟨vk, vn, ⟨wk, wn⟩⟩, bn⟩, cs⟩ : InstrT) = true) (hl1 : ts.length ≤ 65536) (hl2 : ls.length ≤ 65536) (hl3 : cs.length ≤ 65536) (hu : u < 18446744073709551616) (hsh : shapeP o = 10) :
    Calls Tryz.prog 20 #[v, .agg (insC (⟨o, x, y, u, ⟨hk, hn⟩, ⟨jk, jn⟩, n1, n2, ts, ls, ⟨bk, ⟨vk, vn, ⟨wk, wn⟩⟩, bn⟩, cs⟩ : InstrT) tv lv cv).toArray] w fun e w' => ∃ v', e = .returned v' ∧ St [] w0 w' (.own 5 1 (v') (xs ++ pRest (⟨o, x, y, u, ⟨hk, hn⟩, ⟨jk, jn⟩, n1, n2, ts, ls, ⟨bk, ⟨vk, vn, ⟨wk, wn⟩⟩, bn⟩, cs⟩ : InstrT)).length ((xs ++ pRest (⟨o, x, y, u, ⟨hk, hn⟩, ⟨jk, jn⟩, n1, n2, ts, ls, ⟨bk, ⟨vk, vn, ⟨wk, wn⟩⟩, bn⟩, cs⟩ : InstrT)).map B) :: G) := by
  have hb := shape_ok (mayI_shape hm)
  have ho1 : -9223372036854775808 ≤ o := by have := hb.1; dsimp only at this; omega
  have ho2 : o < 9223372036854775808 := by have := hb.1; have := hb.2.1; dsimp only at this; omega
  obtain ⟨tS, lS, cS⟩ := hR
  obtain ⟨ta, tc, rfl⟩ := tS.shape
  obtain ⟨la, lc, rfl⟩ := lS.shape
  obtain ⟨ca, cc, rfl⟩ := cS.shape
  dsimp only at tS lS cS
  have e0 : xs ++ pRest (⟨o, x, y, u, ⟨hk, hn⟩, ⟨jk, jn⟩, n1, n2, ts, ls, ⟨bk, ⟨vk, vn, ⟨wk, wn⟩⟩, bn⟩, cs⟩ : InstrT) = xs ++ putS (toI64 u) := by rw [rest10 (by exact hsh)]
  have E0 := Lib.hid e0
  clear e0
  generalize xs ++ pRest (⟨o, x, y, u, ⟨hk, hn⟩, ⟨jk, jn⟩, n1, n2, ts, ls, ⟨bk, ⟨vk, vn, ⟨wk, wn⟩⟩, bn⟩, cs⟩ : InstrT) = Y at E0 ⊢
  obtain ⟨t1, t2, _⟩ := toI64_lt hu
  have lX := putS_len (toI64 u) (by omega) (by omega)
  have hw1 := toI64_wrap7 hu
  have HK := Lib.hid hsh
  clear hsh
  clear hb hm
  unfold insC
  dsimp only
  go_enter Tryz.func20, Tryz.ntmps20
  go_wp2_with first | (go_at_call 24; (with_reducible refine (shape_any ?_ _ ?_ ?_).mono ?_); (· apply St.gl7 (hg := hg); (exact zsts2)); (· omega); (· omega); rintro e w2 ⟨rfl, hF2⟩; refine st_fr hF2 ?_; (repeat (apply Exists.intro)); refine ⟨?_, ?_⟩; (· exact zsts2); (try simp only [World.size_alloc, World.size_setCell, size_drew, size_drewN]); intro hS; (try clear hQ); have hQ := St.facts hS; simp only [Facts, Res.fact, List.cons_append, List.nil_append, true_and, and_true] at hQ; (try rw [HK.out])) | (at_builtin; refine st_app rfl rfl rfl rfl ?_; (repeat (apply Exists.intro)); refine ⟨?_, ?_, ?_, ?_, ?_⟩; (· exact zsts2); (· exact zdst1); (· exact zsrc1); (· exact zlen1); intro vN wN hS; (try clear hQ); have hQ := St.facts hS; simp only [Facts, Res.fact, List.cons_append, List.nil_append, true_and, and_true] at hQ) | (go_at_call 51; (with_reducible refine (pPutS (toI64 u) _ (by omega) (by omega)).mono ?_); rintro e w4 ⟨v4, rfl, s4⟩; refine st_go s4 ?_; (repeat (apply Exists.intro)); refine ⟨?_, ?_⟩; (· exact zsts2); (try simp only [World.size_alloc, World.size_setCell, size_drew, size_drewN]); intro hS; simp only [List.cons_append, List.nil_append] at hS; (try clear hQ); have hQ := St.facts hS; simp only [Facts, Res.fact, List.cons_append, List.nil_append, true_and, and_true] at hQ)
  go_ret
  refine ⟨vN, rfl, ?_⟩
  rw [E0.out]
  exact hS.sel (by exact zsub1)
set_option maxRecDepth 100000 in set_option maxHeartbeats 6400000 in
theorem rest13_st {w0 w : World} {G : List Res} {v : Value} {xs : List UInt8} (hS : St [] w0 w (.own 5 1 (v) (xs).length ((xs).map B) :: G)) (hg : Gl7 [] w0) (o x y : Int) (u : Nat) (hk hn jk jn : Int) (n1 n2 : Bool) (ts : List ValT) (ls : List Int) (bk vk : Int) (vn : Bool) (wk wn bn : Int) (cs : List CatchT) (tv lv cv : Value) (hR : InsR [] w0 (⟨o, x, y, u, ⟨hk, hn⟩, ⟨jk, jn⟩, n1, n2, ts, ls, ⟨bk, ⟨vk, vn, ⟨wk, wn⟩⟩, bn⟩, cs⟩ : InstrT) tv lv cv) (hx : xs.length ≤ 17592186044416) (hm : mayI (⟨o, x, y, u, ⟨hk, hn⟩, ⟨jk, jn⟩, n1, n2, ts, ls, ⟨bk, ⟨vk, vn, ⟨wk, wn⟩⟩, bn⟩, cs⟩ : InstrT) = true) (hl1 : ts.length ≤ 65536) (hl2 : ls.length ≤ 65536) (hl3 : cs.length ≤ 65536) (hu : u < 18446744073709551616) (hsh : shapeP o = 13) :
    Calls Tryz.prog 20 #[v, .agg (insC (⟨o, x, y, u, ⟨hk, hn⟩, ⟨jk, jn⟩, n1, n2, ts, ls, ⟨bk, ⟨vk, vn, ⟨wk, wn⟩⟩, bn⟩, cs⟩ : InstrT) tv lv cv).toArray] w fun e w' => ∃ v', e = .returned v' ∧ St [] w0 w' (.own 5 1 (v') (xs ++ pRest (⟨o, x, y, u, ⟨hk, hn⟩, ⟨jk, jn⟩, n1, n2, ts, ls, ⟨bk, ⟨vk, vn, ⟨wk, wn⟩⟩, bn⟩, cs⟩ : InstrT)).length ((xs ++ pRest (⟨o, x, y, u, ⟨hk, hn⟩, ⟨jk, jn⟩, n1, n2, ts, ls, ⟨bk, ⟨vk, vn, ⟨wk, wn⟩⟩, bn⟩, cs⟩ : InstrT)).map B) :: G) := by
  have hb := shape_ok (mayI_shape hm)
  have ho1 : -9223372036854775808 ≤ o := by have := hb.1; dsimp only at this; omega
  have ho2 : o < 9223372036854775808 := by have := hb.1; have := hb.2.1; dsimp only at this; omega
  obtain ⟨tS, lS, cS⟩ := hR
  obtain ⟨ta, tc, rfl⟩ := tS.shape
  obtain ⟨la, lc, rfl⟩ := lS.shape
  obtain ⟨ca, cc, rfl⟩ := cS.shape
  dsimp only at tS lS cS
  have e0 : xs ++ pRest (⟨o, x, y, u, ⟨hk, hn⟩, ⟨jk, jn⟩, n1, n2, ts, ls, ⟨bk, ⟨vk, vn, ⟨wk, wn⟩⟩, bn⟩, cs⟩ : InstrT) = xs ++ [UInt8.ofNat (((pNulls n1 n2).toNat : Nat) : Int).toNat] ++ pNum x ++ heapB ⟨hk, hn⟩ ++ heapB ⟨jk, jn⟩ := by rw [rest13 (by exact hsh)]; simp
  have E0 := Lib.hid e0
  clear e0
  generalize xs ++ pRest (⟨o, x, y, u, ⟨hk, hn⟩, ⟨jk, jn⟩, n1, n2, ts, ls, ⟨bk, ⟨vk, vn, ⟨wk, wn⟩⟩, bn⟩, cs⟩ : InstrT) = Y at E0 ⊢
  have hp := may_inv hm (part13 (i := (⟨o, x, y, u, ⟨hk, hn⟩, ⟨jk, jn⟩, n1, n2, ts, ls, ⟨bk, ⟨vk, vn, ⟨wk, wn⟩⟩, bn⟩, cs⟩ : InstrT)) hsh)
  have hp1 := hp.1
  simp only [Bool.and_eq_true, idx_iff] at hp1
  obtain ⟨⟨hX, k1⟩, k2⟩ := hp1
  have k1 : plainVal ⟨3, false, ⟨hk, hn⟩⟩ = true := k1
  have k2 : plainVal ⟨3, false, ⟨jk, jn⟩⟩ = true := k2
  have ok1 := plainVal_ok k1
  have ok2 := plainVal_ok k2
  have lX := pNum_len x (by omega)
  have l1 : (heapB ⟨hk, hn⟩).length ≤ 12 := by rw [heapB_yes k1]; exact pHeap_len _ ok1.2.1 ok1.2.2
  have l2 : (heapB ⟨jk, jn⟩).length ≤ 12 := by rw [heapB_yes k2]; exact pHeap_len _ ok2.2.1 ok2.2.2
  have ln : (pNulls n1 n2).toNat < 256 := (pNulls n1 n2).toNat_lt
  have HK := Lib.hid hsh
  clear hsh hp k1 k2
  clear hb hm
  unfold insC
  dsimp only
  go_enter Tryz.func20, Tryz.ntmps20
  go_wp2_with first | (go_at_call 24; (with_reducible refine (shape_any ?_ _ ?_ ?_).mono ?_); (· apply St.gl7 (hg := hg); (exact zsts2)); (· omega); (· omega); rintro e w2 ⟨rfl, hF2⟩; refine st_fr hF2 ?_; (repeat (apply Exists.intro)); refine ⟨?_, ?_⟩; (· exact zsts2); (try simp only [World.size_alloc, World.size_setCell, size_drew, size_drewN]); intro hS; (try clear hQ); have hQ := St.facts hS; simp only [Facts, Res.fact, List.cons_append, List.nil_append, true_and, and_true] at hQ; (try rw [HK.out]))
  have hbox : Loc _ w.heap.size [.int .i64 o, .int .i64 x, .int .i64 y, .int .u64 (u : Int), .int .i64 hk, .int .i64 hn, .int .i64 jk, .int .i64 jn, .bool n1, .bool n2, .slice ta ts.length tc, .slice la ls.length lc, .int .i64 bk, .int .i64 vk, .bool vn, .int .i64 wk, .int .i64 wn, .int .i64 bn, .slice ca cs.length cc] 44 := hS.loc .here
  refine wp_region_held_drew (S := fun w' => w'.rangeAt w.heap.size 0 [.int .i64 o, .int .i64 x, .int .i64 y, .int .u64 (u : Int), .int .i64 hk, .int .i64 hn, .int .i64 jk, .int .i64 jn, .bool n1, .bool n2, .slice ta ts.length tc, .slice la ls.length lc, .int .i64 bk, .int .i64 vk, .bool vn, .int .i64 wk, .int .i64 wn, .int .i64 bn, .slice ca cs.length cc]) (by kernel_rfl) (Loc.range (Loc.drew hbox)) (fun hr => ?_)
  have hS := hS.drew
  refine wpAnyH_take (i := 0) (v := v) rfl (by kernel_rfl) (by kernel_rfl) (by kernel_rfl) (fun _ _ _ h => h) (Or.inl ⟨by rfl, fun _ _ => by go_simp⟩) hr ?_
  simp only [Act.put, List.setIfInBounds_toArray, List.set_cons_zero, List.set_cons_succ]
  refine wpAnyH_take (i := 1) (v := .agg (List.toArray [.int .i64 o, .int .i64 x, .int .i64 y, .int .u64 (u : Int), .int .i64 hk, .int .i64 hn, .int .i64 jk, .int .i64 jn, .bool n1, .bool n2, .slice ta ts.length tc, .slice la ls.length lc, .int .i64 bk, .int .i64 vk, .bool vn, .int .i64 wk, .int .i64 wn, .int .i64 bn, .slice ca cs.length cc])) rfl (by kernel_rfl) (by kernel_rfl) (by kernel_rfl) (fun _ _ _ h => h) (yieldsIf_load_mid rfl 44 _ rfl w.heap.size 0 rfl [.int .i64 o, .int .i64 x, .int .i64 y, .int .u64 (u : Int), .int .i64 hk, .int .i64 hn, .int .i64 jk, .int .i64 jn, .bool n1, .bool n2, .slice ta ts.length tc, .slice la ls.length lc, .int .i64 bk, .int .i64 vk, .bool vn, .int .i64 wk, .int .i64 wn, .int .i64 bn, .slice ca cs.length cc] _ (fun _ h => h) und_ins rfl size_ins) hr ?_
  simp only [Act.put, List.setIfInBounds_toArray, List.set_cons_zero, List.set_cons_succ]
  refine wpAnyH_take (i := 5) (v := .pointer (some ⟨w.heap.size, 1, none⟩)) rfl (by kernel_rfl) (by kernel_rfl) (by kernel_rfl) (fun _ _ _ h => h) (Or.inl ⟨by rfl, fun _ _ => by go_simp⟩) hr ?_
  simp only [Act.put, List.setIfInBounds_toArray, List.set_cons_zero, List.set_cons_succ]
  refine wpAnyH_take (i := 6) (v := .int .i64 x) rfl (by kernel_rfl) (by kernel_rfl) (by kernel_rfl) (fun _ _ _ h => h) (Or.inl ⟨by rfl, fun w' hw' => by
    have hc : w'.cell? ⟨w.heap.size, 1, none⟩ = some (.int .i64 x) := hw' 1 _ rfl
    go_simp⟩) hr ?_
  simp only [Act.put, List.setIfInBounds_toArray, List.set_cons_zero, List.set_cons_succ]
  refine wpAnyH_ready (rs := [2]) (by kernel_rfl) (by simp) ?_
  refine AllReadyH.cons rfl (fun K hK => ?_) AllReadyH.nil
  rw [if_pos (by rfl)]
  go_simp
  refine (nulls_any _ (⟨o, x, y, u, ⟨hk, hn⟩, ⟨jk, jn⟩, n1, n2, ts, ls, ⟨bk, ⟨vk, vn, ⟨wk, wn⟩⟩, bn⟩, cs⟩ : InstrT) (.slice ta ts.length tc) (.slice la ls.length lc) (.slice ca cs.length cc) rfl rfl rfl).mono ?_
  rintro e w4 ⟨rfl, hF4⟩
  have hS := hS.step0 hF4
  refine hK.out _ _ (by exact Loc.range (hS.loc (by exact zpk1))) (fun hr => ?_)
  clear hK K
  refine wpAnyH_ready (rs := [3]) (by kernel_rfl) (by simp) ?_
  refine AllReadyH.cons rfl (fun K hK => ?_) AllReadyH.nil
  rw [if_pos (by rfl)]
  go_simp
  have hS := hS.alloc [.int .u8 ((pNulls n1 n2).toNat : Nat)] 5
  refine hK.out _ _ (by exact Loc.range (hS.loc (by exact zpk1))) (fun hr => ?_)
  clear hK K
  refine wpAnyH_ready (rs := [4]) (by kernel_rfl) (by simp) ?_
  refine AllReadyH.cons rfl (fun K hK => ?_) AllReadyH.nil
  (refine step_st rfl rfl rfl rfl ?_; (repeat (apply Exists.intro)); refine ⟨?_, ?_, ?_, ?_, ?_⟩; (· exact zsts2); (· exact zdst1); (· exact zsrc1); (· exact zlen1); intro vN wN hS; (try clear hQ); have hQ := St.facts hS; simp only [Facts, Res.fact, List.cons_append, List.nil_append, true_and, and_true] at hQ)
  refine hK.out _ _ (by exact Loc.range (hS.loc (by exact zpk1))) (fun hr => ?_)
  clear hK K
  refine wpAnyH_ready (rs := [7]) (by kernel_rfl) (by simp) ?_
  refine AllReadyH.cons rfl (fun K hK => ?_) AllReadyH.nil
  rw [if_pos (by rfl)]
  go_simp
  refine st_num ?_; (repeat (apply Exists.intro)); refine ⟨?_, ?_, ?_, ?_, ?_⟩; (· exact zsts2); (· (try simp only [World.size_alloc, World.size_setCell, size_drew, size_drewN]); (exact zpk1)); (· omega); (· exact zlen1); intro vN wN hS; (try clear hQ); have hQ := St.facts hS; simp only [Facts, Res.fact, List.cons_append, List.nil_append, true_and, and_true] at hQ
  refine hK.out _ _ (by exact Loc.range (hS.loc (by exact zpk1))) (fun hr => ?_)
  clear hK K
  refine wpAnyH_take (i := 8) (v := vN) rfl (by kernel_rfl) (by kernel_rfl) (by kernel_rfl) (fun _ _ _ h => h) (Or.inl ⟨by rfl, fun _ _ => by go_simp⟩) hr ?_
  refine wpAnyH_done (by kernel_rfl) ?_ _
  clear hr hbox
  simp only [Act.put, List.setIfInBounds_toArray, List.set_cons_zero, List.set_cons_succ]
  (try clear hQ); have hQ := St.facts hS; simp only [Facts, Res.fact, List.cons_append, List.nil_append, true_and, and_true] at hQ
  go_wp2_with first | (at_builtin; refine st_app rfl rfl rfl rfl ?_; (repeat (apply Exists.intro)); refine ⟨?_, ?_, ?_, ?_, ?_⟩; (· exact zsts2); (· exact zdst1); (· exact zsrc1); (· exact zlen1); intro vN wN hS; (try clear hQ); have hQ := St.facts hS; simp only [Facts, Res.fact, List.cons_append, List.nil_append, true_and, and_true] at hQ) | (go_at_call 53; (with_reducible refine (pPutHeap7 (⟨hk, hn⟩ : HeapT) ?_ ok1).mono ?_); (· apply St.gl (hs := hg.gl); (exact zsts2)); rintro e w4 ⟨v4, rfl, s4⟩; refine st_go s4 ?_; (repeat (apply Exists.intro)); refine ⟨?_, ?_⟩; (· exact zsts2); (try simp only [World.size_alloc, World.size_setCell, size_drew, size_drewN]); intro hS; simp only [List.cons_append, List.nil_append] at hS; (try clear hQ); have hQ := St.facts hS; simp only [Facts, Res.fact, List.cons_append, List.nil_append, true_and, and_true] at hQ) | (go_at_call 53; (with_reducible refine (pPutHeap7 (⟨jk, jn⟩ : HeapT) ?_ ok2).mono ?_); (· apply St.gl (hs := hg.gl); (exact zsts2)); rintro e w4 ⟨v4, rfl, s4⟩; refine st_go s4 ?_; (repeat (apply Exists.intro)); refine ⟨?_, ?_⟩; (· exact zsts2); (try simp only [World.size_alloc, World.size_setCell, size_drew, size_drewN]); intro hS; simp only [List.cons_append, List.nil_append] at hS; (try clear hQ); have hQ := St.facts hS; simp only [Facts, Res.fact, List.cons_append, List.nil_append, true_and, and_true] at hQ)
  go_ret
  refine ⟨vN, rfl, ?_⟩
  rw [E0.out]
  exact hS.sel (by exact zsub1)
set_option maxRecDepth 100000 in set_option maxHeartbeats 6400000 in
theorem rest11_st {w0 w : World} {G : List Res} {v : Value} {xs : List UInt8} (hS : St [] w0 w (.own 5 1 (v) (xs).length ((xs).map B) :: G)) (hg : Gl7 [] w0) (o x y : Int) (u : Nat) (hk hn jk jn : Int) (n1 n2 : Bool) (ts : List ValT) (ls : List Int) (bk vk : Int) (vn : Bool) (wk wn bn : Int) (cs : List CatchT) (tv lv cv : Value) (hR : InsR [] w0 (⟨o, x, y, u, ⟨hk, hn⟩, ⟨jk, jn⟩, n1, n2, ts, ls, ⟨bk, ⟨vk, vn, ⟨wk, wn⟩⟩, bn⟩, cs⟩ : InstrT) tv lv cv) (hx : xs.length ≤ 17592186044416) (hm : mayI (⟨o, x, y, u, ⟨hk, hn⟩, ⟨jk, jn⟩, n1, n2, ts, ls, ⟨bk, ⟨vk, vn, ⟨wk, wn⟩⟩, bn⟩, cs⟩ : InstrT) = true) (hl1 : ts.length ≤ 65536) (hl2 : ls.length ≤ 65536) (hl3 : cs.length ≤ 65536) (hu : u < 18446744073709551616) (hsh : shapeP o = 11) :
    Calls Tryz.prog 20 #[v, .agg (insC (⟨o, x, y, u, ⟨hk, hn⟩, ⟨jk, jn⟩, n1, n2, ts, ls, ⟨bk, ⟨vk, vn, ⟨wk, wn⟩⟩, bn⟩, cs⟩ : InstrT) tv lv cv).toArray] w fun e w' => ∃ v', e = .returned v' ∧ St [] w0 w' (.own 5 1 (v') (xs ++ pRest (⟨o, x, y, u, ⟨hk, hn⟩, ⟨jk, jn⟩, n1, n2, ts, ls, ⟨bk, ⟨vk, vn, ⟨wk, wn⟩⟩, bn⟩, cs⟩ : InstrT)).length ((xs ++ pRest (⟨o, x, y, u, ⟨hk, hn⟩, ⟨jk, jn⟩, n1, n2, ts, ls, ⟨bk, ⟨vk, vn, ⟨wk, wn⟩⟩, bn⟩, cs⟩ : InstrT)).map B) :: G) := by
  have hb := shape_ok (mayI_shape hm)
  have ho1 : -9223372036854775808 ≤ o := by have := hb.1; dsimp only at this; omega
  have ho2 : o < 9223372036854775808 := by have := hb.1; have := hb.2.1; dsimp only at this; omega
  obtain ⟨tS, lS, cS⟩ := hR
  obtain ⟨ta, tc, rfl⟩ := tS.shape
  obtain ⟨la, lc, rfl⟩ := lS.shape
  obtain ⟨ca, cc, rfl⟩ := cS.shape
  dsimp only at tS lS cS
  have e0 : xs ++ pRest (⟨o, x, y, u, ⟨hk, hn⟩, ⟨jk, jn⟩, n1, n2, ts, ls, ⟨bk, ⟨vk, vn, ⟨wk, wn⟩⟩, bn⟩, cs⟩ : InstrT) = xs ++ heapB ⟨hk, hn⟩ := by rw [rest11 (by exact hsh)]
  have E0 := Lib.hid e0
  clear e0
  generalize xs ++ pRest (⟨o, x, y, u, ⟨hk, hn⟩, ⟨jk, jn⟩, n1, n2, ts, ls, ⟨bk, ⟨vk, vn, ⟨wk, wn⟩⟩, bn⟩, cs⟩ : InstrT) = Y at E0 ⊢
  have hp := may_inv hm (part11 (i := (⟨o, x, y, u, ⟨hk, hn⟩, ⟨jk, jn⟩, n1, n2, ts, ls, ⟨bk, ⟨vk, vn, ⟨wk, wn⟩⟩, bn⟩, cs⟩ : InstrT)) hsh)
  have hp1 : plainVal ⟨3, false, ⟨hk, hn⟩⟩ = true := hp.1
  have hok := plainVal_ok hp1
  have lX : (heapB ⟨hk, hn⟩).length ≤ 12 := by rw [heapB_yes hp1]; exact pHeap_len _ hok.2.1 hok.2.2
  have HK := Lib.hid hsh
  clear hsh hp hp1
  clear hb hm
  unfold insC
  dsimp only
  go_enter Tryz.func20, Tryz.ntmps20
  go_wp2_with first | (go_at_call 24; (with_reducible refine (shape_any ?_ _ ?_ ?_).mono ?_); (· apply St.gl7 (hg := hg); (exact zsts2)); (· omega); (· omega); rintro e w2 ⟨rfl, hF2⟩; refine st_fr hF2 ?_; (repeat (apply Exists.intro)); refine ⟨?_, ?_⟩; (· exact zsts2); (try simp only [World.size_alloc, World.size_setCell, size_drew, size_drewN]); intro hS; (try clear hQ); have hQ := St.facts hS; simp only [Facts, Res.fact, List.cons_append, List.nil_append, true_and, and_true] at hQ; (try rw [HK.out])) | (at_builtin; refine st_app rfl rfl rfl rfl ?_; (repeat (apply Exists.intro)); refine ⟨?_, ?_, ?_, ?_, ?_⟩; (· exact zsts2); (· exact zdst1); (· exact zsrc1); (· exact zlen1); intro vN wN hS; (try clear hQ); have hQ := St.facts hS; simp only [Facts, Res.fact, List.cons_append, List.nil_append, true_and, and_true] at hQ) | (go_at_call 53; (with_reducible refine (pPutHeap7 (⟨hk, hn⟩ : HeapT) ?_ hok).mono ?_); (· apply St.gl (hs := hg.gl); (exact zsts2)); rintro e w4 ⟨v4, rfl, s4⟩; refine st_go s4 ?_; (repeat (apply Exists.intro)); refine ⟨?_, ?_⟩; (· exact zsts2); (try simp only [World.size_alloc, World.size_setCell, size_drew, size_drewN]); intro hS; simp only [List.cons_append, List.nil_append] at hS; (try clear hQ); have hQ := St.facts hS; simp only [Facts, Res.fact, List.cons_append, List.nil_append, true_and, and_true] at hQ)
  go_ret
  refine ⟨vN, rfl, ?_⟩
  rw [E0.out]
  exact hS.sel (by exact zsub1)
set_option maxRecDepth 100000 in set_option maxHeartbeats 6400000 in
theorem rest12_st {w0 w : World} {G : List Res} {v : Value} {xs : List UInt8} (hS : St [] w0 w (.own 5 1 (v) (xs).length ((xs).map B) :: G)) (hg : Gl7 [] w0) (o x y : Int) (u : Nat) (hk hn jk jn : Int) (n1 n2 : Bool) (ts : List ValT) (ls : List Int) (bk vk : Int) (vn : Bool) (wk wn bn : Int) (cs : List CatchT) (tv lv cv : Value) (hR : InsR [] w0 (⟨o, x, y, u, ⟨hk, hn⟩, ⟨jk, jn⟩, n1, n2, ts, ls, ⟨bk, ⟨vk, vn, ⟨wk, wn⟩⟩, bn⟩, cs⟩ : InstrT) tv lv cv) (hx : xs.length ≤ 17592186044416) (hm : mayI (⟨o, x, y, u, ⟨hk, hn⟩, ⟨jk, jn⟩, n1, n2, ts, ls, ⟨bk, ⟨vk, vn, ⟨wk, wn⟩⟩, bn⟩, cs⟩ : InstrT) = true) (hl1 : ts.length ≤ 65536) (hl2 : ls.length ≤ 65536) (hl3 : cs.length ≤ 65536) (hu : u < 18446744073709551616) (hsh : shapeP o = 12) :
    Calls Tryz.prog 20 #[v, .agg (insC (⟨o, x, y, u, ⟨hk, hn⟩, ⟨jk, jn⟩, n1, n2, ts, ls, ⟨bk, ⟨vk, vn, ⟨wk, wn⟩⟩, bn⟩, cs⟩ : InstrT) tv lv cv).toArray] w fun e w' => ∃ v', e = .returned v' ∧ St [] w0 w' (.own 5 1 (v') (xs ++ pRest (⟨o, x, y, u, ⟨hk, hn⟩, ⟨jk, jn⟩, n1, n2, ts, ls, ⟨bk, ⟨vk, vn, ⟨wk, wn⟩⟩, bn⟩, cs⟩ : InstrT)).length ((xs ++ pRest (⟨o, x, y, u, ⟨hk, hn⟩, ⟨jk, jn⟩, n1, n2, ts, ls, ⟨bk, ⟨vk, vn, ⟨wk, wn⟩⟩, bn⟩, cs⟩ : InstrT)).map B) :: G) := by
  have hb := shape_ok (mayI_shape hm)
  have ho1 : -9223372036854775808 ≤ o := by have := hb.1; dsimp only at this; omega
  have ho2 : o < 9223372036854775808 := by have := hb.1; have := hb.2.1; dsimp only at this; omega
  obtain ⟨tS, lS, cS⟩ := hR
  obtain ⟨ta, tc, rfl⟩ := tS.shape
  obtain ⟨la, lc, rfl⟩ := lS.shape
  obtain ⟨ca, cc, rfl⟩ := cS.shape
  dsimp only at tS lS cS
  have e0 : xs ++ pRest (⟨o, x, y, u, ⟨hk, hn⟩, ⟨jk, jn⟩, n1, n2, ts, ls, ⟨bk, ⟨vk, vn, ⟨wk, wn⟩⟩, bn⟩, cs⟩ : InstrT) = xs ++ valsB ts := by rw [rest12 (by exact hsh)]
  have E0 := Lib.hid e0
  clear e0
  generalize xs ++ pRest (⟨o, x, y, u, ⟨hk, hn⟩, ⟨jk, jn⟩, n1, n2, ts, ls, ⟨bk, ⟨vk, vn, ⟨wk, wn⟩⟩, bn⟩, cs⟩ : InstrT) = Y at E0 ⊢
  have hp := may_inv hm (part12 (i := (⟨o, x, y, u, ⟨hk, hn⟩, ⟨jk, jn⟩, n1, n2, ts, ls, ⟨bk, ⟨vk, vn, ⟨wk, wn⟩⟩, bn⟩, cs⟩ : InstrT)) hsh)
  have hp1 : ts.all plainVal = true := hp.1
  have Hok : Hid (∀ t, t ∈ ts → t.heap.ok) := Lib.hid fun t ht => plainVal_ok (List.all_eq_true.1 hp1 t ht)
  have hln : ts.length ≤ 1048576 := by omega
  have lX := valsB_len ts Hok.out hl1
  have HK := Lib.hid hsh
  clear hsh hp hp1
  clear hb hm
  unfold insC
  dsimp only
  go_enter Tryz.func20, Tryz.ntmps20
  go_wp2_with first | (go_at_call 24; (with_reducible refine (shape_any ?_ _ ?_ ?_).mono ?_); (· apply St.gl7 (hg := hg); (exact zsts2)); (· omega); (· omega); rintro e w2 ⟨rfl, hF2⟩; refine st_fr hF2 ?_; (repeat (apply Exists.intro)); refine ⟨?_, ?_⟩; (· exact zsts2); (try simp only [World.size_alloc, World.size_setCell, size_drew, size_drewN]); intro hS; (try clear hQ); have hQ := St.facts hS; simp only [Facts, Res.fact, List.cons_append, List.nil_append, true_and, and_true] at hQ; (try rw [HK.out])) | (at_builtin; refine st_app rfl rfl rfl rfl ?_; (repeat (apply Exists.intro)); refine ⟨?_, ?_, ?_, ?_, ?_⟩; (· exact zsts2); (· exact zdst1); (· exact zsrc1); (· exact zlen1); intro vN wN hS; (try clear hQ); have hQ := St.facts hS; simp only [Facts, Res.fact, List.cons_append, List.nil_append, true_and, and_true] at hQ) | (go_at_call 54; (with_reducible refine (PutVals_any ?_ _ ts ?_ Hok.out hln).mono ?_); (· apply St.gl (hs := hg.gl); (exact zsts2)); (· (apply St.sl (hs := tS); (exact zsts2))); rintro e w4 ⟨v4, rfl, s4⟩; refine st_go s4 ?_; (repeat (apply Exists.intro)); refine ⟨?_, ?_⟩; (· exact zsts2); (try simp only [World.size_alloc, World.size_setCell, size_drew, size_drewN]); intro hS; simp only [List.cons_append, List.nil_append] at hS; (try clear hQ); have hQ := St.facts hS; simp only [Facts, Res.fact, List.cons_append, List.nil_append, true_and, and_true] at hQ)
  go_ret
  refine ⟨vN, rfl, ?_⟩
  rw [E0.out]
  exact hS.sel (by exact zsub1)
set_option maxRecDepth 100000 in set_option maxHeartbeats 6400000 in
theorem rest2_st {w0 w : World} {G : List Res} {v : Value} {xs : List UInt8} (hS : St [] w0 w (.own 5 1 (v) (xs).length ((xs).map B) :: G)) (hg : Gl7 [] w0) (o x y : Int) (u : Nat) (hk hn jk jn : Int) (n1 n2 : Bool) (ts : List ValT) (ls : List Int) (bk vk : Int) (vn : Bool) (wk wn bn : Int) (cs : List CatchT) (tv lv cv : Value) (hR : InsR [] w0 (⟨o, x, y, u, ⟨hk, hn⟩, ⟨jk, jn⟩, n1, n2, ts, ls, ⟨bk, ⟨vk, vn, ⟨wk, wn⟩⟩, bn⟩, cs⟩ : InstrT) tv lv cv) (hx : xs.length ≤ 17592186044416) (hm : mayI (⟨o, x, y, u, ⟨hk, hn⟩, ⟨jk, jn⟩, n1, n2, ts, ls, ⟨bk, ⟨vk, vn, ⟨wk, wn⟩⟩, bn⟩, cs⟩ : InstrT) = true) (hl1 : ts.length ≤ 65536) (hl2 : ls.length ≤ 65536) (hl3 : cs.length ≤ 65536) (hu : u < 18446744073709551616) (hsh : shapeP o = 2) :
    Calls Tryz.prog 20 #[v, .agg (insC (⟨o, x, y, u, ⟨hk, hn⟩, ⟨jk, jn⟩, n1, n2, ts, ls, ⟨bk, ⟨vk, vn, ⟨wk, wn⟩⟩, bn⟩, cs⟩ : InstrT) tv lv cv).toArray] w fun e w' => ∃ v', e = .returned v' ∧ St [] w0 w' (.own 5 1 (v') (xs ++ pRest (⟨o, x, y, u, ⟨hk, hn⟩, ⟨jk, jn⟩, n1, n2, ts, ls, ⟨bk, ⟨vk, vn, ⟨wk, wn⟩⟩, bn⟩, cs⟩ : InstrT)).length ((xs ++ pRest (⟨o, x, y, u, ⟨hk, hn⟩, ⟨jk, jn⟩, n1, n2, ts, ls, ⟨bk, ⟨vk, vn, ⟨wk, wn⟩⟩, bn⟩, cs⟩ : InstrT)).map B) :: G) := by
  have hb := shape_ok (mayI_shape hm)
  have ho1 : -9223372036854775808 ≤ o := by have := hb.1; dsimp only at this; omega
  have ho2 : o < 9223372036854775808 := by have := hb.1; have := hb.2.1; dsimp only at this; omega
  obtain ⟨tS, lS, cS⟩ := hR
  obtain ⟨ta, tc, rfl⟩ := tS.shape
  obtain ⟨la, lc, rfl⟩ := lS.shape
  obtain ⟨ca, cc, rfl⟩ := cS.shape
  dsimp only at tS lS cS
  have e0 : xs ++ pRest (⟨o, x, y, u, ⟨hk, hn⟩, ⟨jk, jn⟩, n1, n2, ts, ls, ⟨bk, ⟨vk, vn, ⟨wk, wn⟩⟩, bn⟩, cs⟩ : InstrT) = xs ++ pBlock ⟨bk, ⟨vk, vn, ⟨wk, wn⟩⟩, bn⟩ := by rw [rest2 (by exact hsh)]
  have E0 := Lib.hid e0
  clear e0
  generalize xs ++ pRest (⟨o, x, y, u, ⟨hk, hn⟩, ⟨jk, jn⟩, n1, n2, ts, ls, ⟨bk, ⟨vk, vn, ⟨wk, wn⟩⟩, bn⟩, cs⟩ : InstrT) = Y at E0 ⊢
  have hp := may_inv hm (part2 (i := (⟨o, x, y, u, ⟨hk, hn⟩, ⟨jk, jn⟩, n1, n2, ts, ls, ⟨bk, ⟨vk, vn, ⟨wk, wn⟩⟩, bn⟩, cs⟩ : InstrT)) hsh)
  have Hbk : Hid (mayBlock ⟨bk, ⟨vk, vn, ⟨wk, wn⟩⟩, bn⟩ = true) := Lib.hid hp.1
  have lX := pBlock_len Hbk.out
  have HK := Lib.hid hsh
  clear hsh hp
  clear hb hm
  unfold insC
  dsimp only
  go_enter Tryz.func20, Tryz.ntmps20
  go_wp2_with first | (go_at_call 24; (with_reducible refine (shape_any ?_ _ ?_ ?_).mono ?_); (· apply St.gl7 (hg := hg); (exact zsts2)); (· omega); (· omega); rintro e w2 ⟨rfl, hF2⟩; refine st_fr hF2 ?_; (repeat (apply Exists.intro)); refine ⟨?_, ?_⟩; (· exact zsts2); (try simp only [World.size_alloc, World.size_setCell, size_drew, size_drewN]); intro hS; (try clear hQ); have hQ := St.facts hS; simp only [Facts, Res.fact, List.cons_append, List.nil_append, true_and, and_true] at hQ; (try rw [HK.out])) | (at_builtin; refine st_app rfl rfl rfl rfl ?_; (repeat (apply Exists.intro)); refine ⟨?_, ?_, ?_, ?_, ?_⟩; (· exact zsts2); (· exact zdst1); (· exact zsrc1); (· exact zlen1); intro vN wN hS; (try clear hQ); have hQ := St.facts hS; simp only [Facts, Res.fact, List.cons_append, List.nil_append, true_and, and_true] at hQ) | (go_at_call 55; (with_reducible refine (putBlock_st ?_ ⟨bk, ⟨vk, vn, ⟨wk, wn⟩⟩, bn⟩ Hbk.out).mono ?_); (· apply St.gl (hs := hg.gl); (exact zsts2)); rintro e w4 ⟨v4, rfl, s4⟩; refine st_go s4 ?_; (repeat (apply Exists.intro)); refine ⟨?_, ?_⟩; (· exact zsts2); (try simp only [World.size_alloc, World.size_setCell, size_drew, size_drewN]); intro hS; simp only [List.cons_append, List.nil_append] at hS; (try clear hQ); have hQ := St.facts hS; simp only [Facts, Res.fact, List.cons_append, List.nil_append, true_and, and_true] at hQ)
  go_ret
  refine ⟨vN, rfl, ?_⟩
  rw [E0.out]
  exact hS.sel (by exact zsub1)
set_option maxRecDepth 100000 in set_option maxHeartbeats 6400000 in
theorem rest3_st {w0 w : World} {G : List Res} {v : Value} {xs : List UInt8} (hS : St [] w0 w (.own 5 1 (v) (xs).length ((xs).map B) :: G)) (hg : Gl7 [] w0) (o x y : Int) (u : Nat) (hk hn jk jn : Int) (n1 n2 : Bool) (ts : List ValT) (ls : List Int) (bk vk : Int) (vn : Bool) (wk wn bn : Int) (cs : List CatchT) (tv lv cv : Value) (hR : InsR [] w0 (⟨o, x, y, u, ⟨hk, hn⟩, ⟨jk, jn⟩, n1, n2, ts, ls, ⟨bk, ⟨vk, vn, ⟨wk, wn⟩⟩, bn⟩, cs⟩ : InstrT) tv lv cv) (hx : xs.length ≤ 17592186044416) (hm : mayI (⟨o, x, y, u, ⟨hk, hn⟩, ⟨jk, jn⟩, n1, n2, ts, ls, ⟨bk, ⟨vk, vn, ⟨wk, wn⟩⟩, bn⟩, cs⟩ : InstrT) = true) (hl1 : ts.length ≤ 65536) (hl2 : ls.length ≤ 65536) (hl3 : cs.length ≤ 65536) (hu : u < 18446744073709551616) (hsh : shapeP o = 3) :
    Calls Tryz.prog 20 #[v, .agg (insC (⟨o, x, y, u, ⟨hk, hn⟩, ⟨jk, jn⟩, n1, n2, ts, ls, ⟨bk, ⟨vk, vn, ⟨wk, wn⟩⟩, bn⟩, cs⟩ : InstrT) tv lv cv).toArray] w fun e w' => ∃ v', e = .returned v' ∧ St [] w0 w' (.own 5 1 (v') (xs ++ pRest (⟨o, x, y, u, ⟨hk, hn⟩, ⟨jk, jn⟩, n1, n2, ts, ls, ⟨bk, ⟨vk, vn, ⟨wk, wn⟩⟩, bn⟩, cs⟩ : InstrT)).length ((xs ++ pRest (⟨o, x, y, u, ⟨hk, hn⟩, ⟨jk, jn⟩, n1, n2, ts, ls, ⟨bk, ⟨vk, vn, ⟨wk, wn⟩⟩, bn⟩, cs⟩ : InstrT)).map B) :: G) := by
  have hb := shape_ok (mayI_shape hm)
  have ho1 : -9223372036854775808 ≤ o := by have := hb.1; dsimp only at this; omega
  have ho2 : o < 9223372036854775808 := by have := hb.1; have := hb.2.1; dsimp only at this; omega
  obtain ⟨tS, lS, cS⟩ := hR
  obtain ⟨ta, tc, rfl⟩ := tS.shape
  obtain ⟨la, lc, rfl⟩ := lS.shape
  obtain ⟨ca, cc, rfl⟩ := cS.shape
  dsimp only at tS lS cS
  have e0 : xs ++ pRest (⟨o, x, y, u, ⟨hk, hn⟩, ⟨jk, jn⟩, n1, n2, ts, ls, ⟨bk, ⟨vk, vn, ⟨wk, wn⟩⟩, bn⟩, cs⟩ : InstrT) = xs ++ pBlock ⟨bk, ⟨vk, vn, ⟨wk, wn⟩⟩, bn⟩ ++ pNum ((cs.length : Nat) : Int) ++ cs.flatMap pCatch := by rw [rest3 (by exact hsh)]; simp [pList, pNum]
  have E0 := Lib.hid e0
  clear e0
  generalize xs ++ pRest (⟨o, x, y, u, ⟨hk, hn⟩, ⟨jk, jn⟩, n1, n2, ts, ls, ⟨bk, ⟨vk, vn, ⟨wk, wn⟩⟩, bn⟩, cs⟩ : InstrT) = Y at E0 ⊢
  have hp := may_inv hm (part3 (i := (⟨o, x, y, u, ⟨hk, hn⟩, ⟨jk, jn⟩, n1, n2, ts, ls, ⟨bk, ⟨vk, vn, ⟨wk, wn⟩⟩, bn⟩, cs⟩ : InstrT)) hsh)
  have hp1 := hp.1
  simp only [Bool.and_eq_true] at hp1
  obtain ⟨hB, hL⟩ := hp1
  have hL : Hid (cs.all mayCatch = true) := Lib.hid hL
  have Hbk := Lib.hid hB
  have lX := pBlock_len Hbk.out
  have lN := pNum_len ((cs.length : Nat) : Int) (by omega)
  have HK := Lib.hid hsh
  clear hsh hp hB
  clear hb hm
  unfold insC
  dsimp only
  go_enter Tryz.func20, Tryz.ntmps20
  go_wp2_with first | (go_at_call 24; (with_reducible refine (shape_any ?_ _ ?_ ?_).mono ?_); (· apply St.gl7 (hg := hg); (exact zsts2)); (· omega); (· omega); rintro e w2 ⟨rfl, hF2⟩; refine st_fr hF2 ?_; (repeat (apply Exists.intro)); refine ⟨?_, ?_⟩; (· exact zsts2); (try simp only [World.size_alloc, World.size_setCell, size_drew, size_drewN]); intro hS; (try clear hQ); have hQ := St.facts hS; simp only [Facts, Res.fact, List.cons_append, List.nil_append, true_and, and_true] at hQ; (try rw [HK.out]))
  go_region_held3 (fun w' => w'.cell? ⟨w.heap.size, 12, none⟩ = some (.int .i64 bk) ∧ w'.cell? ⟨w.heap.size, 13, none⟩ = some (.int .i64 vk) ∧ w'.cell? ⟨w.heap.size, 14, none⟩ = some (.bool vn) ∧ w'.cell? ⟨w.heap.size, 15, none⟩ = some (.int .i64 wk) ∧ w'.cell? ⟨w.heap.size, 16, none⟩ = some (.int .i64 wn) ∧ w'.cell? ⟨w.heap.size, 17, none⟩ = some (.int .i64 bn) ∧ w'.cell? ⟨w.heap.size, 18, none⟩ = some (.slice ca cs.length cc))
    (first | (go_keep; done) | (simp [hQ]; done)) (first | (refine step_st rfl rfl rfl rfl ?_; (repeat (apply Exists.intro)); refine ⟨?_, ?_, ?_, ?_, ?_⟩; (· exact zsts2); (· exact zdst1); (· exact zsrc1); (· exact zlen1); intro vN wN hS; (try clear hQ); have hQ := St.facts hS; simp only [Facts, Res.fact, List.cons_append, List.nil_append, true_and, and_true] at hQ) | (go_at_call 49; (try rw [hwk]); refine st_num ?_; (repeat (apply Exists.intro)); refine ⟨?_, ?_, ?_, ?_, ?_⟩; (· exact zsts2); (· (try simp only [World.size_alloc, World.size_setCell, size_drew, size_drewN]); (exact zpk1)); (· omega); (· exact zlen1); intro vN wN hS; (try clear hQ); have hQ := St.facts hS; simp only [Facts, Res.fact, List.cons_append, List.nil_append, true_and, and_true] at hQ) | (go_at_call 55; (with_reducible refine (putBlock_st ?_ ⟨bk, ⟨vk, vn, ⟨wk, wn⟩⟩, bn⟩ Hbk.out).mono ?_); (· apply St.gl (hs := hg.gl); (exact zsts2)); rintro e w4 ⟨v4, rfl, s4⟩; refine st_go s4 ?_; (repeat (apply Exists.intro)); refine ⟨?_, ?_⟩; (· exact zsts2); (try simp only [World.size_alloc, World.size_setCell, size_drew, size_drewN]); intro hS; simp only [List.cons_append, List.nil_append] at hS; (try clear hQ); have hQ := St.facts hS; simp only [Facts, Res.fact, List.cons_append, List.nil_append, true_and, and_true] at hQ))
  go_wp2
  go_loopw [0, 139] (fun v n wr => ∃ (k : Nat), n = .int .i64 k ∧ k ≤ cs.length ∧ St [] w0 wr (.own 5 1 (v) (xs ++ pBlock ⟨bk, ⟨vk, vn, ⟨wk, wn⟩⟩, bn⟩ ++ pNum ((cs.length : Nat) : Int) ++ (cs.take k).flatMap pCatch).length ((xs ++ pBlock ⟨bk, ⟨vk, vn, ⟨wk, wn⟩⟩, bn⟩ ++ pNum ((cs.length : Nat) : Int) ++ (cs.take k).flatMap pCatch).map B) :: .loc w.heap.size [.int .i64 o, .int .i64 x, .int .i64 y, .int .u64 (u : Int), .int .i64 hk, .int .i64 hn, .int .i64 jk, .int .i64 jn, .bool n1, .bool n2, .slice ta ts.length tc, .slice la ls.length lc, .int .i64 bk, .int .i64 vk, .bool vn, .int .i64 wk, .int .i64 wn, .int .i64 bn, .slice ca cs.length cc] 44 :: G)) (fun _ n _ => cs.length - (intOf n).toNat)
  case atStart =>
    refine ⟨0, rfl, by omega, ?_⟩
    rw [show xs ++ pBlock ⟨bk, ⟨vk, vn, ⟨wk, wn⟩⟩, bn⟩ ++ pNum ((cs.length : Nat) : Int) ++ (cs.take 0).flatMap pCatch = xs ++ pBlock ⟨bk, ⟨vk, vn, ⟨wk, wn⟩⟩, bn⟩ ++ pNum ((cs.length : Nat) : Int) from by simp]
    exact hS.sel (by exact zsub1)
  case round =>
    obtain ⟨k, rfl, hk2, hS⟩ := hrel
    (try clear hQ); have hQ := St.facts hS; simp only [Facts, Res.fact, List.cons_append, List.nil_append, true_and, and_true] at hQ
    have lK : ((cs.take k).flatMap pCatch).length ≤ (cs.take k).length * 21 := flat_len7 _ fun n hn => pCatch_len (List.all_eq_true.1 hL.out n (List.mem_of_mem_take hn))
    rw [List.length_take] at lK
    by_cases hlt : k < cs.length
    · obtain ⟨m, hm⟩ : ∃ t, cs[k]? = some t := ⟨cs[k], by simp [hlt]⟩
      obtain ⟨b, off, cap2, hv, hb, hnS, hc⟩ := Sl.elem cS (fun _ => rfl) k m hm
      injection hv with hv1 hv2 hv3
      subst hv1 hv3
      have hbw : b < wr.heap.size := Nat.lt_of_lt_of_le hb hS.fr.size
      have f0 := (hS.fr.cell hb (by simp) _).trans (hc 0 (by decide))
      have f1 := (hS.fr.cell hb (by simp) _).trans (hc 1 (by decide))
      have f2 := (hS.fr.cell hb (by simp) _).trans (hc 2 (by decide))
      simp only [Nat.add_zero, ← Nat.add_assoc, catchC, List.getElem?_cons_zero, List.getElem?_cons_succ] at f0 f1 f2
      have Hm2 := Lib.hid (List.all_eq_true.1 hL.out m (List.mem_of_getElem? hm))
      have lM := pCatch_len Hm2.out
      have e : xs ++ pBlock ⟨bk, ⟨vk, vn, ⟨wk, wn⟩⟩, bn⟩ ++ pNum ((cs.length : Nat) : Int) ++ (cs.take (k + 1)).flatMap pCatch = xs ++ pBlock ⟨bk, ⟨vk, vn, ⟨wk, wn⟩⟩, bn⟩ ++ pNum ((cs.length : Nat) : Int) ++ (cs.take k).flatMap pCatch ++ pCatch m := by
        rw [List.take_add_one, hm]; simp
      have E := Lib.hid e
      clear e hm
      obtain ⟨mk, mt, ml⟩ := m
      dsimp only at f0 f1 f2
      go_wp2_with first | (go_at_call 56; refine st_catch (c := ⟨mk, mt, ml⟩) ?_; (repeat (apply Exists.intro)); refine ⟨?_, ?_, ?_, ?_, ?_⟩; (· exact zsts2); (· (try simp only [World.size_alloc, World.size_setCell, size_drew, size_drewN]); (exact zpk1)); (· exact Hm2.out); (· exact zlen1); intro vN wN hS; (try clear hQ); have hQ := St.facts hS; simp only [Facts, Res.fact, List.cons_append, List.nil_append, true_and, and_true] at hQ)
      go_roundw
      case rel =>
        refine ⟨k + 1, by go_num, by omega, ?_⟩
        rw [E.out]
        exact hS.sel (by exact zsub1)
      case measure => simp [intOf]; omega
    · obtain rfl : k = cs.length := by omega
      rw [List.take_length] at hS lK
      go_wp2
      go_ret
      refine ⟨_, rfl, ?_⟩
      rw [E0.out]
      exact hS.sel (by exact zsub1)
end Go.Proofs.YtokneepfknepaaaGreatDoor

set_option linter.unusedSimpArgs false
set_option linter.unusedVariables false
namespace Go.Proofs.YtokneepfknepaaaGreatDoor
open Go.RowKit

theorem und_nest : Tryz.prog.underlying 73 = some (.slice 4) := by kernel_rfl
theorem info_bool : (Tryz.prog.info? 4).map (fun i => (i.zero, i.size, i.bytes)) = some (some (.bool false), 1, 1) := by kernel_rfl
/-- append on such a slice. -/
theorem app_bool {w : World} {ops : Array Oper} {rest : List Oper} {o : Oper} {a : Act} {Q : Exit → Act → World → Prop} {s x : Operand} {v xv : Value} (hgd : o.guard = none)
    (ho : o.op = .call { callee := .builtin .append, args := #[s, x], argTypes := #[73, 73] }) (hs : a.eval s = v) (hx : a.eval x = xv)
    (h : ∃ S w0 G G' n xs m news, St S w0 w G ∧ DstT 4 1 G v n xs G' ∧ SrcT 4 1 G w xv m news ∧ n + m ≤ 549755813888 ∧
      ∀ v' w', St S w0 w' (.own 4 1 v' (n + m) (xs ++ news) :: G') → wpList Tryz.prog ops Q rest (a.put o.dst v') w') :
    wpList Tryz.prog ops Q (o :: rest) a w := by
  obtain ⟨i0, hi, hz0, hz1, hz2⟩ := info_parts info_bool
  exact st_appT hgd ho hs hx und_nest und_nest hi hz0 hz1 hz2 rfl (by decide) (by decide) h

/-- What is open, as it lies in memory. -/
def nestC (n : List Bool) : List Value := n.reverse.map Value.bool
theorem nestC_len (n : List Bool) : (nestC n).length = n.length := by simp [nestC]
theorem nestC_cons (b : Bool) (n : List Bool) : nestC (b :: n) = nestC n ++ [.bool b] := by simp [nestC]
theorem nestC_get (b : Bool) (n : List Bool) : (nestC (b :: n))[n.length]? = some (.bool b) := by
  rw [nestC_cons, List.getElem?_append_right (by rw [nestC_len]; exact Nat.le_refl _), nestC_len, Nat.sub_self]
  rfl
theorem nestC_set (b c : Bool) (n : List Bool) : (nestC (b :: n)).set n.length (.bool c) = nestC (c :: n) := by
  rw [nestC_cons, nestC_cons, List.set_append, nestC_len]
  simp
theorem nestC_take (b : Bool) (n : List Bool) : (nestC (b :: n)).take (n.length * 1) = nestC n := by
  rw [nestC_cons, Nat.mul_one, ← nestC_len n, List.take_append_of_le_length (Nat.le_refl _), List.take_length]

theorem Own.nest {w : World} {v : Value} {b : Bool} {r : List Bool} (h : Own [] w 4 1 v (b :: r).length (nestC (b :: r))) :
    ∃ g c, v = .slice (some ⟨g, 0, none⟩) (r.length + 1) c ∧ g < w.heap.size ∧ w.cell? ⟨g, r.length, none⟩ = some (.bool b) ∧ w.frozen? ⟨g, r.length, none⟩ = false ∧ r.length + 1 ≤ c := by
  obtain ⟨k1, k2, k3⟩ := h
  rcases k3 with ⟨k3, k4⟩ | ⟨g, cap, cur, k3, kg, kh, k4, k5, k6, k7⟩
  · simp at k4
  · refine ⟨g, cap, k3, (Array.getElem?_eq_some_iff.1 kh).1, ?_, frozen_of_row w g _ cur _ kh, by simpa using k4⟩
    rw [cell_of_row w g _ cur _ (0, 0) kh]
    have k8 := nestC_get b r
    rw [← k7, List.getElem?_take, if_pos (by simp)] at k8
    simpa using k8

set_option maxRecDepth 100000 in
set_option maxHeartbeats 1600000 in
theorem step_no {w : World} {nb : Nat} {v : Value} {n : List Bool} (hl : Loc w nb [v] 73) (ho : Own [] w 4 1 v n.length (nestC n)) (hn : n.length ≤ 549755813000) {op : Int} (hs : stepN n op = none) :
    Calls Tryz.prog 40 #[.pointer (some ⟨nb, 0, none⟩), .int .i64 op] w fun e w' => e = .returned (.bool false) ∧ Fr [] w w' := by
  have hC := hl.cell
  have hT := hl.lt
  unfold stepN at hs
  by_cases h1 : op = 2 ∨ op = 3 ∨ op = 31
  · rw [if_pos h1] at hs; cases hs
  · rw [if_neg h1] at hs
    have q2 : (op == 2) = false := by simp; omega
    have q3 : (op == 3) = false := by simp; omega
    have q31 : (op == 31) = false := by simp; omega
    by_cases h4 : op = 4
    · rw [if_pos h4] at hs; cases hs
    · rw [if_neg h4] at hs
      have q4 : (op == 4) = false := by simp; omega
      by_cases h5 : op = 5
      · rw [if_pos h5] at hs
        have q5 : (op == 5) = true := by simp; omega
        match n, hs with
        | [], _ =>
          obtain ⟨a0, c0, rfl, hc0, _⟩ := Own.shape ho
          clear h1 h4 h5
          go_enter Tryz.func40, Tryz.ntmps40
          go_wp2
          go_ret
          exact ⟨rfl, Fr.refl _ _⟩
        | false :: r, _ =>
          obtain ⟨g, c, rfl, hg, hd, hz, hc⟩ := ho.nest
          have hw : wrap64 (r.length : Int) = r.length := IntWalk.wrap64_in _ (by simp at hn; omega)
          clear h1 h4 h5
          go_enter Tryz.func40, Tryz.ntmps40
          go_wp2
          go_ret
          exact ⟨rfl, Fr.refl _ _⟩
        | true :: r, hs => cases hs
      · rw [if_neg h5] at hs
        have q5 : (op == 5) = false := by simp; omega
        by_cases h11 : op = 11
        · rw [if_pos h11] at hs
          have q11 : (op == 11) = true := by simp; omega
          match n, hs with
          | [], _ =>
            obtain ⟨a0, c0, rfl, hc0, _⟩ := Own.shape ho
            clear h1 h4 h5 h11
            go_enter Tryz.func40, Tryz.ntmps40
            go_wp2
            go_ret
            exact ⟨rfl, Fr.refl _ _⟩
          | _ :: _, hs => cases hs
        · rw [if_neg h11] at hs; cases hs

set_option maxRecDepth 100000 in
set_option maxHeartbeats 1600000 in
theorem step_yes {S : List Nat} {w0 w : World} {G : List Res} {nb : Nat} {v : Value} {n m : List Bool} (hS : St S w0 w (.loc nb [v] 73 :: .own 4 1 (v) (n).length (nestC (n)) :: G)) (hn : n.length ≤ 549755813000) {op : Int} (hs : stepN n op = some m) :
    Calls Tryz.prog 40 #[.pointer (some ⟨nb, 0, none⟩), .int .i64 op] w fun e w' => ∃ v', e = .returned (.bool true) ∧ St S w0 w' (.loc nb [v'] 73 :: .own 4 1 (v') (m).length (nestC (m)) :: G) := by
  have hl := hS.head
  have ho := hS.tail.head
  have hC := hl.cell
  have hT := hl.lt
  unfold stepN at hs
  by_cases h1 : op = 2 ∨ op = 3 ∨ op = 31
  · rw [if_pos h1] at hs
    injection hs with hs
    subst hs
    obtain ⟨a0, c0, rfl, hc0, _⟩ := Own.shape ho
    have q : ((op == 2) = true) ∨ ((op == 2) = false ∧ (op == 3) = true) ∨ ((op == 2) = false ∧ (op == 3) = false ∧ (op == 31) = true) := by simp; omega
    clear h1 hl ho
    rcases q with q2 | ⟨q2, q3⟩ | ⟨q2, q3, q31⟩
    all_goals
      go_enter Tryz.func40, Tryz.ntmps40
      go_wp2_with (at_builtin; refine app_bool rfl rfl rfl rfl ?_; (repeat (apply Exists.intro)); refine ⟨?_, ?_, ?_, ?_, ?_⟩; (· exact zsts1); (· (try simp only [World.size_alloc, World.size_setCell, size_drew, size_drewN]); apply DstT.own; (exact zpk1)); (· (try simp only [World.size_alloc, World.size_setCell, size_drew, size_drewN]); apply SrcT.lit; (· exact zpk1); (· rfl); (· simp [Value.oneCell'])); (· omega); intro vN wN hS; obtain ⟨aN, cN, rfl, _, _⟩ := Own.shape hS.head; (try clear hQ); have hQ := St.facts hS; simp only [Facts, Res.fact, List.cons_append, List.nil_append, true_and, and_true] at hQ)
      go_ret
      refine ⟨.slice aN (n.length + 1) cN, rfl, ?_⟩
      rw [nestC_cons]
      exact (hS.set (by exact zpk1) 0 (.slice aN (n.length + 1) cN)).sel (by exact zsub1)
  · rw [if_neg h1] at hs
    have q2 : (op == 2) = false := by simp; omega
    have q3 : (op == 3) = false := by simp; omega
    have q31 : (op == 31) = false := by simp; omega
    by_cases h4 : op = 4
    · rw [if_pos h4] at hs
      injection hs with hs
      subst hs
      obtain ⟨a0, c0, rfl, hc0, _⟩ := Own.shape ho
      have q4 : (op == 4) = true := by simp; omega
      clear h1 h4 hl ho
      go_enter Tryz.func40, Tryz.ntmps40
      go_wp2_with (at_builtin; refine app_bool rfl rfl rfl rfl ?_; (repeat (apply Exists.intro)); refine ⟨?_, ?_, ?_, ?_, ?_⟩; (· exact zsts1); (· (try simp only [World.size_alloc, World.size_setCell, size_drew, size_drewN]); apply DstT.own; (exact zpk1)); (· (try simp only [World.size_alloc, World.size_setCell, size_drew, size_drewN]); apply SrcT.lit; (· exact zpk1); (· rfl); (· simp [Value.oneCell'])); (· omega); intro vN wN hS; obtain ⟨aN, cN, rfl, _, _⟩ := Own.shape hS.head; (try clear hQ); have hQ := St.facts hS; simp only [Facts, Res.fact, List.cons_append, List.nil_append, true_and, and_true] at hQ)
      go_ret
      refine ⟨.slice aN (n.length + 1) cN, rfl, ?_⟩
      rw [nestC_cons]
      exact (hS.set (by exact zpk1) 0 (.slice aN (n.length + 1) cN)).sel (by exact zsub1)
    · rw [if_neg h4] at hs
      have q4 : (op == 4) = false := by simp; omega
      by_cases h5 : op = 5
      · rw [if_pos h5] at hs
        have q5 : (op == 5) = true := by simp; omega
        match n, hs with
        | true :: r, hs =>
          injection hs with hs
          subst hs
          obtain ⟨g, c, rfl, hg, hd, hz, hc⟩ := ho.nest
          have hw : wrap64 (r.length : Int) = r.length := IntWalk.wrap64_in _ (by simp at hn; omega)
          have hZ := hl.frz
          clear h1 h4 h5
          go_enter Tryz.func40, Tryz.ntmps40
          go_wp2
          go_ret
          refine ⟨.slice (some ⟨g, 0, none⟩) (r.length + 1) c, rfl, ?_⟩
          have h1 := (hS.pick (.there .here)).turn (S' := []) (r' := .own 4 1 (.slice (some ⟨g, 0, none⟩) (r.length + 1) c) (r.length + 1) ((nestC (true :: r)).set r.length (.bool false))) (by simpa [Res.blk, Value.blk] using (Fr.refl [g] w).setCell (p := ⟨g, r.length, none⟩) (by simp) (.bool false)) (by simp) (ho.setAt (by simp) rfl) (fun b hb => .inl hb)
          rw [nestC_set] at h1
          exact h1.pick (.there .here)
        | false :: r, hs => cases hs
        | [], hs => cases hs
      · rw [if_neg h5] at hs
        have q5 : (op == 5) = false := by simp; omega
        by_cases h11 : op = 11
        · rw [if_pos h11] at hs
          have q11 : (op == 11) = true := by simp; omega
          match n, hs with
          | x :: r, hs =>
            injection hs with hs
            subst hs
            obtain ⟨g, c, rfl, hg, hd, hz, hc⟩ := ho.nest
            have hw : wrap64 (r.length : Int) = r.length := IntWalk.wrap64_in _ (by simp at hn; omega)
            have hZ := hl.frz
            have hc2 : (r.length : Int) ≤ (c : Int) := by omega
            clear h1 h4 h5 h11
            go_enter Tryz.func40, Tryz.ntmps40
            go_wp2
            go_ret
            refine ⟨.slice (some ⟨g, 0, none⟩) r.length c, rfl, ?_⟩
            have h1 := (hS.pick (.there .here)).turn (S' := []) (r' := .own 4 1 (.slice (some ⟨g, 0, none⟩) r.length c) r.length ((nestC (x :: r)).take (r.length * 1))) (Fr.refl _ _) (by simp) (ho.take (by simp)) (fun b hb => .inl hb)
            rw [nestC_take] at h1
            exact (h1.set (.there .here) 0 (.slice (some ⟨g, 0, none⟩) r.length c))
          | [], hs => cases hs
        · rw [if_neg h11] at hs
          injection hs with hs
          subst hs
          have q11 : (op == 11) = false := by simp; omega
          obtain ⟨a0, c0, rfl, hc0, _⟩ := Own.shape ho
          clear h1 h4 h5 h11 hl ho
          go_enter Tryz.func40, Tryz.ntmps40
          go_wp2
          go_ret
          exact ⟨.slice a0 n.length c0, rfl, hS⟩

/-- What stands open behind some instructions. -/
theorem nest_start (w : World) : St [] w (w.alloc (.cells #[.slice none 0 0] 73)) [.loc w.heap.size [.slice none 0 0] 73, .own 4 1 ((.slice none 0 0)) (([] : List Bool)).length (nestC (([] : List Bool)))] := by
  have h := ((St.start [] w).alloc [.slice none 0 0] 73).put (r := .own 4 1 ((.slice none 0 0)) (([] : List Bool)).length (nestC (([] : List Bool)))) (Own.nil _ _ _ _) (fun b hb => by cases hb) (fun b hb => by cases hb)
  exact h.pick (.there .here)
theorem stepN_len {n m : List Bool} {op : Int} (h : stepN n op = some m) : m.length ≤ n.length + 1 := by
  unfold stepN at h
  split at h
  · injection h with h; subst h; simp
  · split at h
    · injection h with h; subst h; simp
    · split at h
      · split at h
        · injection h with h; subst h; simp
        · cases h
      · split at h
        · split at h
          · injection h with h; subst h; simp; omega
          · cases h
        · injection h with h; subst h; omega

set_option maxRecDepth 100000 in
set_option maxHeartbeats 1600000 in
theorem nested_any (w : World) (v : Value) (is : List InstrT) (cs : List Value) (hv : Sl [] w 19 v is.length cs) (hi : InssR [] w is cs) (hb : is.length ≤ 549755813000) :
    Calls Tryz.prog 13 #[v] w fun e w' => e = .returned (.bool (nested is)) ∧ Fr [] w w' := by
  have hh := hv
  obtain ⟨a0, c0, rfl⟩ := hv.shape
  have hstart := nest_start w
  go_enter Tryz.func13, Tryz.ntmps13
  go_wp2
  go_loopw [7] (fun a wr => ∃ (k : Nat), a = .int .i64 k ∧ k ≤ is.length ∧ ∃ u n, St [] w wr [.loc w.heap.size [u] 73, .own 4 1 (u) (n).length (nestC (n))] ∧ n.length ≤ k ∧ Hid (nestL n (is.drop k) = nestL [] is)) (fun a _ => is.length - (intOf a).toNat)
  case atStart => exact ⟨0, rfl, by omega, _, [], hstart, by simp, Lib.hid rfl⟩
  case round =>
    obtain ⟨k, rfl, hk, u, n, hS, hn, hI⟩ := hrel
    (try clear hQ); have hQ := St.facts hS; simp only [Facts, Res.fact, List.cons_append, List.nil_append, true_and, and_true] at hQ
    by_cases hlt : k < is.length
    · obtain ⟨i, hi1⟩ : ∃ t, is[k]? = some t := ⟨is[k], by simp [hlt]⟩
      obtain ⟨b1, o1, p1, tv, lv, cv, hv1, hb1, _, _, hd1⟩ := Sl.ins_elem hh hi k i hi1
      injection hv1 with e1 _ e3
      subst e1 e3
      have f1 := (hS.fr.cell hb1 (by simp) _).trans (hd1 0 (by decide))
      simp only [Nat.add_zero, insC, List.getElem?_cons_zero] at f1
      have i1 : (k : Int) < (is.length : Int) := by omega
      have hdrop : is.drop k = i :: is.drop (k + 1) := by
        rw [List.drop_eq_getElem_cons hlt]
        congr 1
        have := List.getElem?_eq_getElem hlt
        rw [this] at hi1
        injection hi1
      rw [hdrop] at hI
      clear hd1 hdrop hi1
      cases hst : stepN n i.op with
      | none =>
        have e : nested is = false := by
          unfold nested
          rw [← hI.out]
          simp [nestL, hst]
        have E := Lib.hid e
        have Hst := Lib.hid hst
        clear e hI hst
        have hLoc : Loc wr _ [u] _ := hS.head
        have hOwn : Own [] wr _ _ u _ _ := hS.tail.head
        go_wp2_with (go_at_call 40; (with_reducible refine (step_no hLoc hOwn (by omega) Hst.out).mono ?_); rintro e w1 ⟨rfl, hF⟩)
        go_ret
        exact ⟨by rw [E.out]; rfl, hS.fr.trans hF⟩
      | some m =>
        have e : nestL m (is.drop (k + 1)) = nestL [] is := by
          rw [← hI.out]
          simp [nestL, hst]
        have hm := stepN_len hst
        have E := Lib.hid e
        have Hst := Lib.hid hst
        clear e hI hst
        go_wp2_with (go_at_call 40; (with_reducible refine (step_yes hS (by omega) Hst.out).mono ?_); rintro e w1 ⟨u', rfl, hS⟩; (try clear hQ); have hQ := St.facts hS; simp only [Facts, Res.fact, List.cons_append, List.nil_append, true_and, and_true] at hQ)
        go_roundw
        case rel => exact ⟨k + 1, by go_num, by omega, u', m, hS, by omega, E⟩
        case measure => simp [intOf]; omega
    · have hk2 : k = is.length := by omega
      subst hk2
      rw [List.drop_length] at hI
      obtain ⟨a1, c1, rfl, _, _⟩ := Own.shape hS.tail.head
      have e : nested is = (((n.length : Nat) : Int) == 0) := by
        unfold nested
        rw [← hI.out]
        cases n with
        | nil => rfl
        | cons b n =>
          have : (((b :: n).length : Nat) : Int) ≠ 0 := by simp; omega
          simp [nestL]
          omega
      have E := Lib.hid e
      clear e hI
      (try clear hQ); have hQ := St.facts hS; simp only [Facts, Res.fact, List.cons_append, List.nil_append, true_and, and_true] at hQ
      go_wp2
      go_ret
      exact ⟨by rw [E.out]; rfl, hS.fr⟩
end Go.Proofs.YtokneepfknepaaaGreatDoor

set_option linter.unusedSimpArgs false
set_option linter.unusedVariables false
namespace Go.Proofs.YtokneepfknepaaaGreatDoor
open Go.RowKit

/-- What the statements' guards say of an instruction. -/
structure SmI (i : InstrT) : Prop where
  ts : i.types.length ≤ 65536
  ls : i.labels.length ≤ 65536
  cs : i.catches.length ≤ 65536
  u : i.u < 18446744073709551616
theorem putRest_st {w0 w : World} {G : List Res} {v : Value} {xs : List UInt8} (hS : St [] w0 w (.own 5 1 (v) (xs).length ((xs).map B) :: G)) (hg : Gl7 [] w0) (i : InstrT) (tv lv cv : Value) (hR : InsR [] w0 i tv lv cv) (hx : xs.length ≤ 17592186044416) (hm : mayI i = true) (hs : SmI i) :
    Calls Tryz.prog 20 #[v, .agg (insC i tv lv cv).toArray] w fun e w' => ∃ v', e = .returned v' ∧ St [] w0 w' (.own 5 1 (v') (xs ++ pRest i).length ((xs ++ pRest i).map B) :: G) := by
  obtain ⟨o, x, y, u, ⟨hk, hn⟩, ⟨jk, jn⟩, n1, n2, ts, ls, ⟨bk, ⟨vk, vn, ⟨wk, wn⟩⟩, bn⟩, cs⟩ := i
  obtain ⟨h1, h2, h3, h4⟩ := hs
  dsimp only at h1 h2 h3 h4
  rcases shape_cases o with h | (h | h) | h | h | h | h | h | h | h | h | h | h
  · exact rest1_st hS hg o x y u hk hn jk jn n1 n2 ts ls bk vk vn wk wn bn cs tv lv cv hR hx hm h1 h2 h3 h4 h
  · exact rest4_st hS hg o x y u hk hn jk jn n1 n2 ts ls bk vk vn wk wn bn cs tv lv cv hR hx hm h1 h2 h3 h4 h
  · exact rest6_st hS hg o x y u hk hn jk jn n1 n2 ts ls bk vk vn wk wn bn cs tv lv cv hR hx hm h1 h2 h3 h4 h
  · exact rest7_st hS hg o x y u hk hn jk jn n1 n2 ts ls bk vk vn wk wn bn cs tv lv cv hR hx hm h1 h2 h3 h4 h
  · exact rest5_st hS hg o x y u hk hn jk jn n1 n2 ts ls bk vk vn wk wn bn cs tv lv cv hR hx hm h1 h2 h3 h4 h
  · exact rest8_st hS hg o x y u hk hn jk jn n1 n2 ts ls bk vk vn wk wn bn cs tv lv cv hR hx hm h1 h2 h3 h4 h
  · exact rest9_st hS hg o x y u hk hn jk jn n1 n2 ts ls bk vk vn wk wn bn cs tv lv cv hR hx hm h1 h2 h3 h4 h
  · exact rest10_st hS hg o x y u hk hn jk jn n1 n2 ts ls bk vk vn wk wn bn cs tv lv cv hR hx hm h1 h2 h3 h4 h
  · exact rest11_st hS hg o x y u hk hn jk jn n1 n2 ts ls bk vk vn wk wn bn cs tv lv cv hR hx hm h1 h2 h3 h4 h
  · exact rest12_st hS hg o x y u hk hn jk jn n1 n2 ts ls bk vk vn wk wn bn cs tv lv cv hR hx hm h1 h2 h3 h4 h
  · exact rest2_st hS hg o x y u hk hn jk jn n1 n2 ts ls bk vk vn wk wn bn cs tv lv cv hR hx hm h1 h2 h3 h4 h
  · exact rest3_st hS hg o x y u hk hn jk jn n1 n2 ts ls bk vk vn wk wn bn cs tv lv cv hR hx hm h1 h2 h3 h4 h
  · exact rest13_st hS hg o x y u hk hn jk jn n1 n2 ts ls bk vk vn wk wn bn cs tv lv cv hR hx hm h1 h2 h3 h4 h

theorem heapB_len7 {h : HeapT} (k : plainH h = true) : (heapB h).length ≤ 12 := by
  have k : plainVal ⟨3, false, h⟩ = true := k
  have ok := plainVal_ok k
  rw [heapB_yes k]
  exact pHeap_len _ ok.2.1 ok.2.2
theorem pRest_len {i : InstrT} (hm : mayI i = true) (hs : SmI i) : (pRest i).length ≤ 1500000 := by
  obtain ⟨h1, h2, h3, h4⟩ := hs
  rcases shape_cases i.op with h | h | h | h | h | h | h | h | h | h | h | h
  · rw [rest1 h]; simp
  · rw [rest46 h]
    have := (idx_iff _).1 (inv46 h hm).1
    have := pNum_len i.x (by omega)
    omega
  · rw [rest7 h]
    have hp := (may_inv hm (part7 h)).1
    simp only [Bool.and_eq_true, idx_iff] at hp
    have := pNum_len i.x (by omega)
    have := pNum_len i.y (by omega)
    rw [List.length_append]; omega
  · rw [rest5 h]
    have hp := (may_inv hm (part5 h)).1
    simp only [Bool.and_eq_true, idx_iff] at hp
    have := pNum_len i.x (by omega)
    have := ls_len i.labels hp.2
    have := putU_len i.labels.length (by omega)
    unfold pList
    simp only [List.length_append]; omega
  · rw [rest8 h]
    have hp := (may_inv hm (part8 h)).1
    simp only [Bool.and_eq_true, idx_iff, decide_eq_true_eq] at hp
    have := pNum_len i.x (by omega)
    have := pNum_len (i.x + 64) (by omega)
    have := pNum_len i.y (by omega)
    have := putU_len i.u h4
    unfold memB
    split <;> simp only [List.length_append] <;> omega
  · rw [rest9 h]
    have hp := (may_inv hm (part9 h)).1
    simp only [decide_eq_true_eq] at hp
    obtain ⟨t1, t2, _⟩ := toI32_lt hp
    have := putS_len (toI32 i.u) (by omega) (by omega)
    omega
  · rw [rest10 h]
    obtain ⟨t1, t2, _⟩ := toI64_lt h4
    have := putS_len (toI64 i.u) (by omega) (by omega)
    omega
  · rw [rest11 h]
    have := heapB_len7 (may_inv hm (part11 h)).1
    omega
  · rw [rest12 h]
    have hp := (may_inv hm (part12 h)).1
    have := valsB_len i.types (fun t ht => plainVal_ok (List.all_eq_true.1 hp t ht)) h1
    omega
  · rw [rest2 h]
    have := pBlock_len (may_inv hm (part2 h)).1
    omega
  · rw [rest3 h]
    have hp := (may_inv hm (part3 h)).1
    simp only [Bool.and_eq_true] at hp
    have := pBlock_len hp.1
    have h5 : (i.catches.flatMap pCatch).length ≤ i.catches.length * 21 := flat_len7 i.catches fun c hc => pCatch_len (List.all_eq_true.1 hp.2 c hc)
    have := putU_len i.catches.length (by omega)
    unfold pList
    simp only [List.length_append]; omega
  · rw [rest13 h]
    have hp := (may_inv hm (part13 h)).1
    simp only [Bool.and_eq_true, idx_iff] at hp
    have := pNum_len i.x (by omega)
    have := heapB_len7 hp.1.2
    have := heapB_len7 hp.2
    simp only [List.length_append, List.length_cons, List.length_nil]; omega
theorem pOp_len {op : Int} (h0 : 0 ≤ op) : (pOp op).length ≤ 11 := by
  unfold pOp
  split
  · simp
  · have := pNum_len (op % 256) (by omega)
    simp only [List.length_cons]; omega
theorem pInstr_len {i : InstrT} (hm : mayI i = true) (hs : SmI i) : (pInstr i).length ≤ 1600000 := by
  have h1 := pRest_len hm hs
  have h2 := pOp_len (shape_ok (mayI_shape hm)).1
  unfold pInstr
  rw [List.length_append]; omega

theorem st_op {w : World} {v : Value} {op : Int} {Q : Ending → World → Prop} (h : ∃ S w0 G G' xs, St S w0 w G ∧ Pick G (.own 5 1 (v) (xs).length ((xs).map B)) G' ∧ (0 ≤ op ∧ op < 65536) ∧ xs.length ≤ 35184372088830 ∧ ∀ v' w', St S w0 w' (.own 5 1 (v') (xs ++ pOp op).length ((xs ++ pOp op).map B) :: G') → Q (.returned v') w') : Calls Tryz.prog 21 #[v, .int .i64 op] w Q := by
  obtain ⟨S, w0, G, G', xs, h1, h2, h3, h4, h5⟩ := h
  exact (putOp_st (h1.pick h2) op h3.1 h3.2 h4).mono fun e w' ⟨v', e1, e2⟩ => e1 ▸ h5 v' w' e2
theorem st_rest {w0 w : World} {v : Value} {i : InstrT} {tv lv cv : Value} {Q : Ending → World → Prop} (hg : Gl7 [] w0) (hR : InsR [] w0 i tv lv cv) (hm : mayI i = true) (hs : SmI i) (h : ∃ G G' xs, St [] w0 w G ∧ Pick G (.own 5 1 (v) (xs).length ((xs).map B)) G' ∧ xs.length ≤ 17592186044416 ∧ ∀ v' w', St [] w0 w' (.own 5 1 (v') (xs ++ pRest i).length ((xs ++ pRest i).map B) :: G') → Q (.returned v') w') : Calls Tryz.prog 20 #[v, .agg (insC i tv lv cv).toArray] w Q := by
  obtain ⟨G, G', xs, h1, h2, h4, h5⟩ := h
  exact (putRest_st (h1.pick h2) hg i tv lv cv hR h4 hm hs).mono fun e w' ⟨v', e1, e2⟩ => e1 ▸ h5 v' w' e2

set_option maxRecDepth 100000 in
set_option maxHeartbeats 3200000 in
theorem Put_any (hM : MayOk) {w : World} (hg : Gl7 [] w) (v : Value) (is : List InstrT) (ds : List Value) (h : Sl [] w 19 v is.length ds) (hs : InssR [] w is ds) (hl : is.length ≤ 65536) (hwf : ∀ i, i ∈ is → WfI i) (hsm : ∀ i, i ∈ is → SmI i) :
    Calls Tryz.prog 8 #[v] w fun e w' => ∃ v', e = .returned v' ∧ St [] w w' [.own 5 1 (v') (pExpr is).length ((pExpr is).map B)] := by
  have hS := St.start [] w
  have hh := h
  have hl40 : is.length ≤ 1099511627776 := by omega
  have hl39 : is.length ≤ 549755813000 := by omega
  obtain ⟨va, vc, rfl⟩ := h.shape
  cases ha : is.all mayI with
  | false =>
    have e : pExpr is = [] := by unfold pExpr; rw [ha]; rfl
    rw [e]
    have Ha := Lib.hid ha
    clear ha e
    go_enter Tryz.func8, Tryz.ntmps8
    go_wp2_with first | (go_at_call 19; (with_reducible refine (iall_ins hM _ ?_ _ is ds ?_ ?_ hl40 hwf).mono ?_); (· apply St.gl7 (hg := hg); (exact zsts2)); (· (apply St.sl (hs := h); (exact zsts2))); (· exact hS.inss hs); rintro e w2 ⟨rfl, hF2⟩; (try rw [Ha.out]); refine st_fr hF2 ?_; (repeat (apply Exists.intro)); refine ⟨?_, ?_⟩; (· exact zsts2); (try simp only [World.size_alloc, World.size_setCell, size_drew, size_drewN]); intro hS; (try clear hQ); have hQ := St.facts hS; simp only [Facts, Res.fact, List.cons_append, List.nil_append, true_and, and_true] at hQ)
    go_ret
    exact ⟨_, rfl, hS.dst (.nil rfl)⟩
  | true =>
    have Ha := Lib.hid ha
    cases hn : nested is with
    | false =>
      have e : pExpr is = [] := by unfold pExpr; rw [ha, hn]; rfl
      rw [e]
      have Hn := Lib.hid hn
      clear ha hn e
      go_enter Tryz.func8, Tryz.ntmps8
      go_wp2_with first | (go_at_call 19; (with_reducible refine (iall_ins hM _ ?_ _ is ds ?_ ?_ hl40 hwf).mono ?_); (· apply St.gl7 (hg := hg); (exact zsts2)); (· (apply St.sl (hs := h); (exact zsts2))); (· exact hS.inss hs); rintro e w2 ⟨rfl, hF2⟩; (try rw [Ha.out]); refine st_fr hF2 ?_; (repeat (apply Exists.intro)); refine ⟨?_, ?_⟩; (· exact zsts2); (try simp only [World.size_alloc, World.size_setCell, size_drew, size_drewN]); intro hS; (try clear hQ); have hQ := St.facts hS; simp only [Facts, Res.fact, List.cons_append, List.nil_append, true_and, and_true] at hQ) | (go_at_call 13; (with_reducible refine (nested_any _ _ is ds ?_ ?_ hl39).mono ?_); (· (apply St.sl (hs := h); (exact zsts2))); (· exact hS.inss hs); rintro e w2 ⟨rfl, hF2⟩; (try rw [Hn.out]); refine st_fr hF2 ?_; (repeat (apply Exists.intro)); refine ⟨?_, ?_⟩; (· exact zsts2); (try simp only [World.size_alloc, World.size_setCell, size_drew, size_drewN]); intro hS; (try clear hQ); have hQ := St.facts hS; simp only [Facts, Res.fact, List.cons_append, List.nil_append, true_and, and_true] at hQ)
      go_ret
      exact ⟨_, rfl, hS.dst (.nil rfl)⟩
    | true =>
      have e : pExpr is = is.flatMap pInstr ++ [UInt8.ofNat (11 : Int).toNat] := by unfold pExpr; rw [ha, hn]; rfl
      rw [e]
      have Hn := Lib.hid hn
      clear ha hn e
      go_enter Tryz.func8, Tryz.ntmps8
      go_wp2_with first | (go_at_call 19; (with_reducible refine (iall_ins hM _ ?_ _ is ds ?_ ?_ hl40 hwf).mono ?_); (· apply St.gl7 (hg := hg); (exact zsts2)); (· (apply St.sl (hs := h); (exact zsts2))); (· exact hS.inss hs); rintro e w2 ⟨rfl, hF2⟩; (try rw [Ha.out]); refine st_fr hF2 ?_; (repeat (apply Exists.intro)); refine ⟨?_, ?_⟩; (· exact zsts2); (try simp only [World.size_alloc, World.size_setCell, size_drew, size_drewN]); intro hS; (try clear hQ); have hQ := St.facts hS; simp only [Facts, Res.fact, List.cons_append, List.nil_append, true_and, and_true] at hQ) | (go_at_call 13; (with_reducible refine (nested_any _ _ is ds ?_ ?_ hl39).mono ?_); (· (apply St.sl (hs := h); (exact zsts2))); (· exact hS.inss hs); rintro e w2 ⟨rfl, hF2⟩; (try rw [Hn.out]); refine st_fr hF2 ?_; (repeat (apply Exists.intro)); refine ⟨?_, ?_⟩; (· exact zsts2); (try simp only [World.size_alloc, World.size_setCell, size_drew, size_drewN]); intro hS; (try clear hQ); have hQ := St.facts hS; simp only [Facts, Res.fact, List.cons_append, List.nil_append, true_and, and_true] at hQ)
      go_loopw [3, 16] (fun u n wr => ∃ (k : Nat), n = .int .i64 k ∧ k ≤ is.length ∧ St [] w wr [.own 5 1 (u) ((is.take k).flatMap pInstr).length (((is.take k).flatMap pInstr).map B)]) (fun _ n _ => is.length - (intOf n).toNat)
      case atStart => exact ⟨0, rfl, by omega, hS.dst (.nil rfl)⟩
      case round =>
        obtain ⟨k, rfl, hk2, hS⟩ := hrel
        have lK : ((is.take k).flatMap pInstr).length ≤ (is.take k).length * 1600000 := flat_len7 _ fun i hi => pInstr_len (List.all_eq_true.1 Ha.out i (List.mem_of_mem_take hi)) (hsm i (List.mem_of_mem_take hi))
        rw [List.length_take] at lK
        by_cases hlt : k < is.length
        · obtain ⟨i, hi⟩ : ∃ t, is[k]? = some t := ⟨is[k], by simp [hlt]⟩
          have hmem := List.mem_of_getElem? hi
          have hmi := List.all_eq_true.1 Ha.out i hmem
          have hsi := hsm i hmem
          have hop := shape_ok (mayI_shape hmi)
          have lI := pOp_len hop.1
          have hop1 : 0 ≤ i.op ∧ i.op < 65536 := by have := hop.1; have := hop.2.1; omega
          obtain ⟨b, off, cap2, tv, lv, cv, hv, hb, hnS, hR, hc⟩ := Sl.ins_elem hh hs k i hi
          injection hv with hv1 hv2 hv3
          subst hv1 hv3
          have hbw : b < wr.heap.size := Nat.lt_of_lt_of_le hb hS.fr.size
          have hc2 : ∀ r, r < 19 → wr.cell? ⟨b, off + (k * 19 + r), none⟩ = (insC i tv lv cv)[r]? := fun r hr => (hS.fr.cell hb (by simp) _).trans (hc r hr)
          obtain ⟨ta, tc, rfl⟩ := hR.1.shape
          obtain ⟨la, lc, rfl⟩ := hR.2.1.shape
          obtain ⟨ca, cc, rfl⟩ := hR.2.2.shape
          have hRow : wr.rangeAt b (off + k * 19) (insC i (.slice ta i.types.length tc) (.slice la i.labels.length lc) (.slice ca i.catches.length cc)) := fun r v hv => by
            rw [Nat.add_assoc, hc2 r (List.getElem?_eq_some_iff.1 hv).1]
            exact hv
          have hOne : ∀ v ∈ insC i (.slice ta i.types.length tc) (.slice la i.labels.length lc) (.slice ca i.catches.length cc), v.oneCell' = true := by simp [insC, Value.oneCell']
          have e : (is.take (k + 1)).flatMap pInstr = (is.take k).flatMap pInstr ++ pOp i.op ++ pRest i := by
            rw [List.take_add_one, hi]; simp [pInstr]
          have E := Lib.hid e
          clear e hi hc hnS hc2 hop
          go_wp2_with first | (refine st_load (ty := 44) rfl rfl rfl und_ins rfl ?_; (repeat (apply Exists.intro)); refine ⟨?_, ?_, ?_, ?_⟩; (· exact zsts2); (· (try simp only [World.size_alloc, World.size_setCell, size_drew, size_drewN]); apply RowAt.elem; exact hRow); (· exact size_ins)) | (refine st_store (ty := 44) rfl rfl rfl rfl ?_; (repeat (apply Exists.intro)); refine ⟨?_, ?_, ?_, ?_, ?_, ?_⟩; (· exact zsts2); (· (try simp only [World.size_alloc, World.size_setCell, size_drew, size_drewN]); (exact zpk1)); (· rfl); (· exact size_ins); (· exact hOne); intro wN hS; (try clear hQ); have hQ := St.facts hS; simp only [Facts, Res.fact, List.cons_append, List.nil_append, true_and, and_true] at hQ)
          have hbox : Loc _ wr.heap.size (insC i (.slice ta i.types.length tc) (.slice la i.labels.length lc) (.slice ca i.catches.length cc)) 44 := hS.loc (by exact zpk1)
          refine wp_region_held_drew (S := fun w' => w'.rangeAt wr.heap.size 0 (insC i (.slice ta i.types.length tc) (.slice la i.labels.length lc) (.slice ca i.catches.length cc))) (by kernel_rfl) (Loc.range (Loc.drew hbox)) (fun hr => ?_)
          have hS := hS.drew
          refine wpAnyH_take (i := 0) (v := u3) rfl (by kernel_rfl) (by kernel_rfl) (by kernel_rfl) (fun _ _ _ h => h) (Or.inl ⟨by rfl, fun _ _ => by go_simp⟩) hr ?_
          simp only [Act.put, List.setIfInBounds_toArray, List.set_cons_zero, List.set_cons_succ]
          refine wpAnyH_take (i := 1) (v := .pointer (some ⟨wr.heap.size, 0, none⟩)) rfl (by kernel_rfl) (by kernel_rfl) (by kernel_rfl) (fun _ _ _ h => h) (Or.inl ⟨by rfl, fun _ _ => by go_simp⟩) hr ?_
          simp only [Act.put, List.setIfInBounds_toArray, List.set_cons_zero, List.set_cons_succ]
          refine wpAnyH_take (i := 2) (v := .int .i64 i.op) rfl (by kernel_rfl) (by kernel_rfl) (by kernel_rfl) (fun _ _ _ h => h) (Or.inl ⟨by rfl, fun w' hw' => by
            have hc : w'.cell? ⟨wr.heap.size, 0, none⟩ = some (.int .i64 i.op) := hw' 0 _ rfl
            go_simp⟩) hr ?_
          simp only [Act.put, List.setIfInBounds_toArray, List.set_cons_zero, List.set_cons_succ]
          refine wpAnyH_take (i := 4) (v := .agg (List.toArray (insC i (.slice ta i.types.length tc) (.slice la i.labels.length lc) (.slice ca i.catches.length cc)))) rfl (by kernel_rfl) (by kernel_rfl) (by kernel_rfl) (fun _ _ _ h => h) (yieldsIf_load_mid rfl 44 _ rfl wr.heap.size 0 rfl (insC i (.slice ta i.types.length tc) (.slice la i.labels.length lc) (.slice ca i.catches.length cc)) _ (fun _ h => h) und_ins rfl size_ins) hr ?_
          simp only [Act.put, List.setIfInBounds_toArray, List.set_cons_zero, List.set_cons_succ]
          refine wpAnyH_ready (rs := [3]) (by kernel_rfl) (by simp) ?_; refine AllReadyH.cons rfl (fun K hK => ?_) AllReadyH.nil; rw [if_pos (by rfl)]; go_simp
          refine st_op ?_
          (repeat (apply Exists.intro))
          refine ⟨?_, ?_, ?_, ?_, ?_⟩
          · (exact zsts2)
          · (try simp only [World.size_alloc, World.size_setCell, size_drew, size_drewN]); (exact zpk1)
          · exact hop1
          · (exact zlen1)
          intro vN wN hS
          refine hK.out _ _ (by exact Loc.range (hS.loc (by exact zpk1))) (fun hr => ?_); clear hK K
          refine wpAnyH_ready (rs := [5]) (by kernel_rfl) (by simp) ?_; refine AllReadyH.cons rfl (fun K hK => ?_) AllReadyH.nil; rw [if_pos (by rfl)]; go_simp
          refine st_rest hg hR hmi hsi ?_
          (repeat (apply Exists.intro))
          refine ⟨?_, ?_, ?_, ?_⟩
          · (exact zsts2)
          · (try simp only [World.size_alloc, World.size_setCell, size_drew, size_drewN]); (exact zpk1)
          · (exact zlen1)
          intro vM wM hS
          refine hK.out _ _ (by exact Loc.range (hS.loc (by exact zpk1))) (fun hr => ?_); clear hK K
          refine wpAnyH_take (i := 6) (v := vM) rfl (by kernel_rfl) (by kernel_rfl) (by kernel_rfl) (fun _ _ _ h => h) (Or.inl ⟨by rfl, fun _ _ => by go_simp⟩) hr ?_
          refine wpAnyH_done (by kernel_rfl) ?_ _
          clear hr hbox
          simp only [Act.put, List.setIfInBounds_toArray, List.set_cons_zero, List.set_cons_succ]
          go_wp2
          go_roundw
          case rel =>
            refine ⟨k + 1, by go_num, by omega, ?_⟩
            rw [E.out]
            exact hS.sel (by exact zsub1)
          case measure => simp [intOf]; omega
        · obtain rfl : k = is.length := by omega
          rw [List.take_length] at hS lK
          go_wp2_with first | (at_builtin; refine st_app rfl rfl rfl rfl ?_; (repeat (apply Exists.intro)); refine ⟨?_, ?_, ?_, ?_, ?_⟩; (· exact zsts2); (· exact zdst1); (· exact zsrc1); (· exact zlen1); intro vN wN hS; (try clear hQ); have hQ := St.facts hS; simp only [Facts, Res.fact, List.cons_append, List.nil_append, true_and, and_true] at hQ)
          go_ret
          exact ⟨vN, rfl, hS.sel (by exact zsub1)⟩
end Go.Proofs.YtokneepfknepaaaGreatDoor

set_option linter.unusedSimpArgs false
set_option linter.unusedVariables false
namespace Go.Proofs.YtokneepfknepaaaGreatDoor
open Go.RowKit

structure RSt (S : List Nat) (w0 w : World) (rb : Nat) (bv : Value) (bs : List UInt8) (s : RdS) (G : List Res) : Prop where
  st : St [rb] w0 w G
  org : ∃ s0, Rd S w0 rb bv bs s0
  loc : Loc w rb (rdCells rb bv s) 87
  le : s.at_ ≤ bs.length
section
variable {S : List Nat} {w0 w w' : World} {rb : Nat} {bv : Value} {bs : List UInt8} {s s' : RdS} {G G' : List Res}
theorem RSt.rd (h : RSt S w0 w rb bv bs s G) : Rd S w rb bv bs s := by
  obtain ⟨s0, h0⟩ := h.org
  exact h0.step h.st.fr h.loc h.le
theorem RSt.start (h : Rd S w rb bv bs s) : RSt S w w rb bv bs s [] := ⟨St.start _ _, ⟨s, h⟩, h.loc, h.le⟩
theorem RSt.lt (h : RSt S w0 w rb bv bs s G) : rb < w0.heap.size := by
  obtain ⟨s0, h0⟩ := h.org
  exact h0.loc.lt
theorem RSt.step0 (h : RSt S w0 w rb bv bs s G) (hf : Fr [] w w') : RSt S w0 w' rb bv bs s G := ⟨h.st.step0 hf, h.org, h.loc.fr hf (by simp), h.le⟩
theorem RSt.call (h : RSt S w0 w rb bv bs s G) (hR : Rd S w' rb bv bs s') (hf : Fr [rb] w w') : RSt S w0 w' rb bv bs s' G :=
  ⟨h.st.step hf (fun b hb => ⟨hb, by simp at hb; subst hb; exact h.lt⟩), h.org, hR.loc, hR.le⟩
/-- What else is the call's own has changed. -/
theorem RSt.other (h : RSt S w0 w rb bv bs s G) {X : List Nat} (k : St [rb] w0 w' G') (hf : Fr X w w') (hx : rb ∉ X) : RSt S w0 w' rb bv bs s G' := ⟨k, h.org, h.loc.fr hf hx, h.le⟩
theorem RSt.alloc (h : RSt S w0 w rb bv bs s G) (cs : List Value) (T : TypeId) : RSt S w0 (w.alloc (.cells cs.toArray T)) rb bv bs s (.loc w.heap.size cs T :: G) :=
  h.other (X := []) (h.st.alloc cs T) ((Fr.refl _ _).alloc _) (by simp)
theorem RSt.drew (h : RSt S w0 w rb bv bs s G) : RSt S w0 w.drew rb bv bs s G := h.step0 ((Fr.refl _ _).drew)
theorem RSt.drewN (h : RSt S w0 w rb bv bs s G) (n : Nat) : RSt S w0 (w.drewN n) rb bv bs s G := h.step0 ((Fr.refl _ _).drewN n)
theorem RSt.away (h : RSt S w0 w rb bv bs s G) {b : Nat} {cs : List Value} {T : TypeId} (p : Pick G (.loc b cs T) G') : rb ∉ [b] := by
  have h1 := (h.st.pick p).new _ List.mem_cons_self b (by simp [Res.blk])
  have h2 := h.lt
  simp
  omega
theorem RSt.set (h : RSt S w0 w rb bv bs s G) {b : Nat} {cs : List Value} {T : TypeId} (p : Pick G (.loc b cs T) G') (i : Nat) (u : Value) : RSt S w0 (w.setCell ⟨b, i, none⟩ u) rb bv bs s (.loc b (cs.set i u) T :: G') :=
  h.other (h.st.set p i u) ((Fr.refl [b] w).setCell (p := ⟨b, i, none⟩) (by simp) u) (h.away p)
theorem RSt.setAll (h : RSt S w0 w rb bv bs s G) {b : Nat} {cs vs : List Value} {T : TypeId} (p : Pick G (.loc b cs T) G') (hl : vs.length = cs.length) : RSt S w0 (w.setCells b 0 vs) rb bv bs s (.loc b vs T :: G') :=
  h.other (h.st.setAll p hl) (Fr.setCells vs 0 w) (h.away p)
theorem RSt.gl7 (h : RSt S w0 w rb bv bs s G) (hg : Gl7 S w0) : Gl7 [] w := by
  obtain ⟨s0, h0⟩ := h.org
  refine (hg.fr (S' := [rb]) h.st.fr (fun b _ hb => ?_)).sub (by simp)
  simp at hb
  subst hb
  exact h0.mem
theorem RSt.gl7' (h : RSt S w0 w rb bv bs s G) (hg : Gl7 S w0) : Gl7 S w := by
  obtain ⟨s0, h0⟩ := h.org
  refine hg.fr (S' := [rb]) h.st.fr (fun b _ hb => ?_)
  simp at hb
  subst hb
  exact h0.mem
theorem RSt.fr (h : RSt S w0 w rb bv bs s G) : Fr [rb] w0 w := h.st.fr
variable {P : Program} {ops : Array Oper} {rest : List Oper} {o : Oper} {a : Act} {Q : Exit → Act → World → Prop}
theorem rst_store {ty : TypeId} {x y : Operand} {b : Nat} {vs : List Value} (hgd : o.guard = none) (ho : o.op = .store ty x y) (hx : a.eval x = .pointer (some ⟨b, 0, none⟩)) (hy : a.eval y = .agg vs.toArray)
    (h : ∃ S w0 rb bv bs s G G' cs T, RSt S w0 w rb bv bs s G ∧ Pick G (.loc b cs T) G' ∧ vs.length = cs.length ∧ (P.info? ty).map (·.size) = some vs.length ∧ (∀ v ∈ vs, v.oneCell' = true) ∧ ∀ w', RSt S w0 w' rb bv bs s (.loc b vs T :: G') → Fr [b] w w' → wpList P ops Q rest (a.put o.dst undef) w') : wpList P ops Q (o :: rest) a w := by
  obtain ⟨S, w0, rb, bv, bs, s, G, G', cs, T, hst, hp, hl, hi, h1, h⟩ := h
  refine wpList_store_mid hgd ty x y ho b 0 vs.toArray hx hy ?_ (by simpa using hi) (all_oneCell_toArray h1) ?_
  · have := (hst.st.loc hp).there
    simpa [hl] using this
  · simpa using h _ (hst.setAll hp hl) (Fr.setCells vs 0 w)
/-- A slice of the call's own, to be read behind it. -/
theorem RSt.sl (h : RSt S w0 w rb bv bs s G) {e : TypeId} {k n : Nat} {v : Value} {xs : List Value} (p : Pick G (.own e k v n xs) G') : Sl S w k v n xs := by
  have h1 := h.st.pick p
  have h3 : Own [] w e k v n xs := h1.head
  refine Own.sl h3 (S' := S) (fun b hb hm => ?_)
  obtain ⟨s0, h0⟩ := h.org
  have h2 := h1.new _ List.mem_cons_self b (by simpa [Res.blk] using hb)
  have h4 := h0.lt b hm
  omega
theorem rst_appT {s1 x : Operand} {v xv : Value} {t tx e e' : TypeId} {i : TypeInfo} {z : Value} {k bytes : Nat} (hgd : o.guard = none)
    (ho : o.op = .call { callee := .builtin .append, args := #[s1, x], argTypes := #[t, tx] }) (hs : a.eval s1 = v) (hx : a.eval x = xv)
    (ht : P.underlying t = some (.slice e)) (htx : P.underlying tx = some (.slice e')) (hi : P.info? e = some i) (hz : i.zero = some z) (hsize : i.size = k) (hby : i.bytes = bytes) (hzs : z.cells.size = k) (hk : 0 < k) {L : Nat} (hL : L * bytes ≤ 140737488355328) (hL2 : L ≤ 1099511627776)
    (h : ∃ S w0 rb bv bs s G G' n xs m news, RSt S w0 w rb bv bs s G ∧ DstT e k G v n xs G' ∧ SrcT e k G w xv m news ∧ n + m ≤ L ∧
      ∀ v' w', RSt S w0 w' rb bv bs s (.own e k v' (n + m) (xs ++ news) :: G') → wpList P ops Q rest (a.put o.dst v') w') :
    wpList P ops Q (o :: rest) a w := by
  obtain ⟨S, w0, rb, bv, bs, s, G, G', n, xs, m, news, hst, hp, hsrc, hb, h⟩ := h
  have hd := hst.st.dstT hp
  refine wpList_app hgd s1 x t tx ho e i z k bytes ht hi hz hsize hby hzs hk [] (by simp) v n xs hs hd.head xv m news hx (hsrc.src htx hst.st) ?_ (by unfold maxLen; omega) fun v' w' ho' hf hb' => h v' w' (hst.other (hd.app hf ho' hb') hf (fun hm => ?_))
  · exact Nat.le_trans (Nat.mul_le_mul_right _ hb) (Nat.le_trans hL (by decide))
  · have h1 := hd.new _ List.mem_cons_self rb (by simpa [Res.blk] using hm)
    have h2 := hst.lt
    omega
end
theorem und_ints : Tryz.prog.underlying 36 = some (.slice 3) := by kernel_rfl
theorem info_int : (Tryz.prog.info? 3).map (fun i => (i.zero, i.size, i.bytes)) = some (some (.int .i64 0), 1, 8) := by kernel_rfl
theorem und_catches : Tryz.prog.underlying 42 = some (.slice 67) := by kernel_rfl
theorem info_catch : (Tryz.prog.info? 67).map (fun i => (i.zero, i.size, i.bytes)) = some (some (.agg #[.int .i64 0, .int .i64 0, .int .i64 0]), 3, 24) := by kernel_rfl
theorem und_inss : Tryz.prog.underlying 22 = some (.slice 44) := by kernel_rfl
theorem info_ins : (Tryz.prog.info? 44).map (fun i => (i.zero, i.size, i.bytes)) = some (some (.agg (insC (InstrT.of 0) (.slice none 0 0) (.slice none 0 0) (.slice none 0 0)).toArray), 19, 192) := by kernel_rfl
theorem rapp_int {w : World} {ops : Array Oper} {rest : List Oper} {o : Oper} {a : Act} {Q : Exit → Act → World → Prop} {s1 x : Operand} {v xv : Value} (hgd : o.guard = none)
    (ho : o.op = .call { callee := .builtin .append, args := #[s1, x], argTypes := #[36, 36] }) (hs : a.eval s1 = v) (hx : a.eval x = xv)
    (h : ∃ S w0 rb bv bs s G G' n xs m news, RSt S w0 w rb bv bs s G ∧ DstT 3 1 G v n xs G' ∧ SrcT 3 1 G w xv m news ∧ n + m ≤ 1099511627776 ∧
      ∀ v' w', RSt S w0 w' rb bv bs s (.own 3 1 v' (n + m) (xs ++ news) :: G') → wpList Tryz.prog ops Q rest (a.put o.dst v') w') :
    wpList Tryz.prog ops Q (o :: rest) a w := by
  obtain ⟨i0, hi, hz0, hz1, hz2⟩ := info_parts info_int
  exact rst_appT hgd ho hs hx und_ints und_ints hi hz0 hz1 hz2 rfl (by decide) (L := 1099511627776) (by decide) (by decide) h
theorem rapp_catch {w : World} {ops : Array Oper} {rest : List Oper} {o : Oper} {a : Act} {Q : Exit → Act → World → Prop} {s1 x : Operand} {v xv : Value} (hgd : o.guard = none)
    (ho : o.op = .call { callee := .builtin .append, args := #[s1, x], argTypes := #[42, 42] }) (hs : a.eval s1 = v) (hx : a.eval x = xv)
    (h : ∃ S w0 rb bv bs s G G' n xs m news, RSt S w0 w rb bv bs s G ∧ DstT 67 3 G v n xs G' ∧ SrcT 67 3 G w xv m news ∧ n + m ≤ 1099511627776 ∧
      ∀ v' w', RSt S w0 w' rb bv bs s (.own 67 3 v' (n + m) (xs ++ news) :: G') → wpList Tryz.prog ops Q rest (a.put o.dst v') w') :
    wpList Tryz.prog ops Q (o :: rest) a w := by
  obtain ⟨i0, hi, hz0, hz1, hz2⟩ := info_parts info_catch
  exact rst_appT hgd ho hs hx und_catches und_catches hi hz0 hz1 hz2 rfl (by decide) (L := 1099511627776) (by decide) (by decide) h
theorem rapp_ins {w : World} {ops : Array Oper} {rest : List Oper} {o : Oper} {a : Act} {Q : Exit → Act → World → Prop} {s1 x : Operand} {v xv : Value} (hgd : o.guard = none)
    (ho : o.op = .call { callee := .builtin .append, args := #[s1, x], argTypes := #[22, 22] }) (hs : a.eval s1 = v) (hx : a.eval x = xv)
    (h : ∃ S w0 rb bv bs s G G' n xs m news, RSt S w0 w rb bv bs s G ∧ DstT 44 19 G v n xs G' ∧ SrcT 44 19 G w xv m news ∧ n + m ≤ 549755813888 ∧
      ∀ v' w', RSt S w0 w' rb bv bs s (.own 44 19 v' (n + m) (xs ++ news) :: G') → wpList Tryz.prog ops Q rest (a.put o.dst v') w') :
    wpList Tryz.prog ops Q (o :: rest) a w := by
  obtain ⟨i0, hi, hz0, hz1, hz2⟩ := info_parts info_ins
  exact rst_appT hgd ho hs hx und_inss und_inss hi hz0 hz1 hz2 rfl (by decide) (L := 549755813888) (by decide) (by decide) h
/-- The call's result is a struct of its own. -/
theorem rst_ret {P : Program} {w : World} {fn : Func} {R : Ending → World → Prop} {a : Act} {p : Tmp} {ty : TypeId} {d : TypeDesc} {g : Nat} (h : fn.results = #[.cell p ty]) (hp : a.tmps.getD p undef = .pointer (some ⟨g, 0, none⟩))
    (hu : P.underlying ty = some d) (hd : (match d with | .struct _ | .array _ _ => true | _ => false) = true) (hdf : a.defers = []) 
    (hx : ∃ S w0 rb bv bs s G G' T cs, RSt S w0 w rb bv bs s G ∧ Pick G (.loc g cs T) G' ∧ (P.info? ty).map (·.size) = some cs.length ∧ R (.returned (.agg cs.toArray)) w) :
    bodyPost P fn R .ret a w := by
  obtain ⟨S, w0, rb, bv, bs, s, G, G', T, cs, hst, pk, hi, hR⟩ := hx
  exact ret_cell h hp (hst.st.loc pk) hu hd hi hdf hR
/-- Another reader, opened in between. -/
theorem RSt.alone {S : List Nat} {w0 w w1 w2 : World} {rb : Nat} {bv : Value} {bs : List UInt8} {s : RdS} {G : List Res} (h1 : RSt S w0 w rb bv bs s G) {ra : Nat} (hF : Fr [] w w1) (hn : w.heap.size ≤ ra) (hF2 : Fr [ra] w1 w2) : RSt S w0 w2 rb bv bs s G := by
  have h3 := h1.step0 hF
  refine ⟨⟨h3.st.fr.then hF2 (fun b hb => ?_), fun r hr => Res.on_fr hF2 (h3.st.all r hr) (fun b hb hm => ?_), h3.st.new, h3.st.apart⟩, h3.org, h3.loc.fr hF2 ?_, h3.le⟩
  · simp at hb
    subst hb
    have := h1.st.fr.size
    exact .inr (by omega)
  · simp at hm
    subst hm
    have := h1.st.lt hr hb
    omega
  · have h4 := h1.loc.lt
    simp
    omega
/-- The blocks of a list of things are apart. -/
def Apart1 (b : Nat) : List Res → Prop
  | [] => True
  | .loc c _ _ :: G => (b ≠ c ∧ c ≠ b) ∧ Apart1 b G
  | .own .. :: G => Apart1 b G
def Aparts : List Res → Prop
  | [] => True
  | .loc b _ _ :: G => Apart1 b G ∧ Aparts G
  | .own .. :: G => Aparts G
theorem apart1 {b : Nat} : ∀ {G : List Res}, (∀ s, s ∈ G → b ∉ s.blk) → Apart1 b G
  | [], _ => trivial
  | .loc c cs T :: G, h => by
    have h1 := h (.loc c cs T) List.mem_cons_self
    simp only [Res.blk, List.mem_singleton] at h1
    exact ⟨⟨h1, fun e => h1 e.symm⟩, apart1 fun s hs => h s (List.mem_cons_of_mem _ hs)⟩
  | .own .. :: G, h => apart1 (G := G) fun s hs => h s (List.mem_cons_of_mem _ hs)
theorem aparts : ∀ {G : List Res}, G.Pairwise (fun r s => ∀ b, b ∈ r.blk → b ∉ s.blk) → Aparts G
  | [], _ => trivial
  | .loc b cs T :: G, h => by
    have h1 := List.pairwise_cons.1 h
    exact ⟨apart1 fun s hs => h1.1 s hs b (by simp [Res.blk]), aparts h1.2⟩
  | .own .. :: G, h => aparts (G := G) (List.pairwise_cons.1 h).2
theorem RSt.nil {S : List Nat} {w0 w : World} {rb : Nat} {bv : Value} {bs : List UInt8} {s : RdS} {G : List Res} (h : RSt S w0 w rb bv bs s G) (e : TypeId) (k c : Nat) (hc : c = 0 := by rfl) : RSt S w0 w rb bv bs s (.own e k (.slice none 0 c) 0 [] :: G) := by
  subst hc
  exact ⟨h.st.put (Own.nil _ _ _ _) (fun b hb => by cases hb) (fun b hb => by cases hb), h.org, h.loc, h.le⟩
theorem RSt.sel {S : List Nat} {w0 w : World} {rb : Nat} {bv : Value} {bs : List UInt8} {s : RdS} {G G' : List Res} (h : RSt S w0 w rb bv bs s G) (p : Sel G G') : RSt S w0 w rb bv bs s G' := ⟨h.st.sel p, h.org, h.loc, h.le⟩
theorem RSt.only {S : List Nat} {w0 w : World} {rb : Nat} {bv : Value} {bs : List UInt8} {s : RdS} {r : Res} {G : List Res} (h : RSt S w0 w rb bv bs s (r :: G)) : RSt S w0 w rb bv bs s [r] := h.sel (.cons .here .nil)
/-- What a call brings that has memory of its own. -/
theorem RSt.join {S : List Nat} {w0 w w' : World} {rb : Nat} {bv : Value} {bs : List UInt8} {s s' : RdS} {G D : List Res} (h : RSt S w0 w rb bv bs s G) (k : RSt S w w' rb bv bs s' D) : RSt S w0 w' rb bv bs s' (D ++ G) :=
  ⟨h.st.call k.st (fun b hb => ⟨hb, by simp at hb; subst hb; exact h.lt⟩), h.org, k.loc, k.le⟩
theorem rst_use {P : Program} {f : FuncId} {args : Array Value} {w : World} {Q : Ending → World → Prop} (h : ∃ S w0 rb bv bs s G, RSt S w0 w rb bv bs s G ∧ (RSt S w0 w rb bv bs s G → Calls P f args w Q)) : Calls P f args w Q := by
  obtain ⟨S, w0, rb, bv, bs, s, G, h1, h2⟩ := h
  exact h2 h1
theorem RSt.pick {S : List Nat} {w0 w : World} {rb : Nat} {bv : Value} {bs : List UInt8} {s : RdS} {G G' : List Res} (h : RSt S w0 w rb bv bs s G) {r : Res} (p : Pick G r G') : RSt S w0 w rb bv bs s (r :: G') := ⟨h.st.pick p, h.org, h.loc, h.le⟩
theorem RSt.slM {S : List Nat} {w0 w : World} {rb : Nat} {bv : Value} {bs : List UInt8} {s : RdS} {G : List Res} (h : RSt S w0 w rb bv bs s G) {e : TypeId} {k n : Nat} {v : Value} {xs : List Value} (p : Res.own e k v n xs ∈ G) : Sl S w k v n xs := by
  have h3 : Own [] w e k v n xs := h.st.all _ p
  refine Own.sl h3 (S' := S) (fun b hb hm => ?_)
  obtain ⟨s0, h0⟩ := h.org
  have h2 := h.st.new _ p b (by simpa [Res.blk] using hb)
  have h4 := h0.lt b hm
  omega
def atOf (w : World) (rb : Nat) : Nat := match w.cell? ⟨rb, 0, none⟩ with
  | some (.int _ n) => n.toNat
  | _ => 0
theorem RSt.atOf {S : List Nat} {w0 w : World} {rb : Nat} {bv : Value} {bs : List UInt8} {s : RdS} {G : List Res} (h : RSt S w0 w rb bv bs s G) : atOf w rb = s.at_ := by
  unfold Go.Proofs.YtokneepfknepaaaGreatDoor.atOf
  rw [h.loc.cell 0]
  simp [rdCells]
theorem und_block : Tryz.prog.underlying 41 = some ((Tryz.prog.underlying 41).get (by kernel_rfl)) := by kernel_rfl
theorem size_block : (Tryz.prog.info? 41).map (·.size) = some 6 := by kernel_rfl
theorem und_catch : Tryz.prog.underlying 67 = some ((Tryz.prog.underlying 67).get (by kernel_rfl)) := by kernel_rfl
theorem size_catch : (Tryz.prog.info? 67).map (·.size) = some 3 := by kernel_rfl
end Go.Proofs.YtokneepfknepaaaGreatDoor

set_option linter.unusedSimpArgs false
set_option linter.unusedVariables false
namespace Go.Proofs.YtokneepfknepaaaGreatDoor
open Go.RowKit

set_option maxRecDepth 100000 in set_option maxHeartbeats 1600000 in
theorem ib_failed {S : List Nat} {w : World} {rb : Nat} {bv : Value} {bs : List UInt8} {s : RdS} (h : Rd S w rb bv bs s) : Calls Tryz.prog 45 #[.pointer (some ⟨rb, 0, none⟩)] w fun e w' => e = .returned (.bool (s.err != 0)) ∧ Rd S w' rb bv bs s ∧ Fr [rb] w w' := by
  go_enter Tryz.func45, Tryz.ntmps45
  go_wp2_with (go_at_call 18; refine (rd_err h).mono ?_; rintro e w' ⟨rfl, n, rfl⟩)
  go_ret
  exact ⟨rfl, h.drewN _, by repeat (first | (with_reducible exact Fr.refl _ _) | (with_reducible assumption) | (with_reducible apply Fr.alloc) | (with_reducible apply Fr.drew) | (with_reducible apply Fr.drewN) | (with_reducible refine Fr.setCell ?_ (by first | (left; simp; done) | (right; simp; done) | (right; simp; omega)) _))⟩
set_option maxRecDepth 100000 in set_option maxHeartbeats 1600000 in
theorem ib_num {S : List Nat} {w : World} {rb : Nat} {bv : Value} {bs : List UInt8} {s : RdS} (h : Rd S w rb bv bs s) : Calls Tryz.prog 75 #[.pointer (some ⟨rb, 0, none⟩)] w fun e w' => e = .returned (.int .i64 (rNum bs s).1) ∧ Rd S w' rb bv bs (rNum bs s).2 ∧ Fr [rb] w w' := by
  have hlt := rU32_lt bs s
  have hS := RSt.start h
  go_enter Tryz.func75, Tryz.ntmps75
  go_wp2_with (go_at_call 98; refine rst_use ?_; (repeat (apply Exists.intro)); refine ⟨?_, ?_⟩; (· exact zrts1); (try simp only [World.size_alloc, World.size_setCell, size_drew, size_drewN]); intro hT; refine (rd_u hT.rd 32 (by decide) (by decide)).mono ?_; rintro e w1 ⟨rfl, hR1, hF1⟩; have hS := hT.call hR1 hF1; clear hT hR1 hF1; (try clear hQ); have hQ := St.facts hS.st; (try simp only [Facts, Res.fact, List.cons_append, List.nil_append, true_and, and_true] at hQ); (try clear hN); have hN := aparts hS.st.apart; (try simp only [Aparts, Apart1, List.cons_append, List.nil_append, true_and, and_true] at hN))
  go_ret
  exact ⟨by simp [rNum, go_sem, *], by (first | (with_reducible exact hS.rd) | (apply RSt.rd; (exact zrts1); done) | exact hS.rd), by (first | (with_reducible exact hS.fr) | (apply RSt.fr; (exact zrts1); done) | exact hS.fr)⟩
set_option maxRecDepth 100000 in set_option maxHeartbeats 1600000 in
theorem ib_choice {S : List Nat} {w : World} {rb : Nat} {bv : Value} {bs : List UInt8} {s : RdS} (h : Rd S w rb bv bs s) : Calls Tryz.prog 84 #[.pointer (some ⟨rb, 0, none⟩), .int .u8 3] w fun e w' => e = .returned (.int .u8 (rChoice bs 3 s).1) ∧ Rd S w' rb bv bs (rChoice bs 3 s).2 ∧ Fr [rb] w w' := by
  have hS := RSt.start h
  have e0 : rChoice bs 3 s = ((rByte bs s).1, if 3 < (rByte bs s).1 then (rByte bs s).2.fail 60 s.at_ else (rByte bs s).2) := rfl
  by_cases hm : 3 < (rByte bs s).1
  · rw [e0, if_pos hm]
    clear e0
    have hm' : (3 : Int) < ((rByte bs s).1 : Nat) := by omega
    clear hm
    go_enter Tryz.func84, Tryz.ntmps84
    go_wp2_with first | (go_at_call 43; refine rst_use ?_; (repeat (apply Exists.intro)); refine ⟨?_, ?_⟩; (· exact zrts1); (try simp only [World.size_alloc, World.size_setCell, size_drew, size_drewN]); intro hT; refine (rd_at hT.rd).mono ?_; rintro e w1 ⟨rfl, rfl⟩; clear hT) | (go_at_call 97; refine rst_use ?_; (repeat (apply Exists.intro)); refine ⟨?_, ?_⟩; (· exact zrts1); (try simp only [World.size_alloc, World.size_setCell, size_drew, size_drewN]); intro hT; refine (rd_byte hT.rd).mono ?_; rintro e w1 ⟨rfl, hR1, hF1⟩; have hS := hT.call hR1 hF1; clear hT hR1 hF1; (try clear hQ); have hQ := St.facts hS.st; (try simp only [Facts, Res.fact, List.cons_append, List.nil_append, true_and, and_true] at hQ); (try clear hN); have hN := aparts hS.st.apart; (try simp only [Aparts, Apart1, List.cons_append, List.nil_append, true_and, and_true] at hN)) | (go_at_call 46; refine rst_use ?_; (repeat (apply Exists.intro)); refine ⟨?_, ?_⟩; (· exact zrts1); (try simp only [World.size_alloc, World.size_setCell, size_drew, size_drewN]); intro hT; refine (rd_fail hT.rd _ _).mono ?_; rintro e w1 ⟨rfl, hR1, hF1⟩; have hS := hT.call hR1 hF1; clear hT hR1 hF1; (try clear hQ); have hQ := St.facts hS.st; (try simp only [Facts, Res.fact, List.cons_append, List.nil_append, true_and, and_true] at hQ); (try clear hN); have hN := aparts hS.st.apart; (try simp only [Aparts, Apart1, List.cons_append, List.nil_append, true_and, and_true] at hN))
    go_ret
    exact ⟨rfl, by (first | (with_reducible exact hS.rd) | (apply RSt.rd; (exact zrts1); done) | exact hS.rd), by (first | (with_reducible exact hS.fr) | (apply RSt.fr; (exact zrts1); done) | exact hS.fr)⟩
  · rw [e0, if_neg hm]
    clear e0
    have hm' : ¬ (3 : Int) < ((rByte bs s).1 : Nat) := by omega
    clear hm
    go_enter Tryz.func84, Tryz.ntmps84
    go_wp2_with first | (go_at_call 43; refine rst_use ?_; (repeat (apply Exists.intro)); refine ⟨?_, ?_⟩; (· exact zrts1); (try simp only [World.size_alloc, World.size_setCell, size_drew, size_drewN]); intro hT; refine (rd_at hT.rd).mono ?_; rintro e w1 ⟨rfl, rfl⟩; clear hT) | (go_at_call 97; refine rst_use ?_; (repeat (apply Exists.intro)); refine ⟨?_, ?_⟩; (· exact zrts1); (try simp only [World.size_alloc, World.size_setCell, size_drew, size_drewN]); intro hT; refine (rd_byte hT.rd).mono ?_; rintro e w1 ⟨rfl, hR1, hF1⟩; have hS := hT.call hR1 hF1; clear hT hR1 hF1; (try clear hQ); have hQ := St.facts hS.st; (try simp only [Facts, Res.fact, List.cons_append, List.nil_append, true_and, and_true] at hQ); (try clear hN); have hN := aparts hS.st.apart; (try simp only [Aparts, Apart1, List.cons_append, List.nil_append, true_and, and_true] at hN)) | (go_at_call 46; refine rst_use ?_; (repeat (apply Exists.intro)); refine ⟨?_, ?_⟩; (· exact zrts1); (try simp only [World.size_alloc, World.size_setCell, size_drew, size_drewN]); intro hT; refine (rd_fail hT.rd _ _).mono ?_; rintro e w1 ⟨rfl, hR1, hF1⟩; have hS := hT.call hR1 hF1; clear hT hR1 hF1; (try clear hQ); have hQ := St.facts hS.st; (try simp only [Facts, Res.fact, List.cons_append, List.nil_append, true_and, and_true] at hQ); (try clear hN); have hN := aparts hS.st.apart; (try simp only [Aparts, Apart1, List.cons_append, List.nil_append, true_and, and_true] at hN))
    go_ret
    exact ⟨rfl, by (first | (with_reducible exact hS.rd) | (apply RSt.rd; (exact zrts1); done) | exact hS.rd), by (first | (with_reducible exact hS.fr) | (apply RSt.fr; (exact zrts1); done) | exact hS.fr)⟩

def catchV (c : CatchT) : Value := .agg #[.int .i64 c.kind, .int .i64 c.tag, .int .i64 c.label]
attribute [go_sem] catchV
set_option maxRecDepth 100000 in set_option maxHeartbeats 1600000 in
theorem ib_catch {S : List Nat} {w : World} {rb : Nat} {bv : Value} {bs : List UInt8} {s : RdS} (h : Rd S w rb bv bs s) : Calls Tryz.prog 83 #[.pointer (some ⟨rb, 0, none⟩)] w fun e w' => e = .returned (catchV (rCatch bs s).1) ∧ Rd S w' rb bv bs (rCatch bs s).2 ∧ Fr [rb] w w' := by
  have hS := RSt.start h
  have hb : (rChoice bs 3 s).1 < 256 := rByte_lt bs s
  have hw := IntWalk.wrap64_in (((rChoice bs 3 s).1 : Nat) : Int) (by omega)
  clear hb
  by_cases hm : (rChoice bs 3 s).1 < 2
  · have e0 : rCatch bs s = (⟨(rChoice bs 3 s).1, (rNum bs (rChoice bs 3 s).2).1, (rNum bs (rNum bs (rChoice bs 3 s).2).2).1⟩, (rNum bs (rNum bs (rChoice bs 3 s).2).2).2) := by
      unfold rCatch rCatchT
      rw [if_pos hm]
    rw [e0]
    clear e0
    have hm' : (((rChoice bs 3 s).1 : Nat) : Int) < 2 := by omega
    clear hm
    go_enter Tryz.func83, Tryz.ntmps83
    go_wp2_with first | (go_at_call 84; refine rst_use ?_; (repeat (apply Exists.intro)); refine ⟨?_, ?_⟩; (· exact zrts1); (try simp only [World.size_alloc, World.size_setCell, size_drew, size_drewN]); intro hT; refine (ib_choice hT.rd).mono ?_; rintro e w1 ⟨rfl, hR1, hF1⟩; have hS := hT.call hR1 hF1; clear hT hR1 hF1; (try clear hQ); have hQ := St.facts hS.st; (try simp only [Facts, Res.fact, List.cons_append, List.nil_append, true_and, and_true] at hQ); (try clear hN); have hN := aparts hS.st.apart; (try simp only [Aparts, Apart1, List.cons_append, List.nil_append, true_and, and_true] at hN)) | (go_at_call 75; refine rst_use ?_; (repeat (apply Exists.intro)); refine ⟨?_, ?_⟩; (· exact zrts1); (try simp only [World.size_alloc, World.size_setCell, size_drew, size_drewN]); intro hT; refine (ib_num hT.rd).mono ?_; rintro e w1 ⟨rfl, hR1, hF1⟩; have hS := hT.call hR1 hF1; clear hT hR1 hF1; (try clear hQ); have hQ := St.facts hS.st; (try simp only [Facts, Res.fact, List.cons_append, List.nil_append, true_and, and_true] at hQ); (try clear hN); have hN := aparts hS.st.apart; (try simp only [Aparts, Apart1, List.cons_append, List.nil_append, true_and, and_true] at hN))
    refine rst_ret rfl rfl und_catch rfl rfl ?_; (repeat (apply Exists.intro)); refine ⟨?_, ?_, ?_, ?_⟩; (· exact zrts1); (· (try simp only [World.size_alloc, World.size_setCell, size_drew, size_drewN]); (exact zpk2)); (· exact size_catch)
    exact ⟨rfl, by (first | (with_reducible exact hS.rd) | (apply RSt.rd; (exact zrts1); done) | exact hS.rd), by (first | (with_reducible exact hS.fr) | (apply RSt.fr; (exact zrts1); done) | exact hS.fr)⟩
  · have e0 : rCatch bs s = (⟨(rChoice bs 3 s).1, 0, (rNum bs (rChoice bs 3 s).2).1⟩, (rNum bs (rChoice bs 3 s).2).2) := by
      unfold rCatch rCatchT
      rw [if_neg hm]
    rw [e0]
    clear e0
    have hm' : ¬ (((rChoice bs 3 s).1 : Nat) : Int) < 2 := by omega
    clear hm
    go_enter Tryz.func83, Tryz.ntmps83
    go_wp2_with first | (go_at_call 84; refine rst_use ?_; (repeat (apply Exists.intro)); refine ⟨?_, ?_⟩; (· exact zrts1); (try simp only [World.size_alloc, World.size_setCell, size_drew, size_drewN]); intro hT; refine (ib_choice hT.rd).mono ?_; rintro e w1 ⟨rfl, hR1, hF1⟩; have hS := hT.call hR1 hF1; clear hT hR1 hF1; (try clear hQ); have hQ := St.facts hS.st; (try simp only [Facts, Res.fact, List.cons_append, List.nil_append, true_and, and_true] at hQ); (try clear hN); have hN := aparts hS.st.apart; (try simp only [Aparts, Apart1, List.cons_append, List.nil_append, true_and, and_true] at hN)) | (go_at_call 75; refine rst_use ?_; (repeat (apply Exists.intro)); refine ⟨?_, ?_⟩; (· exact zrts1); (try simp only [World.size_alloc, World.size_setCell, size_drew, size_drewN]); intro hT; refine (ib_num hT.rd).mono ?_; rintro e w1 ⟨rfl, hR1, hF1⟩; have hS := hT.call hR1 hF1; clear hT hR1 hF1; (try clear hQ); have hQ := St.facts hS.st; (try simp only [Facts, Res.fact, List.cons_append, List.nil_append, true_and, and_true] at hQ); (try clear hN); have hN := aparts hS.st.apart; (try simp only [Aparts, Apart1, List.cons_append, List.nil_append, true_and, and_true] at hN))
    refine rst_ret rfl rfl und_catch rfl rfl ?_; (repeat (apply Exists.intro)); refine ⟨?_, ?_, ?_, ?_⟩; (· exact zrts1); (· (try simp only [World.size_alloc, World.size_setCell, size_drew, size_drewN]); (exact zpk2)); (· exact size_catch)
    exact ⟨rfl, by (first | (with_reducible exact hS.rd) | (apply RSt.rd; (exact zrts1); done) | exact hS.rd), by (first | (with_reducible exact hS.fr) | (apply RSt.fr; (exact zrts1); done) | exact hS.fr)⟩


set_option maxRecDepth 100000 in set_option maxHeartbeats 1600000 in
theorem ilist_int {S : List Nat} {w : World} {rb : Nat} {bv : Value} {bs : List UInt8} {s : RdS} (h : Rd S w rb bv bs s) :
    Calls Tryz.prog 76 #[.pointer (some ⟨rb, 0, none⟩), .func (.func 75) #[] #[]] w fun e w' =>
      ∃ v, e = .returned v ∧ RSt S w w' rb bv bs (rListN bs (rNum bs) s).2 [.own 3 1 v (rListN bs (rNum bs) s).1.length ((rListN bs (rNum bs) s).1.flatMap intC)] := by
  have hS := RSt.start h
  have hsm := h.small
  have hCnt := rCount_le bs s
  have hl : rListN bs (rNum bs) s = rMany (rNum bs) (rCount bs s).1 (rCount bs s).2 := rfl
  rw [hl]
  clear hl
  go_enter Tryz.func76, Tryz.ntmps76
  go_wp2_with (go_at_call 100; refine rst_use ?_; (repeat (apply Exists.intro)); refine ⟨?_, ?_⟩; (· exact zrts1); (try simp only [World.size_alloc, World.size_setCell, size_drew, size_drewN]); intro hT; refine (rd_count hT.rd).mono ?_; rintro e w1 ⟨rfl, hR1, hF1⟩; have hS := hT.call hR1 hF1; clear hT hR1 hF1; (try clear hQ); have hQ := St.facts hS.st; (try simp only [Facts, Res.fact, List.cons_append, List.nil_append, true_and, and_true] at hQ); (try clear hN); have hN := aparts hS.st.apart; (try simp only [Aparts, Apart1, List.cons_append, List.nil_append, true_and, and_true] at hN))
  go_loopw [5, 6] (fun v n wr => ∃ (k : Nat) (xs : List Int) (t : RdS), n = .int .i64 k ∧ RSt S w wr rb bv bs t [.own 3 1 v xs.length (xs.flatMap intC)] ∧ k + xs.length = (rCount bs s).1 ∧ Hid (rMany (rNum bs) (rCount bs s).1 (rCount bs s).2 = (xs ++ (rMany (rNum bs) k t).1, (rMany (rNum bs) k t).2))) (fun _ n _ => (intOf n).toNat)
  case atStart => exact ⟨(rCount bs s).1, [], _, rfl, hS.nil _ _ _, by simp, Lib.hid rfl⟩
  case round =>
    obtain ⟨k, xs, t, rfl, hS, hks, hg⟩ := hrel
    have Hks := Lib.hid hks
    have hbnd : xs.length + 1 ≤ 1099511627776 ∨ k = 0 := by omega
    clear hks
    have hexit : (k = 0 ∨ t.err ≠ 0) → rMany (rNum bs) (rCount bs s).1 (rCount bs s).2 = (xs, t) := by
      intro hh
      rw [hg.out]
      cases k with
      | zero => simp [rMany]
      | succ k => simp [rMany, hh.resolve_left (by omega)]
    by_cases hk : k = 0
    · have hE := Lib.hid (hexit (.inl hk))
      subst hk
      clear hexit hbnd
      go_wp2
      go_ret
      refine ⟨_, rfl, ?_⟩
      rw [hE.out]
      exact hS
    · have hkp : 0 < k := by omega
      by_cases he : t.err = 0
      · have g1 : (t.err != 0) = false := by simp [he]
        have hx : rMany (rNum bs) k t = (((rNum bs) t).1 :: (rMany (rNum bs) (k - 1) ((rNum bs) t).2).1, (rMany (rNum bs) (k - 1) ((rNum bs) t).2).2) := by
          obtain ⟨j, rfl⟩ : ∃ j, k = j + 1 := ⟨k - 1, by omega⟩
          simp [rMany, he]
        have HX := Lib.hid hx
        have hb2 : xs.length + 1 ≤ 1099511627776 := by omega
        have hk40 : k ≤ 1099511627776 := by have := Hks.out; omega
        clear hx he hexit hbnd
        go_wp2_with first | (go_at_call 45; refine rst_use ?_; (repeat (apply Exists.intro)); refine ⟨?_, ?_⟩; (· exact zrts1); (try simp only [World.size_alloc, World.size_setCell, size_drew, size_drewN]); intro hT; refine (ib_failed hT.rd).mono ?_; rintro e w1 ⟨rfl, hR1, hF1⟩; have hS := hT.call hR1 hF1; clear hT hR1 hF1; (try clear hQ); have hQ := St.facts hS.st; (try simp only [Facts, Res.fact, List.cons_append, List.nil_append, true_and, and_true] at hQ); (try clear hN); have hN := aparts hS.st.apart; (try simp only [Aparts, Apart1, List.cons_append, List.nil_append, true_and, and_true] at hN)) | (go_at_call 75; refine rst_use ?_; (repeat (apply Exists.intro)); refine ⟨?_, ?_⟩; (· exact zrts1); (try simp only [World.size_alloc, World.size_setCell, size_drew, size_drewN]); intro hT; refine (ib_num hT.rd).mono ?_; rintro e w1 ⟨rfl, hR1, hF1⟩; have hS := hT.call hR1 hF1; clear hT hR1 hF1; (try clear hQ); have hQ := St.facts hS.st; (try simp only [Facts, Res.fact, List.cons_append, List.nil_append, true_and, and_true] at hQ); (try clear hN); have hN := aparts hS.st.apart; (try simp only [Aparts, Apart1, List.cons_append, List.nil_append, true_and, and_true] at hN)) | (at_builtin; refine rapp_int rfl rfl rfl rfl ?_; (repeat (apply Exists.intro)); refine ⟨?_, ?_, ?_, ?_, ?_⟩; (· exact zrts1); (· (try simp only [World.size_alloc, World.size_setCell, size_drew, size_drewN]); apply DstT.own; (exact zpk2)); (· (try simp only [World.size_alloc, World.size_setCell, size_drew, size_drewN]); apply SrcT.lit; (· exact zpk2); (· rfl); (· simp [Value.oneCell'])); (· omega); intro vN wN hS; (try clear hQ); have hQ := St.facts hS.st; (try simp only [Facts, Res.fact, List.cons_append, List.nil_append, true_and, and_true] at hQ); (try clear hN); have hN := aparts hS.st.apart; (try simp only [Aparts, Apart1, List.cons_append, List.nil_append, true_and, and_true] at hN))
        go_roundw
        case rel =>
          refine ⟨k - 1, xs ++ [((rNum bs) t).1], ((rNum bs) t).2, by go_num, ?_, by have := Hks.out; simp; omega, Lib.hid ?_⟩
          · have e1 : (xs ++ [((rNum bs) t).1]).length = xs.length + 1 := by simp
            have e2 : (xs ++ [((rNum bs) t).1]).flatMap intC = xs.flatMap intC ++ intC ((rNum bs) t).1 := by simp
            rw [e1, e2]
            exact hS.only
          · rw [hg.out, HX.out]; simp
        case measure => simp [intOf]; omega
      · have g1 : (t.err != 0) = true := by simp [he]
        have hE := Lib.hid (hexit (.inr he))
        clear hexit hbnd
        go_wp2_with first | (go_at_call 45; refine rst_use ?_; (repeat (apply Exists.intro)); refine ⟨?_, ?_⟩; (· exact zrts1); (try simp only [World.size_alloc, World.size_setCell, size_drew, size_drewN]); intro hT; refine (ib_failed hT.rd).mono ?_; rintro e w1 ⟨rfl, hR1, hF1⟩; have hS := hT.call hR1 hF1; clear hT hR1 hF1; (try clear hQ); have hQ := St.facts hS.st; (try simp only [Facts, Res.fact, List.cons_append, List.nil_append, true_and, and_true] at hQ); (try clear hN); have hN := aparts hS.st.apart; (try simp only [Aparts, Apart1, List.cons_append, List.nil_append, true_and, and_true] at hN))
        go_ret
        refine ⟨_, rfl, ?_⟩
        rw [hE.out]
        exact hS

set_option maxRecDepth 100000 in set_option maxHeartbeats 1600000 in
theorem ilist_catch {S : List Nat} {w : World} {rb : Nat} {bv : Value} {bs : List UInt8} {s : RdS} (h : Rd S w rb bv bs s) :
    Calls Tryz.prog 82 #[.pointer (some ⟨rb, 0, none⟩), .func (.func 83) #[] #[]] w fun e w' =>
      ∃ v, e = .returned v ∧ RSt S w w' rb bv bs (rListN bs (rCatch bs) s).2 [.own 67 3 v (rListN bs (rCatch bs) s).1.length ((rListN bs (rCatch bs) s).1.flatMap catchC)] := by
  have hS := RSt.start h
  have hsm := h.small
  have hCnt := rCount_le bs s
  have hl : rListN bs (rCatch bs) s = rMany (rCatch bs) (rCount bs s).1 (rCount bs s).2 := rfl
  rw [hl]
  clear hl
  go_enter Tryz.func82, Tryz.ntmps82
  go_wp2_with (go_at_call 100; refine rst_use ?_; (repeat (apply Exists.intro)); refine ⟨?_, ?_⟩; (· exact zrts1); (try simp only [World.size_alloc, World.size_setCell, size_drew, size_drewN]); intro hT; refine (rd_count hT.rd).mono ?_; rintro e w1 ⟨rfl, hR1, hF1⟩; have hS := hT.call hR1 hF1; clear hT hR1 hF1; (try clear hQ); have hQ := St.facts hS.st; (try simp only [Facts, Res.fact, List.cons_append, List.nil_append, true_and, and_true] at hQ); (try clear hN); have hN := aparts hS.st.apart; (try simp only [Aparts, Apart1, List.cons_append, List.nil_append, true_and, and_true] at hN))
  go_loopw [5, 6] (fun v n wr => ∃ (k : Nat) (xs : List CatchT) (t : RdS), n = .int .i64 k ∧ RSt S w wr rb bv bs t [.own 67 3 v xs.length (xs.flatMap catchC)] ∧ k + xs.length = (rCount bs s).1 ∧ Hid (rMany (rCatch bs) (rCount bs s).1 (rCount bs s).2 = (xs ++ (rMany (rCatch bs) k t).1, (rMany (rCatch bs) k t).2))) (fun _ n _ => (intOf n).toNat)
  case atStart => exact ⟨(rCount bs s).1, [], _, rfl, hS.nil _ _ _, by simp, Lib.hid rfl⟩
  case round =>
    obtain ⟨k, xs, t, rfl, hS, hks, hg⟩ := hrel
    have Hks := Lib.hid hks
    have hbnd : xs.length + 1 ≤ 1099511627776 ∨ k = 0 := by omega
    clear hks
    have hexit : (k = 0 ∨ t.err ≠ 0) → rMany (rCatch bs) (rCount bs s).1 (rCount bs s).2 = (xs, t) := by
      intro hh
      rw [hg.out]
      cases k with
      | zero => simp [rMany]
      | succ k => simp [rMany, hh.resolve_left (by omega)]
    by_cases hk : k = 0
    · have hE := Lib.hid (hexit (.inl hk))
      subst hk
      clear hexit hbnd
      go_wp2
      go_ret
      refine ⟨_, rfl, ?_⟩
      rw [hE.out]
      exact hS
    · have hkp : 0 < k := by omega
      by_cases he : t.err = 0
      · have g1 : (t.err != 0) = false := by simp [he]
        have hx : rMany (rCatch bs) k t = (((rCatch bs) t).1 :: (rMany (rCatch bs) (k - 1) ((rCatch bs) t).2).1, (rMany (rCatch bs) (k - 1) ((rCatch bs) t).2).2) := by
          obtain ⟨j, rfl⟩ : ∃ j, k = j + 1 := ⟨k - 1, by omega⟩
          simp [rMany, he]
        have HX := Lib.hid hx
        have hb2 : xs.length + 1 ≤ 1099511627776 := by omega
        have hk40 : k ≤ 1099511627776 := by have := Hks.out; omega
        clear hx he hexit hbnd
        go_wp2_with first | (go_at_call 45; refine rst_use ?_; (repeat (apply Exists.intro)); refine ⟨?_, ?_⟩; (· exact zrts1); (try simp only [World.size_alloc, World.size_setCell, size_drew, size_drewN]); intro hT; refine (ib_failed hT.rd).mono ?_; rintro e w1 ⟨rfl, hR1, hF1⟩; have hS := hT.call hR1 hF1; clear hT hR1 hF1; (try clear hQ); have hQ := St.facts hS.st; (try simp only [Facts, Res.fact, List.cons_append, List.nil_append, true_and, and_true] at hQ); (try clear hN); have hN := aparts hS.st.apart; (try simp only [Aparts, Apart1, List.cons_append, List.nil_append, true_and, and_true] at hN)) | (go_at_call 83; refine rst_use ?_; (repeat (apply Exists.intro)); refine ⟨?_, ?_⟩; (· exact zrts1); (try simp only [World.size_alloc, World.size_setCell, size_drew, size_drewN]); intro hT; refine (ib_catch hT.rd).mono ?_; rintro e w1 ⟨rfl, hR1, hF1⟩; have hS := hT.call hR1 hF1; clear hT hR1 hF1; (try clear hQ); have hQ := St.facts hS.st; (try simp only [Facts, Res.fact, List.cons_append, List.nil_append, true_and, and_true] at hQ); (try clear hN); have hN := aparts hS.st.apart; (try simp only [Aparts, Apart1, List.cons_append, List.nil_append, true_and, and_true] at hN)) | (at_builtin; refine rapp_catch rfl rfl rfl rfl ?_; (repeat (apply Exists.intro)); refine ⟨?_, ?_, ?_, ?_, ?_⟩; (· exact zrts1); (· (try simp only [World.size_alloc, World.size_setCell, size_drew, size_drewN]); apply DstT.own; (exact zpk2)); (· (try simp only [World.size_alloc, World.size_setCell, size_drew, size_drewN]); apply SrcT.lit; (· exact zpk2); (· rfl); (· simp [Value.oneCell'])); (· omega); intro vN wN hS; (try clear hQ); have hQ := St.facts hS.st; (try simp only [Facts, Res.fact, List.cons_append, List.nil_append, true_and, and_true] at hQ); (try clear hN); have hN := aparts hS.st.apart; (try simp only [Aparts, Apart1, List.cons_append, List.nil_append, true_and, and_true] at hN))
        go_roundw
        case rel =>
          refine ⟨k - 1, xs ++ [((rCatch bs) t).1], ((rCatch bs) t).2, by go_num, ?_, by have := Hks.out; simp; omega, Lib.hid ?_⟩
          · have e1 : (xs ++ [((rCatch bs) t).1]).length = xs.length + 1 := by simp
            have e2 : (xs ++ [((rCatch bs) t).1]).flatMap catchC = xs.flatMap catchC ++ catchC ((rCatch bs) t).1 := by simp
            rw [e1, e2]
            exact hS.only
          · rw [hg.out, HX.out]; simp
        case measure => simp [intOf]; omega
      · have g1 : (t.err != 0) = true := by simp [he]
        have hE := Lib.hid (hexit (.inr he))
        clear hexit hbnd
        go_wp2_with first | (go_at_call 45; refine rst_use ?_; (repeat (apply Exists.intro)); refine ⟨?_, ?_⟩; (· exact zrts1); (try simp only [World.size_alloc, World.size_setCell, size_drew, size_drewN]); intro hT; refine (ib_failed hT.rd).mono ?_; rintro e w1 ⟨rfl, hR1, hF1⟩; have hS := hT.call hR1 hF1; clear hT hR1 hF1; (try clear hQ); have hQ := St.facts hS.st; (try simp only [Facts, Res.fact, List.cons_append, List.nil_append, true_and, and_true] at hQ); (try clear hN); have hN := aparts hS.st.apart; (try simp only [Aparts, Apart1, List.cons_append, List.nil_append, true_and, and_true] at hN))
        go_ret
        refine ⟨_, rfl, ?_⟩
        rw [hE.out]
        exact hS
end Go.Proofs.YtokneepfknepaaaGreatDoor

set_option linter.unusedSimpArgs false
set_option linter.unusedVariables false
namespace Go.Proofs.YtokneepfknepaaaGreatDoor
open Go.RowKit

theorem or8 (c n : Nat) (hc : c = 251 ∨ c = 252) (hn : n ≤ 255) : bits .or .i64 (c * 256) n = c * 256 + n := by
  have h1 : ∀ n ∈ List.range 256, bits .or .i64 (((251 : Nat) : Int) * 256) (n : Int) = ((251 : Nat) : Int) * 256 + n ∧ bits .or .i64 (((252 : Nat) : Int) * 256) (n : Int) = ((252 : Nat) : Int) * 256 + n := by decide +kernel
  have h2 := h1 n (List.mem_range.2 (by omega))
  rcases hc with rfl | rfl
  · exact h2.1
  · exact h2.2

set_option maxRecDepth 100000 in set_option maxHeartbeats 1600000 in
theorem ib_opcode {S : List Nat} {w : World} {rb : Nat} {bv : Value} {bs : List UInt8} {s : RdS} (h : Rd S w rb bv bs s) (hg : Gl7 S w) : Calls Tryz.prog 74 #[.pointer (some ⟨rb, 0, none⟩)] w fun e w' => e = .returned (.int .i64 (rOp bs s).1) ∧ Rd S w' rb bv bs (rOp bs s).2 ∧ Fr [rb] w w' := by
  have hS := RSt.start h
  have hb := rByte_lt bs s
  have hu := rU32_lt bs (rByte bs s).2
  by_cases h1 : (rByte bs s).1 = 251 ∨ (rByte bs s).1 = 252
  · by_cases h2 : 255 < (rU bs 32 (rByte bs s).2).1
    · have e0 : rOp bs s = (0, (rU bs 32 (rByte bs s).2).2.fail 60 s.at_) := by unfold rOp; rw [if_pos h1, if_pos h2]
      rw [e0]
      have i2 : (255 : Int) < ((rU bs 32 (rByte bs s).2).1 : Nat) := by omega
      have q : ((((rByte bs s).1 : Nat) : Int) == 251) = true ∨ ((((rByte bs s).1 : Nat) : Int) == 251) = false ∧ ((((rByte bs s).1 : Nat) : Int) == 252) = true := by simp; omega
      clear e0 h1 h2
      rcases q with q1 | ⟨q1, q2⟩
      all_goals
        go_enter Tryz.func74, Tryz.ntmps74
        go_wp2_with first | (go_at_call 43; refine rst_use ?_; (repeat (apply Exists.intro)); refine ⟨?_, ?_⟩; (· exact zrts1); (try simp only [World.size_alloc, World.size_setCell, size_drew, size_drewN]); intro hT; refine (rd_at hT.rd).mono ?_; rintro e w1 ⟨rfl, rfl⟩; clear hT) | (go_at_call 97; refine rst_use ?_; (repeat (apply Exists.intro)); refine ⟨?_, ?_⟩; (· exact zrts1); (try simp only [World.size_alloc, World.size_setCell, size_drew, size_drewN]); intro hT; refine (rd_byte hT.rd).mono ?_; rintro e w1 ⟨rfl, hR1, hF1⟩; have hS := hT.call hR1 hF1; clear hT hR1 hF1; (try clear hQ); have hQ := St.facts hS.st; (try simp only [Facts, Res.fact, List.cons_append, List.nil_append, true_and, and_true] at hQ); (try clear hN); have hN := aparts hS.st.apart; (try simp only [Aparts, Apart1, List.cons_append, List.nil_append, true_and, and_true] at hN)) | (go_at_call 98; refine rst_use ?_; (repeat (apply Exists.intro)); refine ⟨?_, ?_⟩; (· exact zrts1); (try simp only [World.size_alloc, World.size_setCell, size_drew, size_drewN]); intro hT; refine (rd_u hT.rd 32 (by decide) (by decide)).mono ?_; rintro e w1 ⟨rfl, hR1, hF1⟩; have hS := hT.call hR1 hF1; clear hT hR1 hF1; (try clear hQ); have hQ := St.facts hS.st; (try simp only [Facts, Res.fact, List.cons_append, List.nil_append, true_and, and_true] at hQ); (try clear hN); have hN := aparts hS.st.apart; (try simp only [Aparts, Apart1, List.cons_append, List.nil_append, true_and, and_true] at hN)) | (go_at_call 99; refine rst_use ?_; (repeat (apply Exists.intro)); refine ⟨?_, ?_⟩; (· exact zrts1); (try simp only [World.size_alloc, World.size_setCell, size_drew, size_drewN]); intro hT; refine (known_any (hT.gl7 hg) _).mono ?_; rintro e w1 ⟨rfl, hF1⟩; have hS := hT.step0 hF1; clear hT hF1; (try clear hQ); have hQ := St.facts hS.st; (try simp only [Facts, Res.fact, List.cons_append, List.nil_append, true_and, and_true] at hQ); (try clear hN); have hN := aparts hS.st.apart; (try simp only [Aparts, Apart1, List.cons_append, List.nil_append, true_and, and_true] at hN)) | (go_at_call 24; refine rst_use ?_; (repeat (apply Exists.intro)); refine ⟨?_, ?_⟩; (· exact zrts1); (try simp only [World.size_alloc, World.size_setCell, size_drew, size_drewN]); intro hT; refine (shape_any (hT.gl7 hg) _ (by omega) (by omega)).mono ?_; rintro e w1 ⟨rfl, hF1⟩; have hS := hT.step0 hF1; clear hT hF1; (try clear hQ); have hQ := St.facts hS.st; (try simp only [Facts, Res.fact, List.cons_append, List.nil_append, true_and, and_true] at hQ); (try clear hN); have hN := aparts hS.st.apart; (try simp only [Aparts, Apart1, List.cons_append, List.nil_append, true_and, and_true] at hN)) | (go_at_call 46; refine rst_use ?_; (repeat (apply Exists.intro)); refine ⟨?_, ?_⟩; (· exact zrts1); (try simp only [World.size_alloc, World.size_setCell, size_drew, size_drewN]); intro hT; refine (rd_fail hT.rd _ _).mono ?_; rintro e w1 ⟨rfl, hR1, hF1⟩; have hS := hT.call hR1 hF1; clear hT hR1 hF1; (try clear hQ); have hQ := St.facts hS.st; (try simp only [Facts, Res.fact, List.cons_append, List.nil_append, true_and, and_true] at hQ); (try clear hN); have hN := aparts hS.st.apart; (try simp only [Aparts, Apart1, List.cons_append, List.nil_append, true_and, and_true] at hN))
        (go_ret; exact ⟨rfl, by (first | (with_reducible exact hS.rd) | (apply RSt.rd; (exact zrts1); done) | exact hS.rd), by (first | (with_reducible exact hS.fr) | (apply RSt.fr; (exact zrts1); done) | exact hS.fr)⟩)
    · have i2 : ¬ (255 : Int) < ((rU bs 32 (rByte bs s).2).1 : Nat) := by omega
      have q : ((((rByte bs s).1 : Nat) : Int) == 251) = true ∨ ((((rByte bs s).1 : Nat) : Int) == 251) = false ∧ ((((rByte bs s).1 : Nat) : Int) == 252) = true := by simp; omega
      have hor := or8 _ _ h1 (by omega : (rU bs 32 (rByte bs s).2).1 ≤ 255)
      have e0 : rOp bs s = rOpEnd ((rByte bs s).1 * 256 + (rU bs 32 (rByte bs s).2).1) s.at_ (rU bs 32 (rByte bs s).2).2 := by unfold rOp; rw [if_pos h1, if_neg h2]
      rw [e0]
      unfold rOpEnd
      have i3 : (((rByte bs s).1 : Nat) : Int) * 256 + ((rU bs 32 (rByte bs s).2).1 : Nat) < 65536 := by omega
      have i4 : 0 ≤ (((rByte bs s).1 : Nat) : Int) * 256 + ((rU bs 32 (rByte bs s).2).1 : Nat) := by omega
      generalize (((rByte bs s).1 : Nat) : Int) * 256 + ((rU bs 32 (rByte bs s).2).1 : Nat) = op at hor i3 i4 ⊢
      clear e0 h1 h2
      cases hk : knownP op
      · by_cases hs : shapeP op = 0
        · have qs : (shapeP op == 0) = true := by simp [hs]
          rw [if_neg (by simp), if_pos hs]
          clear hs
          rcases q with q1 | ⟨q1, q2⟩
          all_goals
            go_enter Tryz.func74, Tryz.ntmps74
            go_wp2_with first | (go_at_call 43; refine rst_use ?_; (repeat (apply Exists.intro)); refine ⟨?_, ?_⟩; (· exact zrts1); (try simp only [World.size_alloc, World.size_setCell, size_drew, size_drewN]); intro hT; refine (rd_at hT.rd).mono ?_; rintro e w1 ⟨rfl, rfl⟩; clear hT) | (go_at_call 97; refine rst_use ?_; (repeat (apply Exists.intro)); refine ⟨?_, ?_⟩; (· exact zrts1); (try simp only [World.size_alloc, World.size_setCell, size_drew, size_drewN]); intro hT; refine (rd_byte hT.rd).mono ?_; rintro e w1 ⟨rfl, hR1, hF1⟩; have hS := hT.call hR1 hF1; clear hT hR1 hF1; (try clear hQ); have hQ := St.facts hS.st; (try simp only [Facts, Res.fact, List.cons_append, List.nil_append, true_and, and_true] at hQ); (try clear hN); have hN := aparts hS.st.apart; (try simp only [Aparts, Apart1, List.cons_append, List.nil_append, true_and, and_true] at hN)) | (go_at_call 98; refine rst_use ?_; (repeat (apply Exists.intro)); refine ⟨?_, ?_⟩; (· exact zrts1); (try simp only [World.size_alloc, World.size_setCell, size_drew, size_drewN]); intro hT; refine (rd_u hT.rd 32 (by decide) (by decide)).mono ?_; rintro e w1 ⟨rfl, hR1, hF1⟩; have hS := hT.call hR1 hF1; clear hT hR1 hF1; (try clear hQ); have hQ := St.facts hS.st; (try simp only [Facts, Res.fact, List.cons_append, List.nil_append, true_and, and_true] at hQ); (try clear hN); have hN := aparts hS.st.apart; (try simp only [Aparts, Apart1, List.cons_append, List.nil_append, true_and, and_true] at hN)) | (go_at_call 99; refine rst_use ?_; (repeat (apply Exists.intro)); refine ⟨?_, ?_⟩; (· exact zrts1); (try simp only [World.size_alloc, World.size_setCell, size_drew, size_drewN]); intro hT; refine (known_any (hT.gl7 hg) _).mono ?_; rintro e w1 ⟨rfl, hF1⟩; have hS := hT.step0 hF1; clear hT hF1; (try clear hQ); have hQ := St.facts hS.st; (try simp only [Facts, Res.fact, List.cons_append, List.nil_append, true_and, and_true] at hQ); (try clear hN); have hN := aparts hS.st.apart; (try simp only [Aparts, Apart1, List.cons_append, List.nil_append, true_and, and_true] at hN)) | (go_at_call 24; refine rst_use ?_; (repeat (apply Exists.intro)); refine ⟨?_, ?_⟩; (· exact zrts1); (try simp only [World.size_alloc, World.size_setCell, size_drew, size_drewN]); intro hT; refine (shape_any (hT.gl7 hg) _ (by omega) (by omega)).mono ?_; rintro e w1 ⟨rfl, hF1⟩; have hS := hT.step0 hF1; clear hT hF1; (try clear hQ); have hQ := St.facts hS.st; (try simp only [Facts, Res.fact, List.cons_append, List.nil_append, true_and, and_true] at hQ); (try clear hN); have hN := aparts hS.st.apart; (try simp only [Aparts, Apart1, List.cons_append, List.nil_append, true_and, and_true] at hN)) | (go_at_call 46; refine rst_use ?_; (repeat (apply Exists.intro)); refine ⟨?_, ?_⟩; (· exact zrts1); (try simp only [World.size_alloc, World.size_setCell, size_drew, size_drewN]); intro hT; refine (rd_fail hT.rd _ _).mono ?_; rintro e w1 ⟨rfl, hR1, hF1⟩; have hS := hT.call hR1 hF1; clear hT hR1 hF1; (try clear hQ); have hQ := St.facts hS.st; (try simp only [Facts, Res.fact, List.cons_append, List.nil_append, true_and, and_true] at hQ); (try clear hN); have hN := aparts hS.st.apart; (try simp only [Aparts, Apart1, List.cons_append, List.nil_append, true_and, and_true] at hN))
            (go_ret; exact ⟨rfl, by (first | (with_reducible exact hS.rd) | (apply RSt.rd; (exact zrts1); done) | exact hS.rd), by (first | (with_reducible exact hS.fr) | (apply RSt.fr; (exact zrts1); done) | exact hS.fr)⟩)
        · have qs : (shapeP op == 0) = false := by simp [hs]
          rw [if_neg (by simp), if_neg hs]
          clear hs
          rcases q with q1 | ⟨q1, q2⟩
          all_goals
            go_enter Tryz.func74, Tryz.ntmps74
            go_wp2_with first | (go_at_call 43; refine rst_use ?_; (repeat (apply Exists.intro)); refine ⟨?_, ?_⟩; (· exact zrts1); (try simp only [World.size_alloc, World.size_setCell, size_drew, size_drewN]); intro hT; refine (rd_at hT.rd).mono ?_; rintro e w1 ⟨rfl, rfl⟩; clear hT) | (go_at_call 97; refine rst_use ?_; (repeat (apply Exists.intro)); refine ⟨?_, ?_⟩; (· exact zrts1); (try simp only [World.size_alloc, World.size_setCell, size_drew, size_drewN]); intro hT; refine (rd_byte hT.rd).mono ?_; rintro e w1 ⟨rfl, hR1, hF1⟩; have hS := hT.call hR1 hF1; clear hT hR1 hF1; (try clear hQ); have hQ := St.facts hS.st; (try simp only [Facts, Res.fact, List.cons_append, List.nil_append, true_and, and_true] at hQ); (try clear hN); have hN := aparts hS.st.apart; (try simp only [Aparts, Apart1, List.cons_append, List.nil_append, true_and, and_true] at hN)) | (go_at_call 98; refine rst_use ?_; (repeat (apply Exists.intro)); refine ⟨?_, ?_⟩; (· exact zrts1); (try simp only [World.size_alloc, World.size_setCell, size_drew, size_drewN]); intro hT; refine (rd_u hT.rd 32 (by decide) (by decide)).mono ?_; rintro e w1 ⟨rfl, hR1, hF1⟩; have hS := hT.call hR1 hF1; clear hT hR1 hF1; (try clear hQ); have hQ := St.facts hS.st; (try simp only [Facts, Res.fact, List.cons_append, List.nil_append, true_and, and_true] at hQ); (try clear hN); have hN := aparts hS.st.apart; (try simp only [Aparts, Apart1, List.cons_append, List.nil_append, true_and, and_true] at hN)) | (go_at_call 99; refine rst_use ?_; (repeat (apply Exists.intro)); refine ⟨?_, ?_⟩; (· exact zrts1); (try simp only [World.size_alloc, World.size_setCell, size_drew, size_drewN]); intro hT; refine (known_any (hT.gl7 hg) _).mono ?_; rintro e w1 ⟨rfl, hF1⟩; have hS := hT.step0 hF1; clear hT hF1; (try clear hQ); have hQ := St.facts hS.st; (try simp only [Facts, Res.fact, List.cons_append, List.nil_append, true_and, and_true] at hQ); (try clear hN); have hN := aparts hS.st.apart; (try simp only [Aparts, Apart1, List.cons_append, List.nil_append, true_and, and_true] at hN)) | (go_at_call 24; refine rst_use ?_; (repeat (apply Exists.intro)); refine ⟨?_, ?_⟩; (· exact zrts1); (try simp only [World.size_alloc, World.size_setCell, size_drew, size_drewN]); intro hT; refine (shape_any (hT.gl7 hg) _ (by omega) (by omega)).mono ?_; rintro e w1 ⟨rfl, hF1⟩; have hS := hT.step0 hF1; clear hT hF1; (try clear hQ); have hQ := St.facts hS.st; (try simp only [Facts, Res.fact, List.cons_append, List.nil_append, true_and, and_true] at hQ); (try clear hN); have hN := aparts hS.st.apart; (try simp only [Aparts, Apart1, List.cons_append, List.nil_append, true_and, and_true] at hN)) | (go_at_call 46; refine rst_use ?_; (repeat (apply Exists.intro)); refine ⟨?_, ?_⟩; (· exact zrts1); (try simp only [World.size_alloc, World.size_setCell, size_drew, size_drewN]); intro hT; refine (rd_fail hT.rd _ _).mono ?_; rintro e w1 ⟨rfl, hR1, hF1⟩; have hS := hT.call hR1 hF1; clear hT hR1 hF1; (try clear hQ); have hQ := St.facts hS.st; (try simp only [Facts, Res.fact, List.cons_append, List.nil_append, true_and, and_true] at hQ); (try clear hN); have hN := aparts hS.st.apart; (try simp only [Aparts, Apart1, List.cons_append, List.nil_append, true_and, and_true] at hN))
            (go_ret; exact ⟨rfl, by (first | (with_reducible exact hS.rd) | (apply RSt.rd; (exact zrts1); done) | exact hS.rd), by (first | (with_reducible exact hS.fr) | (apply RSt.fr; (exact zrts1); done) | exact hS.fr)⟩)
      · rw [if_pos rfl]
        rcases q with q1 | ⟨q1, q2⟩
        all_goals
          go_enter Tryz.func74, Tryz.ntmps74
          go_wp2_with first | (go_at_call 43; refine rst_use ?_; (repeat (apply Exists.intro)); refine ⟨?_, ?_⟩; (· exact zrts1); (try simp only [World.size_alloc, World.size_setCell, size_drew, size_drewN]); intro hT; refine (rd_at hT.rd).mono ?_; rintro e w1 ⟨rfl, rfl⟩; clear hT) | (go_at_call 97; refine rst_use ?_; (repeat (apply Exists.intro)); refine ⟨?_, ?_⟩; (· exact zrts1); (try simp only [World.size_alloc, World.size_setCell, size_drew, size_drewN]); intro hT; refine (rd_byte hT.rd).mono ?_; rintro e w1 ⟨rfl, hR1, hF1⟩; have hS := hT.call hR1 hF1; clear hT hR1 hF1; (try clear hQ); have hQ := St.facts hS.st; (try simp only [Facts, Res.fact, List.cons_append, List.nil_append, true_and, and_true] at hQ); (try clear hN); have hN := aparts hS.st.apart; (try simp only [Aparts, Apart1, List.cons_append, List.nil_append, true_and, and_true] at hN)) | (go_at_call 98; refine rst_use ?_; (repeat (apply Exists.intro)); refine ⟨?_, ?_⟩; (· exact zrts1); (try simp only [World.size_alloc, World.size_setCell, size_drew, size_drewN]); intro hT; refine (rd_u hT.rd 32 (by decide) (by decide)).mono ?_; rintro e w1 ⟨rfl, hR1, hF1⟩; have hS := hT.call hR1 hF1; clear hT hR1 hF1; (try clear hQ); have hQ := St.facts hS.st; (try simp only [Facts, Res.fact, List.cons_append, List.nil_append, true_and, and_true] at hQ); (try clear hN); have hN := aparts hS.st.apart; (try simp only [Aparts, Apart1, List.cons_append, List.nil_append, true_and, and_true] at hN)) | (go_at_call 99; refine rst_use ?_; (repeat (apply Exists.intro)); refine ⟨?_, ?_⟩; (· exact zrts1); (try simp only [World.size_alloc, World.size_setCell, size_drew, size_drewN]); intro hT; refine (known_any (hT.gl7 hg) _).mono ?_; rintro e w1 ⟨rfl, hF1⟩; have hS := hT.step0 hF1; clear hT hF1; (try clear hQ); have hQ := St.facts hS.st; (try simp only [Facts, Res.fact, List.cons_append, List.nil_append, true_and, and_true] at hQ); (try clear hN); have hN := aparts hS.st.apart; (try simp only [Aparts, Apart1, List.cons_append, List.nil_append, true_and, and_true] at hN)) | (go_at_call 24; refine rst_use ?_; (repeat (apply Exists.intro)); refine ⟨?_, ?_⟩; (· exact zrts1); (try simp only [World.size_alloc, World.size_setCell, size_drew, size_drewN]); intro hT; refine (shape_any (hT.gl7 hg) _ (by omega) (by omega)).mono ?_; rintro e w1 ⟨rfl, hF1⟩; have hS := hT.step0 hF1; clear hT hF1; (try clear hQ); have hQ := St.facts hS.st; (try simp only [Facts, Res.fact, List.cons_append, List.nil_append, true_and, and_true] at hQ); (try clear hN); have hN := aparts hS.st.apart; (try simp only [Aparts, Apart1, List.cons_append, List.nil_append, true_and, and_true] at hN)) | (go_at_call 46; refine rst_use ?_; (repeat (apply Exists.intro)); refine ⟨?_, ?_⟩; (· exact zrts1); (try simp only [World.size_alloc, World.size_setCell, size_drew, size_drewN]); intro hT; refine (rd_fail hT.rd _ _).mono ?_; rintro e w1 ⟨rfl, hR1, hF1⟩; have hS := hT.call hR1 hF1; clear hT hR1 hF1; (try clear hQ); have hQ := St.facts hS.st; (try simp only [Facts, Res.fact, List.cons_append, List.nil_append, true_and, and_true] at hQ); (try clear hN); have hN := aparts hS.st.apart; (try simp only [Aparts, Apart1, List.cons_append, List.nil_append, true_and, and_true] at hN))
          (go_ret; exact ⟨rfl, by (first | (with_reducible exact hS.rd) | (apply RSt.rd; (exact zrts1); done) | exact hS.rd), by (first | (with_reducible exact hS.fr) | (apply RSt.fr; (exact zrts1); done) | exact hS.fr)⟩)
  · have e0 : rOp bs s = rOpEnd (rByte bs s).1 s.at_ (rByte bs s).2 := by unfold rOp; rw [if_neg h1]
    have q1 : ((((rByte bs s).1 : Nat) : Int) == 251) = false := by simp; omega
    have q2 : ((((rByte bs s).1 : Nat) : Int) == 252) = false := by simp; omega
    rw [e0]
    unfold rOpEnd
    clear e0 h1
    cases hk : knownP ((rByte bs s).1 : Nat)
    · by_cases hs : shapeP ((rByte bs s).1 : Nat) = 0
      · have qs : (shapeP ((rByte bs s).1 : Nat) == 0) = true := by simp [hs]
        rw [if_neg (by simp), if_pos hs]
        clear hs
        go_enter Tryz.func74, Tryz.ntmps74
        go_wp2_with first | (go_at_call 43; refine rst_use ?_; (repeat (apply Exists.intro)); refine ⟨?_, ?_⟩; (· exact zrts1); (try simp only [World.size_alloc, World.size_setCell, size_drew, size_drewN]); intro hT; refine (rd_at hT.rd).mono ?_; rintro e w1 ⟨rfl, rfl⟩; clear hT) | (go_at_call 97; refine rst_use ?_; (repeat (apply Exists.intro)); refine ⟨?_, ?_⟩; (· exact zrts1); (try simp only [World.size_alloc, World.size_setCell, size_drew, size_drewN]); intro hT; refine (rd_byte hT.rd).mono ?_; rintro e w1 ⟨rfl, hR1, hF1⟩; have hS := hT.call hR1 hF1; clear hT hR1 hF1; (try clear hQ); have hQ := St.facts hS.st; (try simp only [Facts, Res.fact, List.cons_append, List.nil_append, true_and, and_true] at hQ); (try clear hN); have hN := aparts hS.st.apart; (try simp only [Aparts, Apart1, List.cons_append, List.nil_append, true_and, and_true] at hN)) | (go_at_call 98; refine rst_use ?_; (repeat (apply Exists.intro)); refine ⟨?_, ?_⟩; (· exact zrts1); (try simp only [World.size_alloc, World.size_setCell, size_drew, size_drewN]); intro hT; refine (rd_u hT.rd 32 (by decide) (by decide)).mono ?_; rintro e w1 ⟨rfl, hR1, hF1⟩; have hS := hT.call hR1 hF1; clear hT hR1 hF1; (try clear hQ); have hQ := St.facts hS.st; (try simp only [Facts, Res.fact, List.cons_append, List.nil_append, true_and, and_true] at hQ); (try clear hN); have hN := aparts hS.st.apart; (try simp only [Aparts, Apart1, List.cons_append, List.nil_append, true_and, and_true] at hN)) | (go_at_call 99; refine rst_use ?_; (repeat (apply Exists.intro)); refine ⟨?_, ?_⟩; (· exact zrts1); (try simp only [World.size_alloc, World.size_setCell, size_drew, size_drewN]); intro hT; refine (known_any (hT.gl7 hg) _).mono ?_; rintro e w1 ⟨rfl, hF1⟩; have hS := hT.step0 hF1; clear hT hF1; (try clear hQ); have hQ := St.facts hS.st; (try simp only [Facts, Res.fact, List.cons_append, List.nil_append, true_and, and_true] at hQ); (try clear hN); have hN := aparts hS.st.apart; (try simp only [Aparts, Apart1, List.cons_append, List.nil_append, true_and, and_true] at hN)) | (go_at_call 24; refine rst_use ?_; (repeat (apply Exists.intro)); refine ⟨?_, ?_⟩; (· exact zrts1); (try simp only [World.size_alloc, World.size_setCell, size_drew, size_drewN]); intro hT; refine (shape_any (hT.gl7 hg) _ (by omega) (by omega)).mono ?_; rintro e w1 ⟨rfl, hF1⟩; have hS := hT.step0 hF1; clear hT hF1; (try clear hQ); have hQ := St.facts hS.st; (try simp only [Facts, Res.fact, List.cons_append, List.nil_append, true_and, and_true] at hQ); (try clear hN); have hN := aparts hS.st.apart; (try simp only [Aparts, Apart1, List.cons_append, List.nil_append, true_and, and_true] at hN)) | (go_at_call 46; refine rst_use ?_; (repeat (apply Exists.intro)); refine ⟨?_, ?_⟩; (· exact zrts1); (try simp only [World.size_alloc, World.size_setCell, size_drew, size_drewN]); intro hT; refine (rd_fail hT.rd _ _).mono ?_; rintro e w1 ⟨rfl, hR1, hF1⟩; have hS := hT.call hR1 hF1; clear hT hR1 hF1; (try clear hQ); have hQ := St.facts hS.st; (try simp only [Facts, Res.fact, List.cons_append, List.nil_append, true_and, and_true] at hQ); (try clear hN); have hN := aparts hS.st.apart; (try simp only [Aparts, Apart1, List.cons_append, List.nil_append, true_and, and_true] at hN))
        (go_ret; exact ⟨rfl, by (first | (with_reducible exact hS.rd) | (apply RSt.rd; (exact zrts1); done) | exact hS.rd), by (first | (with_reducible exact hS.fr) | (apply RSt.fr; (exact zrts1); done) | exact hS.fr)⟩)
      · have qs : (shapeP ((rByte bs s).1 : Nat) == 0) = false := by simp [hs]
        rw [if_neg (by simp), if_neg hs]
        clear hs
        go_enter Tryz.func74, Tryz.ntmps74
        go_wp2_with first | (go_at_call 43; refine rst_use ?_; (repeat (apply Exists.intro)); refine ⟨?_, ?_⟩; (· exact zrts1); (try simp only [World.size_alloc, World.size_setCell, size_drew, size_drewN]); intro hT; refine (rd_at hT.rd).mono ?_; rintro e w1 ⟨rfl, rfl⟩; clear hT) | (go_at_call 97; refine rst_use ?_; (repeat (apply Exists.intro)); refine ⟨?_, ?_⟩; (· exact zrts1); (try simp only [World.size_alloc, World.size_setCell, size_drew, size_drewN]); intro hT; refine (rd_byte hT.rd).mono ?_; rintro e w1 ⟨rfl, hR1, hF1⟩; have hS := hT.call hR1 hF1; clear hT hR1 hF1; (try clear hQ); have hQ := St.facts hS.st; (try simp only [Facts, Res.fact, List.cons_append, List.nil_append, true_and, and_true] at hQ); (try clear hN); have hN := aparts hS.st.apart; (try simp only [Aparts, Apart1, List.cons_append, List.nil_append, true_and, and_true] at hN)) | (go_at_call 98; refine rst_use ?_; (repeat (apply Exists.intro)); refine ⟨?_, ?_⟩; (· exact zrts1); (try simp only [World.size_alloc, World.size_setCell, size_drew, size_drewN]); intro hT; refine (rd_u hT.rd 32 (by decide) (by decide)).mono ?_; rintro e w1 ⟨rfl, hR1, hF1⟩; have hS := hT.call hR1 hF1; clear hT hR1 hF1; (try clear hQ); have hQ := St.facts hS.st; (try simp only [Facts, Res.fact, List.cons_append, List.nil_append, true_and, and_true] at hQ); (try clear hN); have hN := aparts hS.st.apart; (try simp only [Aparts, Apart1, List.cons_append, List.nil_append, true_and, and_true] at hN)) | (go_at_call 99; refine rst_use ?_; (repeat (apply Exists.intro)); refine ⟨?_, ?_⟩; (· exact zrts1); (try simp only [World.size_alloc, World.size_setCell, size_drew, size_drewN]); intro hT; refine (known_any (hT.gl7 hg) _).mono ?_; rintro e w1 ⟨rfl, hF1⟩; have hS := hT.step0 hF1; clear hT hF1; (try clear hQ); have hQ := St.facts hS.st; (try simp only [Facts, Res.fact, List.cons_append, List.nil_append, true_and, and_true] at hQ); (try clear hN); have hN := aparts hS.st.apart; (try simp only [Aparts, Apart1, List.cons_append, List.nil_append, true_and, and_true] at hN)) | (go_at_call 24; refine rst_use ?_; (repeat (apply Exists.intro)); refine ⟨?_, ?_⟩; (· exact zrts1); (try simp only [World.size_alloc, World.size_setCell, size_drew, size_drewN]); intro hT; refine (shape_any (hT.gl7 hg) _ (by omega) (by omega)).mono ?_; rintro e w1 ⟨rfl, hF1⟩; have hS := hT.step0 hF1; clear hT hF1; (try clear hQ); have hQ := St.facts hS.st; (try simp only [Facts, Res.fact, List.cons_append, List.nil_append, true_and, and_true] at hQ); (try clear hN); have hN := aparts hS.st.apart; (try simp only [Aparts, Apart1, List.cons_append, List.nil_append, true_and, and_true] at hN)) | (go_at_call 46; refine rst_use ?_; (repeat (apply Exists.intro)); refine ⟨?_, ?_⟩; (· exact zrts1); (try simp only [World.size_alloc, World.size_setCell, size_drew, size_drewN]); intro hT; refine (rd_fail hT.rd _ _).mono ?_; rintro e w1 ⟨rfl, hR1, hF1⟩; have hS := hT.call hR1 hF1; clear hT hR1 hF1; (try clear hQ); have hQ := St.facts hS.st; (try simp only [Facts, Res.fact, List.cons_append, List.nil_append, true_and, and_true] at hQ); (try clear hN); have hN := aparts hS.st.apart; (try simp only [Aparts, Apart1, List.cons_append, List.nil_append, true_and, and_true] at hN))
        (go_ret; exact ⟨rfl, by (first | (with_reducible exact hS.rd) | (apply RSt.rd; (exact zrts1); done) | exact hS.rd), by (first | (with_reducible exact hS.fr) | (apply RSt.fr; (exact zrts1); done) | exact hS.fr)⟩)
    · rw [if_pos rfl]
      go_enter Tryz.func74, Tryz.ntmps74
      go_wp2_with first | (go_at_call 43; refine rst_use ?_; (repeat (apply Exists.intro)); refine ⟨?_, ?_⟩; (· exact zrts1); (try simp only [World.size_alloc, World.size_setCell, size_drew, size_drewN]); intro hT; refine (rd_at hT.rd).mono ?_; rintro e w1 ⟨rfl, rfl⟩; clear hT) | (go_at_call 97; refine rst_use ?_; (repeat (apply Exists.intro)); refine ⟨?_, ?_⟩; (· exact zrts1); (try simp only [World.size_alloc, World.size_setCell, size_drew, size_drewN]); intro hT; refine (rd_byte hT.rd).mono ?_; rintro e w1 ⟨rfl, hR1, hF1⟩; have hS := hT.call hR1 hF1; clear hT hR1 hF1; (try clear hQ); have hQ := St.facts hS.st; (try simp only [Facts, Res.fact, List.cons_append, List.nil_append, true_and, and_true] at hQ); (try clear hN); have hN := aparts hS.st.apart; (try simp only [Aparts, Apart1, List.cons_append, List.nil_append, true_and, and_true] at hN)) | (go_at_call 98; refine rst_use ?_; (repeat (apply Exists.intro)); refine ⟨?_, ?_⟩; (· exact zrts1); (try simp only [World.size_alloc, World.size_setCell, size_drew, size_drewN]); intro hT; refine (rd_u hT.rd 32 (by decide) (by decide)).mono ?_; rintro e w1 ⟨rfl, hR1, hF1⟩; have hS := hT.call hR1 hF1; clear hT hR1 hF1; (try clear hQ); have hQ := St.facts hS.st; (try simp only [Facts, Res.fact, List.cons_append, List.nil_append, true_and, and_true] at hQ); (try clear hN); have hN := aparts hS.st.apart; (try simp only [Aparts, Apart1, List.cons_append, List.nil_append, true_and, and_true] at hN)) | (go_at_call 99; refine rst_use ?_; (repeat (apply Exists.intro)); refine ⟨?_, ?_⟩; (· exact zrts1); (try simp only [World.size_alloc, World.size_setCell, size_drew, size_drewN]); intro hT; refine (known_any (hT.gl7 hg) _).mono ?_; rintro e w1 ⟨rfl, hF1⟩; have hS := hT.step0 hF1; clear hT hF1; (try clear hQ); have hQ := St.facts hS.st; (try simp only [Facts, Res.fact, List.cons_append, List.nil_append, true_and, and_true] at hQ); (try clear hN); have hN := aparts hS.st.apart; (try simp only [Aparts, Apart1, List.cons_append, List.nil_append, true_and, and_true] at hN)) | (go_at_call 24; refine rst_use ?_; (repeat (apply Exists.intro)); refine ⟨?_, ?_⟩; (· exact zrts1); (try simp only [World.size_alloc, World.size_setCell, size_drew, size_drewN]); intro hT; refine (shape_any (hT.gl7 hg) _ (by omega) (by omega)).mono ?_; rintro e w1 ⟨rfl, hF1⟩; have hS := hT.step0 hF1; clear hT hF1; (try clear hQ); have hQ := St.facts hS.st; (try simp only [Facts, Res.fact, List.cons_append, List.nil_append, true_and, and_true] at hQ); (try clear hN); have hN := aparts hS.st.apart; (try simp only [Aparts, Apart1, List.cons_append, List.nil_append, true_and, and_true] at hN)) | (go_at_call 46; refine rst_use ?_; (repeat (apply Exists.intro)); refine ⟨?_, ?_⟩; (· exact zrts1); (try simp only [World.size_alloc, World.size_setCell, size_drew, size_drewN]); intro hT; refine (rd_fail hT.rd _ _).mono ?_; rintro e w1 ⟨rfl, hR1, hF1⟩; have hS := hT.call hR1 hF1; clear hT hR1 hF1; (try clear hQ); have hQ := St.facts hS.st; (try simp only [Facts, Res.fact, List.cons_append, List.nil_append, true_and, and_true] at hQ); (try clear hN); have hN := aparts hS.st.apart; (try simp only [Aparts, Apart1, List.cons_append, List.nil_append, true_and, and_true] at hN))
      (go_ret; exact ⟨rfl, by (first | (with_reducible exact hS.rd) | (apply RSt.rd; (exact zrts1); done) | exact hS.rd), by (first | (with_reducible exact hS.fr) | (apply RSt.fr; (exact zrts1); done) | exact hS.fr)⟩)

set_option maxRecDepth 100000 in set_option maxHeartbeats 1600000 in
theorem ib_memory {S : List Nat} {w0 w : World} {rb : Nat} {bv : Value} {bs : List UInt8} {s : RdS} {G : List Res} {ib : Nat} {op : Int} (hS : RSt S w0 w rb bv bs s (.loc ib (insC (InstrT.of op) (.slice none 0 0) (.slice none 0 0) (.slice none 0 0)) 44 :: G)) :
    Calls Tryz.prog 77 #[.pointer (some ⟨rb, 0, none⟩), .pointer (some ⟨ib, 0, none⟩)] w fun e w' => e = .returned (.tuple #[]) ∧
      RSt S w0 w' rb bv bs (rU bs 64 (rMemY bs s).2).2 (.loc ib (insC ({ InstrT.of op with x := (rMemY bs s).1.1, y := (rMemY bs s).1.2, u := (rU bs 64 (rMemY bs s).2).1 } : InstrT) (.slice none 0 0) (.slice none 0 0) (.slice none 0 0)) 44 :: G) := by
  have hlt := rU32_lt bs s
  unfold insC InstrT.of at hS
  (try clear hQ); have hQ := St.facts hS.st; (try simp only [Facts, Res.fact, List.cons_append, List.nil_append, true_and, and_true] at hQ); (try clear hN); have hN := aparts hS.st.apart; (try simp only [Aparts, Apart1, List.cons_append, List.nil_append, true_and, and_true] at hN)
  have eX : rMemX bs s = ((rNum bs s).1, if 127 < (rNum bs s).1 then (rNum bs s).2.fail 60 s.at_ else (rNum bs s).2) := rfl
  have hn : (rNum bs s).1 = ((rU bs 32 s).1 : Nat) := rfl
  by_cases h1 : 127 < (rNum bs s).1
  · rw [if_pos h1] at eX
    have eY : rMemY bs s = (((rNum bs s).1 - 64, (rNum bs ((rNum bs s).2.fail 60 s.at_)).1), (rNum bs ((rNum bs s).2.fail 60 s.at_)).2) := by unfold rMemY; rw [eX, if_pos (by simp only; omega)]
    rw [eY]
    have hw := IntWalk.wrap64_in ((rNum bs s).1 - 64) (by omega)
    have i2 : 64 ≤ (rNum bs s).1 := by omega
    clear eX eY hn
    go_enter Tryz.func77, Tryz.ntmps77
    go_wp2_with first | (go_at_call 43; refine rst_use ?_; (repeat (apply Exists.intro)); refine ⟨?_, ?_⟩; (· exact zrts1); (try simp only [World.size_alloc, World.size_setCell, size_drew, size_drewN]); intro hT; refine (rd_at hT.rd).mono ?_; rintro e w1 ⟨rfl, rfl⟩; clear hT) | (go_at_call 75; refine rst_use ?_; (repeat (apply Exists.intro)); refine ⟨?_, ?_⟩; (· exact zrts1); (try simp only [World.size_alloc, World.size_setCell, size_drew, size_drewN]); intro hT; refine (ib_num hT.rd).mono ?_; rintro e w1 ⟨rfl, hR1, hF1⟩; have hS := hT.call hR1 hF1; clear hT hR1 hF1; (try clear hQ); have hQ := St.facts hS.st; (try simp only [Facts, Res.fact, List.cons_append, List.nil_append, true_and, and_true] at hQ); (try clear hN); have hN := aparts hS.st.apart; (try simp only [Aparts, Apart1, List.cons_append, List.nil_append, true_and, and_true] at hN)) | (go_at_call 98; refine rst_use ?_; (repeat (apply Exists.intro)); refine ⟨?_, ?_⟩; (· exact zrts1); (try simp only [World.size_alloc, World.size_setCell, size_drew, size_drewN]); intro hT; refine (rd_u hT.rd 64 (by decide) (by decide)).mono ?_; rintro e w1 ⟨rfl, hR1, hF1⟩; have hS := hT.call hR1 hF1; clear hT hR1 hF1; (try clear hQ); have hQ := St.facts hS.st; (try simp only [Facts, Res.fact, List.cons_append, List.nil_append, true_and, and_true] at hQ); (try clear hN); have hN := aparts hS.st.apart; (try simp only [Aparts, Apart1, List.cons_append, List.nil_append, true_and, and_true] at hN)) | (go_at_call 46; refine rst_use ?_; (repeat (apply Exists.intro)); refine ⟨?_, ?_⟩; (· exact zrts1); (try simp only [World.size_alloc, World.size_setCell, size_drew, size_drewN]); intro hT; refine (rd_fail hT.rd _ _).mono ?_; rintro e w1 ⟨rfl, hR1, hF1⟩; have hS := hT.call hR1 hF1; clear hT hR1 hF1; (try clear hQ); have hQ := St.facts hS.st; (try simp only [Facts, Res.fact, List.cons_append, List.nil_append, true_and, and_true] at hQ); (try clear hN); have hN := aparts hS.st.apart; (try simp only [Aparts, Apart1, List.cons_append, List.nil_append, true_and, and_true] at hN))
    go_end0
    exact ⟨rfl, hS.set Pick.here 3 _⟩
  · rw [if_neg h1] at eX
    by_cases h2 : 64 ≤ (rNum bs s).1
    · have eY : rMemY bs s = (((rNum bs s).1 - 64, (rNum bs (rNum bs s).2).1), (rNum bs (rNum bs s).2).2) := by unfold rMemY; rw [eX, if_pos h2]
      rw [eY]
      have hw := IntWalk.wrap64_in ((rNum bs s).1 - 64) (by omega)
      clear eX eY hn
      go_enter Tryz.func77, Tryz.ntmps77
      go_wp2_with first | (go_at_call 43; refine rst_use ?_; (repeat (apply Exists.intro)); refine ⟨?_, ?_⟩; (· exact zrts1); (try simp only [World.size_alloc, World.size_setCell, size_drew, size_drewN]); intro hT; refine (rd_at hT.rd).mono ?_; rintro e w1 ⟨rfl, rfl⟩; clear hT) | (go_at_call 75; refine rst_use ?_; (repeat (apply Exists.intro)); refine ⟨?_, ?_⟩; (· exact zrts1); (try simp only [World.size_alloc, World.size_setCell, size_drew, size_drewN]); intro hT; refine (ib_num hT.rd).mono ?_; rintro e w1 ⟨rfl, hR1, hF1⟩; have hS := hT.call hR1 hF1; clear hT hR1 hF1; (try clear hQ); have hQ := St.facts hS.st; (try simp only [Facts, Res.fact, List.cons_append, List.nil_append, true_and, and_true] at hQ); (try clear hN); have hN := aparts hS.st.apart; (try simp only [Aparts, Apart1, List.cons_append, List.nil_append, true_and, and_true] at hN)) | (go_at_call 98; refine rst_use ?_; (repeat (apply Exists.intro)); refine ⟨?_, ?_⟩; (· exact zrts1); (try simp only [World.size_alloc, World.size_setCell, size_drew, size_drewN]); intro hT; refine (rd_u hT.rd 64 (by decide) (by decide)).mono ?_; rintro e w1 ⟨rfl, hR1, hF1⟩; have hS := hT.call hR1 hF1; clear hT hR1 hF1; (try clear hQ); have hQ := St.facts hS.st; (try simp only [Facts, Res.fact, List.cons_append, List.nil_append, true_and, and_true] at hQ); (try clear hN); have hN := aparts hS.st.apart; (try simp only [Aparts, Apart1, List.cons_append, List.nil_append, true_and, and_true] at hN)) | (go_at_call 46; refine rst_use ?_; (repeat (apply Exists.intro)); refine ⟨?_, ?_⟩; (· exact zrts1); (try simp only [World.size_alloc, World.size_setCell, size_drew, size_drewN]); intro hT; refine (rd_fail hT.rd _ _).mono ?_; rintro e w1 ⟨rfl, hR1, hF1⟩; have hS := hT.call hR1 hF1; clear hT hR1 hF1; (try clear hQ); have hQ := St.facts hS.st; (try simp only [Facts, Res.fact, List.cons_append, List.nil_append, true_and, and_true] at hQ); (try clear hN); have hN := aparts hS.st.apart; (try simp only [Aparts, Apart1, List.cons_append, List.nil_append, true_and, and_true] at hN))
      go_end0
      exact ⟨rfl, hS.set Pick.here 3 _⟩
    · have eY : rMemY bs s = (((rNum bs s).1, 0), (rNum bs s).2) := by unfold rMemY; rw [eX, if_neg h2]
      rw [eY]
      clear eX eY hn
      go_enter Tryz.func77, Tryz.ntmps77
      go_wp2_with first | (go_at_call 43; refine rst_use ?_; (repeat (apply Exists.intro)); refine ⟨?_, ?_⟩; (· exact zrts1); (try simp only [World.size_alloc, World.size_setCell, size_drew, size_drewN]); intro hT; refine (rd_at hT.rd).mono ?_; rintro e w1 ⟨rfl, rfl⟩; clear hT) | (go_at_call 75; refine rst_use ?_; (repeat (apply Exists.intro)); refine ⟨?_, ?_⟩; (· exact zrts1); (try simp only [World.size_alloc, World.size_setCell, size_drew, size_drewN]); intro hT; refine (ib_num hT.rd).mono ?_; rintro e w1 ⟨rfl, hR1, hF1⟩; have hS := hT.call hR1 hF1; clear hT hR1 hF1; (try clear hQ); have hQ := St.facts hS.st; (try simp only [Facts, Res.fact, List.cons_append, List.nil_append, true_and, and_true] at hQ); (try clear hN); have hN := aparts hS.st.apart; (try simp only [Aparts, Apart1, List.cons_append, List.nil_append, true_and, and_true] at hN)) | (go_at_call 98; refine rst_use ?_; (repeat (apply Exists.intro)); refine ⟨?_, ?_⟩; (· exact zrts1); (try simp only [World.size_alloc, World.size_setCell, size_drew, size_drewN]); intro hT; refine (rd_u hT.rd 64 (by decide) (by decide)).mono ?_; rintro e w1 ⟨rfl, hR1, hF1⟩; have hS := hT.call hR1 hF1; clear hT hR1 hF1; (try clear hQ); have hQ := St.facts hS.st; (try simp only [Facts, Res.fact, List.cons_append, List.nil_append, true_and, and_true] at hQ); (try clear hN); have hN := aparts hS.st.apart; (try simp only [Aparts, Apart1, List.cons_append, List.nil_append, true_and, and_true] at hN)) | (go_at_call 46; refine rst_use ?_; (repeat (apply Exists.intro)); refine ⟨?_, ?_⟩; (· exact zrts1); (try simp only [World.size_alloc, World.size_setCell, size_drew, size_drewN]); intro hT; refine (rd_fail hT.rd _ _).mono ?_; rintro e w1 ⟨rfl, hR1, hF1⟩; have hS := hT.call hR1 hF1; clear hT hR1 hF1; (try clear hQ); have hQ := St.facts hS.st; (try simp only [Facts, Res.fact, List.cons_append, List.nil_append, true_and, and_true] at hQ); (try clear hN); have hN := aparts hS.st.apart; (try simp only [Aparts, Apart1, List.cons_append, List.nil_append, true_and, and_true] at hN))
      go_end0
      exact ⟨rfl, hS.set Pick.here 3 _⟩
end Go.Proofs.YtokneepfknepaaaGreatDoor

set_option linter.unusedSimpArgs false
set_option linter.unusedVariables false
namespace Go.Proofs.YtokneepfknepaaaGreatDoor
open Go.RowKit

theorem Loc.sl1 {S : List Nat} {w : World} {g : Nat} {u : Value} {T : TypeId} (hl : Loc w g [u] T) (hu : u.oneCell' = true) (hn : g ∉ S) : Sl S w 1 (.slice (some ⟨g, 0, none⟩) 1 1) 1 [u] :=
  ⟨rfl, by simpa using hu, some ⟨g, 0, none⟩, 1, rfl, Nat.le_refl _, by decide, (fun h => by cases h), .inr ⟨g, 0, rfl, hn, hl.lt, fun j hj => by
    obtain rfl : j = 0 := by omega
    simpa using hl.cell 0⟩⟩
theorem RSt.gl0 {S : List Nat} {w0 w : World} {rb : Nat} {bv : Value} {bs : List UInt8} {s : RdS} {G : List Res} (h : RSt S w0 w rb bv bs s G) : Gl [] w := h.rd.gl.sub (by simp)
def blockV (b : BlockT) : Value := .agg #[.int .i64 b.kind, .int .i64 b.val.kind, .bool b.val.null, .int .i64 b.val.heap.kind, .int .i64 b.val.heap.n, .int .i64 b.n]

attribute [go_sem] blockV
set_option maxRecDepth 100000 in set_option maxHeartbeats 1600000 in
theorem ib_block {S : List Nat} {w : World} {rb : Nat} {bv : Value} {bs : List UInt8} {s : RdS} (h : Rd S w rb bv bs s) : Calls Tryz.prog 81 #[.pointer (some ⟨rb, 0, none⟩)] w fun e w' => e = .returned (blockV (rBlock bs s).1) ∧ Rd S w' rb bv bs (rBlock bs s).2 ∧ Fr [rb] w w' := by
  have hS := RSt.start h
  have hle := h.le
  have hsm := h.small
  by_cases h1 : (rS bs 33 s).2.err = 0
  · have q1 : ((rS bs 33 s).2.err != 0) = false := by simp [h1]
    by_cases h2 : 0 ≤ (rS bs 33 s).1
    · have e0 : rBlock bs s = (⟨2, ValT.zero, (rS bs 33 s).1⟩, (rS bs 33 s).2) := by unfold rBlock; rw [if_neg (by omega), if_pos h2]
      rw [e0]
      clear e0 h1
      go_enter Tryz.func81, Tryz.ntmps81
      go_wp2_with first | (go_at_call 43; refine rst_use ?_; (repeat (apply Exists.intro)); refine ⟨?_, ?_⟩; (· exact zrts1); (try simp only [World.size_alloc, World.size_setCell, size_drew, size_drewN]); intro hT; refine (rd_at hT.rd).mono ?_; rintro e w1 ⟨rfl, rfl⟩; clear hT) | (go_at_call 78; refine rst_use ?_; (repeat (apply Exists.intro)); refine ⟨?_, ?_⟩; (· exact zrts1); (try simp only [World.size_alloc, World.size_setCell, size_drew, size_drewN]); intro hT; refine (rd_s hT.rd 33 (by decide) (by decide)).mono ?_; rintro e w1 ⟨rfl, hR1, hF1⟩; have hl1 := hR1.le; have hw := IntWalk.wrap64_in (((rS bs 33 s).2.at_ : Nat) - (s.at_ : Nat) : Int) (by omega); have hS := hT.call hR1 hF1; clear hT hR1 hF1; (try clear hQ); have hQ := St.facts hS.st; (try simp only [Facts, Res.fact, List.cons_append, List.nil_append, true_and, and_true] at hQ); (try clear hN); have hN := aparts hS.st.apart; (try simp only [Aparts, Apart1, List.cons_append, List.nil_append, true_and, and_true] at hN)) | (go_at_call 45; refine rst_use ?_; (repeat (apply Exists.intro)); refine ⟨?_, ?_⟩; (· exact zrts1); (try simp only [World.size_alloc, World.size_setCell, size_drew, size_drewN]); intro hT; refine (ib_failed hT.rd).mono ?_; rintro e w1 ⟨rfl, hR1, hF1⟩; have hS := hT.call hR1 hF1; clear hT hR1 hF1; (try clear hQ); have hQ := St.facts hS.st; (try simp only [Facts, Res.fact, List.cons_append, List.nil_append, true_and, and_true] at hQ); (try clear hN); have hN := aparts hS.st.apart; (try simp only [Aparts, Apart1, List.cons_append, List.nil_append, true_and, and_true] at hN)) | (go_at_call 17; refine rst_use ?_; (repeat (apply Exists.intro)); refine ⟨?_, ?_⟩; (· exact zrts1); (try simp only [World.size_alloc, World.size_setCell, size_drew, size_drewN]); intro hT; refine (open_any (S := []) (bs := [UInt8.ofNat (low7 (rS bs 33 s).1)]) (by show Sl [] _ 1 _ 1 [B (UInt8.ofNat (low7 (rS bs 33 s).1))]; rw [hB.out]; exact Loc.sl1 (hT.st.loc Pick.here) rfl (by simp)) hT.gl0 (by simp)).mono ?_; rintro e w2 ⟨ra, va, rfl, hA, hN2, hF2⟩; have hO := hT; clear hT) | (go_at_call 109; refine (rd_val hA).mono ?_; rintro e w3 ⟨rfl, hA3, hF3⟩; have hAa := hA3.alloc; have hS := hO.alone hF2 hN2 hF3; clear hO hF2 hN2 hF3; (try clear hQ); have hQ := St.facts hS.st; (try simp only [Facts, Res.fact, List.cons_append, List.nil_append, true_and, and_true] at hQ); (try clear hN); have hN := aparts hS.st.apart; (try simp only [Aparts, Apart1, List.cons_append, List.nil_append, true_and, and_true] at hN)) | (go_at_call 18; refine (rd_err (hAa _)).mono ?_; rintro e w' ⟨rfl, nq, rfl⟩) | (go_at_call 79; refine rst_use ?_; (repeat (apply Exists.intro)); refine ⟨?_, ?_⟩; (· exact zrts1); (try simp only [World.size_alloc, World.size_setCell, size_drew, size_drewN]); intro hT; refine (rd_heap hT.rd).mono ?_; rintro e w1 ⟨rfl, hR1, hF1⟩; have hS := hT.call hR1 hF1; clear hT hR1 hF1; (try clear hQ); have hQ := St.facts hS.st; (try simp only [Facts, Res.fact, List.cons_append, List.nil_append, true_and, and_true] at hQ); (try clear hN); have hN := aparts hS.st.apart; (try simp only [Aparts, Apart1, List.cons_append, List.nil_append, true_and, and_true] at hN)) | (go_at_call 46; refine rst_use ?_; (repeat (apply Exists.intro)); refine ⟨?_, ?_⟩; (· exact zrts1); (try simp only [World.size_alloc, World.size_setCell, size_drew, size_drewN]); intro hT; refine (rd_fail hT.rd _ _).mono ?_; rintro e w1 ⟨rfl, hR1, hF1⟩; have hS := hT.call hR1 hF1; clear hT hR1 hF1; (try clear hQ); have hQ := St.facts hS.st; (try simp only [Facts, Res.fact, List.cons_append, List.nil_append, true_and, and_true] at hQ); (try clear hN); have hN := aparts hS.st.apart; (try simp only [Aparts, Apart1, List.cons_append, List.nil_append, true_and, and_true] at hN))
      refine rst_ret rfl rfl und_block rfl rfl ?_; (repeat (apply Exists.intro)); refine ⟨?_, ?_, ?_, ?_⟩; (· exact zrts1); (· (try simp only [World.size_alloc, World.size_setCell, size_drew, size_drewN]); (exact zpk2)); (· exact size_block)
      exact ⟨rfl, by (first | (with_reducible exact hS.rd) | (apply RSt.rd; (exact zrts1); done) | exact hS.rd), by (first | (with_reducible exact hS.fr) | (apply RSt.fr; (exact zrts1); done) | exact hS.fr)⟩
    · by_cases h3 : 1 < (rS bs 33 s).2.at_ - s.at_
      · have e0 : rBlock bs s = (BlockT.zero, (rS bs 33 s).2.fail 60 s.at_) := by unfold rBlock; rw [if_neg (by omega), if_neg h2, if_pos h3]
        rw [e0]
        have i3 : (1 : Int) < ((rS bs 33 s).2.at_ : Nat) - (s.at_ : Nat) := by omega
        clear e0 h1 h3
        go_enter Tryz.func81, Tryz.ntmps81
        go_wp2_with first | (go_at_call 43; refine rst_use ?_; (repeat (apply Exists.intro)); refine ⟨?_, ?_⟩; (· exact zrts1); (try simp only [World.size_alloc, World.size_setCell, size_drew, size_drewN]); intro hT; refine (rd_at hT.rd).mono ?_; rintro e w1 ⟨rfl, rfl⟩; clear hT) | (go_at_call 78; refine rst_use ?_; (repeat (apply Exists.intro)); refine ⟨?_, ?_⟩; (· exact zrts1); (try simp only [World.size_alloc, World.size_setCell, size_drew, size_drewN]); intro hT; refine (rd_s hT.rd 33 (by decide) (by decide)).mono ?_; rintro e w1 ⟨rfl, hR1, hF1⟩; have hl1 := hR1.le; have hw := IntWalk.wrap64_in (((rS bs 33 s).2.at_ : Nat) - (s.at_ : Nat) : Int) (by omega); have hS := hT.call hR1 hF1; clear hT hR1 hF1; (try clear hQ); have hQ := St.facts hS.st; (try simp only [Facts, Res.fact, List.cons_append, List.nil_append, true_and, and_true] at hQ); (try clear hN); have hN := aparts hS.st.apart; (try simp only [Aparts, Apart1, List.cons_append, List.nil_append, true_and, and_true] at hN)) | (go_at_call 45; refine rst_use ?_; (repeat (apply Exists.intro)); refine ⟨?_, ?_⟩; (· exact zrts1); (try simp only [World.size_alloc, World.size_setCell, size_drew, size_drewN]); intro hT; refine (ib_failed hT.rd).mono ?_; rintro e w1 ⟨rfl, hR1, hF1⟩; have hS := hT.call hR1 hF1; clear hT hR1 hF1; (try clear hQ); have hQ := St.facts hS.st; (try simp only [Facts, Res.fact, List.cons_append, List.nil_append, true_and, and_true] at hQ); (try clear hN); have hN := aparts hS.st.apart; (try simp only [Aparts, Apart1, List.cons_append, List.nil_append, true_and, and_true] at hN)) | (go_at_call 17; refine rst_use ?_; (repeat (apply Exists.intro)); refine ⟨?_, ?_⟩; (· exact zrts1); (try simp only [World.size_alloc, World.size_setCell, size_drew, size_drewN]); intro hT; refine (open_any (S := []) (bs := [UInt8.ofNat (low7 (rS bs 33 s).1)]) (by show Sl [] _ 1 _ 1 [B (UInt8.ofNat (low7 (rS bs 33 s).1))]; rw [hB.out]; exact Loc.sl1 (hT.st.loc Pick.here) rfl (by simp)) hT.gl0 (by simp)).mono ?_; rintro e w2 ⟨ra, va, rfl, hA, hN2, hF2⟩; have hO := hT; clear hT) | (go_at_call 109; refine (rd_val hA).mono ?_; rintro e w3 ⟨rfl, hA3, hF3⟩; have hAa := hA3.alloc; have hS := hO.alone hF2 hN2 hF3; clear hO hF2 hN2 hF3; (try clear hQ); have hQ := St.facts hS.st; (try simp only [Facts, Res.fact, List.cons_append, List.nil_append, true_and, and_true] at hQ); (try clear hN); have hN := aparts hS.st.apart; (try simp only [Aparts, Apart1, List.cons_append, List.nil_append, true_and, and_true] at hN)) | (go_at_call 18; refine (rd_err (hAa _)).mono ?_; rintro e w' ⟨rfl, nq, rfl⟩) | (go_at_call 79; refine rst_use ?_; (repeat (apply Exists.intro)); refine ⟨?_, ?_⟩; (· exact zrts1); (try simp only [World.size_alloc, World.size_setCell, size_drew, size_drewN]); intro hT; refine (rd_heap hT.rd).mono ?_; rintro e w1 ⟨rfl, hR1, hF1⟩; have hS := hT.call hR1 hF1; clear hT hR1 hF1; (try clear hQ); have hQ := St.facts hS.st; (try simp only [Facts, Res.fact, List.cons_append, List.nil_append, true_and, and_true] at hQ); (try clear hN); have hN := aparts hS.st.apart; (try simp only [Aparts, Apart1, List.cons_append, List.nil_append, true_and, and_true] at hN)) | (go_at_call 46; refine rst_use ?_; (repeat (apply Exists.intro)); refine ⟨?_, ?_⟩; (· exact zrts1); (try simp only [World.size_alloc, World.size_setCell, size_drew, size_drewN]); intro hT; refine (rd_fail hT.rd _ _).mono ?_; rintro e w1 ⟨rfl, hR1, hF1⟩; have hS := hT.call hR1 hF1; clear hT hR1 hF1; (try clear hQ); have hQ := St.facts hS.st; (try simp only [Facts, Res.fact, List.cons_append, List.nil_append, true_and, and_true] at hQ); (try clear hN); have hN := aparts hS.st.apart; (try simp only [Aparts, Apart1, List.cons_append, List.nil_append, true_and, and_true] at hN))
        refine rst_ret rfl rfl und_block rfl rfl ?_; (repeat (apply Exists.intro)); refine ⟨?_, ?_, ?_, ?_⟩; (· exact zrts1); (· (try simp only [World.size_alloc, World.size_setCell, size_drew, size_drewN]); (exact zpk2)); (· exact size_block)
        exact ⟨rfl, by (first | (with_reducible exact hS.rd) | (apply RSt.rd; (exact zrts1); done) | exact hS.rd), by (first | (with_reducible exact hS.fr) | (apply RSt.fr; (exact zrts1); done) | exact hS.fr)⟩
      · have e0 : rBlock bs s = rBlockV bs (low7 (rS bs 33 s).1) s.at_ (rS bs 33 s).2 := by unfold rBlock; rw [if_neg (by omega), if_neg h2, if_neg h3]
        rw [e0]
        have i3 : ¬ (1 : Int) < ((rS bs 33 s).2.at_ : Nat) - (s.at_ : Nat) := by omega
        have hc : bits BinOp.and IntKind.i64 (rS bs 33 s).1 127 % 256 = ((low7 (rS bs 33 s).1 : Nat) : Int) := by rw [i64_and127]; unfold low7; omega
        have hlow : low7 (rS bs 33 s).1 < 128 := by unfold low7; omega
        have hB : Hid (B (UInt8.ofNat (low7 (rS bs 33 s).1)) = .int .u8 (low7 (rS bs 33 s).1 : Nat)) := by
          refine Lib.hid ?_
          unfold B
          rw [UInt8.toNat_ofNat_of_lt' (by show low7 (rS bs 33 s).1 < 256; omega)]
        unfold rBlockV
        clear e0 h1 h3
        by_cases h4 : low7 (rS bs 33 s).1 = 64
        · rw [if_pos h4]
          have q4 : (((low7 (rS bs 33 s).1 : Nat) : Int) == 64) = true := by simp; omega
          clear h4
          go_enter Tryz.func81, Tryz.ntmps81
          go_wp2_with first | (go_at_call 43; refine rst_use ?_; (repeat (apply Exists.intro)); refine ⟨?_, ?_⟩; (· exact zrts1); (try simp only [World.size_alloc, World.size_setCell, size_drew, size_drewN]); intro hT; refine (rd_at hT.rd).mono ?_; rintro e w1 ⟨rfl, rfl⟩; clear hT) | (go_at_call 78; refine rst_use ?_; (repeat (apply Exists.intro)); refine ⟨?_, ?_⟩; (· exact zrts1); (try simp only [World.size_alloc, World.size_setCell, size_drew, size_drewN]); intro hT; refine (rd_s hT.rd 33 (by decide) (by decide)).mono ?_; rintro e w1 ⟨rfl, hR1, hF1⟩; have hl1 := hR1.le; have hw := IntWalk.wrap64_in (((rS bs 33 s).2.at_ : Nat) - (s.at_ : Nat) : Int) (by omega); have hS := hT.call hR1 hF1; clear hT hR1 hF1; (try clear hQ); have hQ := St.facts hS.st; (try simp only [Facts, Res.fact, List.cons_append, List.nil_append, true_and, and_true] at hQ); (try clear hN); have hN := aparts hS.st.apart; (try simp only [Aparts, Apart1, List.cons_append, List.nil_append, true_and, and_true] at hN)) | (go_at_call 45; refine rst_use ?_; (repeat (apply Exists.intro)); refine ⟨?_, ?_⟩; (· exact zrts1); (try simp only [World.size_alloc, World.size_setCell, size_drew, size_drewN]); intro hT; refine (ib_failed hT.rd).mono ?_; rintro e w1 ⟨rfl, hR1, hF1⟩; have hS := hT.call hR1 hF1; clear hT hR1 hF1; (try clear hQ); have hQ := St.facts hS.st; (try simp only [Facts, Res.fact, List.cons_append, List.nil_append, true_and, and_true] at hQ); (try clear hN); have hN := aparts hS.st.apart; (try simp only [Aparts, Apart1, List.cons_append, List.nil_append, true_and, and_true] at hN)) | (go_at_call 17; refine rst_use ?_; (repeat (apply Exists.intro)); refine ⟨?_, ?_⟩; (· exact zrts1); (try simp only [World.size_alloc, World.size_setCell, size_drew, size_drewN]); intro hT; refine (open_any (S := []) (bs := [UInt8.ofNat (low7 (rS bs 33 s).1)]) (by show Sl [] _ 1 _ 1 [B (UInt8.ofNat (low7 (rS bs 33 s).1))]; rw [hB.out]; exact Loc.sl1 (hT.st.loc Pick.here) rfl (by simp)) hT.gl0 (by simp)).mono ?_; rintro e w2 ⟨ra, va, rfl, hA, hN2, hF2⟩; have hO := hT; clear hT) | (go_at_call 109; refine (rd_val hA).mono ?_; rintro e w3 ⟨rfl, hA3, hF3⟩; have hAa := hA3.alloc; have hS := hO.alone hF2 hN2 hF3; clear hO hF2 hN2 hF3; (try clear hQ); have hQ := St.facts hS.st; (try simp only [Facts, Res.fact, List.cons_append, List.nil_append, true_and, and_true] at hQ); (try clear hN); have hN := aparts hS.st.apart; (try simp only [Aparts, Apart1, List.cons_append, List.nil_append, true_and, and_true] at hN)) | (go_at_call 18; refine (rd_err (hAa _)).mono ?_; rintro e w' ⟨rfl, nq, rfl⟩) | (go_at_call 79; refine rst_use ?_; (repeat (apply Exists.intro)); refine ⟨?_, ?_⟩; (· exact zrts1); (try simp only [World.size_alloc, World.size_setCell, size_drew, size_drewN]); intro hT; refine (rd_heap hT.rd).mono ?_; rintro e w1 ⟨rfl, hR1, hF1⟩; have hS := hT.call hR1 hF1; clear hT hR1 hF1; (try clear hQ); have hQ := St.facts hS.st; (try simp only [Facts, Res.fact, List.cons_append, List.nil_append, true_and, and_true] at hQ); (try clear hN); have hN := aparts hS.st.apart; (try simp only [Aparts, Apart1, List.cons_append, List.nil_append, true_and, and_true] at hN)) | (go_at_call 46; refine rst_use ?_; (repeat (apply Exists.intro)); refine ⟨?_, ?_⟩; (· exact zrts1); (try simp only [World.size_alloc, World.size_setCell, size_drew, size_drewN]); intro hT; refine (rd_fail hT.rd _ _).mono ?_; rintro e w1 ⟨rfl, hR1, hF1⟩; have hS := hT.call hR1 hF1; clear hT hR1 hF1; (try clear hQ); have hQ := St.facts hS.st; (try simp only [Facts, Res.fact, List.cons_append, List.nil_append, true_and, and_true] at hQ); (try clear hN); have hN := aparts hS.st.apart; (try simp only [Aparts, Apart1, List.cons_append, List.nil_append, true_and, and_true] at hN))
          refine rst_ret rfl rfl und_block rfl rfl ?_; (repeat (apply Exists.intro)); refine ⟨?_, ?_, ?_, ?_⟩; (· exact zrts1); (· (try simp only [World.size_alloc, World.size_setCell, size_drew, size_drewN]); (exact zpk2)); (· exact size_block)
          exact ⟨rfl, by (first | (with_reducible exact hS.rd) | (apply RSt.rd; (exact zrts1); done) | exact hS.rd), by (first | (with_reducible exact hS.fr) | (apply RSt.fr; (exact zrts1); done) | exact hS.fr)⟩
        · rw [if_neg h4]
          have q4 : (((low7 (rS bs 33 s).1 : Nat) : Int) == 64) = false := by simp; omega
          clear h4
          by_cases h5 : (rVal [UInt8.ofNat (low7 (rS bs 33 s).1)] rOpen).2.err = 0
          · rw [if_pos h5]
            have q5 : ((rVal [UInt8.ofNat (low7 (rS bs 33 s).1)] rOpen).2.err == 0) = true := by simp [h5]
            clear h5
            go_enter Tryz.func81, Tryz.ntmps81
            go_wp2_with first | (go_at_call 43; refine rst_use ?_; (repeat (apply Exists.intro)); refine ⟨?_, ?_⟩; (· exact zrts1); (try simp only [World.size_alloc, World.size_setCell, size_drew, size_drewN]); intro hT; refine (rd_at hT.rd).mono ?_; rintro e w1 ⟨rfl, rfl⟩; clear hT) | (go_at_call 78; refine rst_use ?_; (repeat (apply Exists.intro)); refine ⟨?_, ?_⟩; (· exact zrts1); (try simp only [World.size_alloc, World.size_setCell, size_drew, size_drewN]); intro hT; refine (rd_s hT.rd 33 (by decide) (by decide)).mono ?_; rintro e w1 ⟨rfl, hR1, hF1⟩; have hl1 := hR1.le; have hw := IntWalk.wrap64_in (((rS bs 33 s).2.at_ : Nat) - (s.at_ : Nat) : Int) (by omega); have hS := hT.call hR1 hF1; clear hT hR1 hF1; (try clear hQ); have hQ := St.facts hS.st; (try simp only [Facts, Res.fact, List.cons_append, List.nil_append, true_and, and_true] at hQ); (try clear hN); have hN := aparts hS.st.apart; (try simp only [Aparts, Apart1, List.cons_append, List.nil_append, true_and, and_true] at hN)) | (go_at_call 45; refine rst_use ?_; (repeat (apply Exists.intro)); refine ⟨?_, ?_⟩; (· exact zrts1); (try simp only [World.size_alloc, World.size_setCell, size_drew, size_drewN]); intro hT; refine (ib_failed hT.rd).mono ?_; rintro e w1 ⟨rfl, hR1, hF1⟩; have hS := hT.call hR1 hF1; clear hT hR1 hF1; (try clear hQ); have hQ := St.facts hS.st; (try simp only [Facts, Res.fact, List.cons_append, List.nil_append, true_and, and_true] at hQ); (try clear hN); have hN := aparts hS.st.apart; (try simp only [Aparts, Apart1, List.cons_append, List.nil_append, true_and, and_true] at hN)) | (go_at_call 17; refine rst_use ?_; (repeat (apply Exists.intro)); refine ⟨?_, ?_⟩; (· exact zrts1); (try simp only [World.size_alloc, World.size_setCell, size_drew, size_drewN]); intro hT; refine (open_any (S := []) (bs := [UInt8.ofNat (low7 (rS bs 33 s).1)]) (by show Sl [] _ 1 _ 1 [B (UInt8.ofNat (low7 (rS bs 33 s).1))]; rw [hB.out]; exact Loc.sl1 (hT.st.loc Pick.here) rfl (by simp)) hT.gl0 (by simp)).mono ?_; rintro e w2 ⟨ra, va, rfl, hA, hN2, hF2⟩; have hO := hT; clear hT) | (go_at_call 109; refine (rd_val hA).mono ?_; rintro e w3 ⟨rfl, hA3, hF3⟩; have hAa := hA3.alloc; have hS := hO.alone hF2 hN2 hF3; clear hO hF2 hN2 hF3; (try clear hQ); have hQ := St.facts hS.st; (try simp only [Facts, Res.fact, List.cons_append, List.nil_append, true_and, and_true] at hQ); (try clear hN); have hN := aparts hS.st.apart; (try simp only [Aparts, Apart1, List.cons_append, List.nil_append, true_and, and_true] at hN)) | (go_at_call 18; refine (rd_err (hAa _)).mono ?_; rintro e w' ⟨rfl, nq, rfl⟩) | (go_at_call 79; refine rst_use ?_; (repeat (apply Exists.intro)); refine ⟨?_, ?_⟩; (· exact zrts1); (try simp only [World.size_alloc, World.size_setCell, size_drew, size_drewN]); intro hT; refine (rd_heap hT.rd).mono ?_; rintro e w1 ⟨rfl, hR1, hF1⟩; have hS := hT.call hR1 hF1; clear hT hR1 hF1; (try clear hQ); have hQ := St.facts hS.st; (try simp only [Facts, Res.fact, List.cons_append, List.nil_append, true_and, and_true] at hQ); (try clear hN); have hN := aparts hS.st.apart; (try simp only [Aparts, Apart1, List.cons_append, List.nil_append, true_and, and_true] at hN)) | (go_at_call 46; refine rst_use ?_; (repeat (apply Exists.intro)); refine ⟨?_, ?_⟩; (· exact zrts1); (try simp only [World.size_alloc, World.size_setCell, size_drew, size_drewN]); intro hT; refine (rd_fail hT.rd _ _).mono ?_; rintro e w1 ⟨rfl, hR1, hF1⟩; have hS := hT.call hR1 hF1; clear hT hR1 hF1; (try clear hQ); have hQ := St.facts hS.st; (try simp only [Facts, Res.fact, List.cons_append, List.nil_append, true_and, and_true] at hQ); (try clear hN); have hN := aparts hS.st.apart; (try simp only [Aparts, Apart1, List.cons_append, List.nil_append, true_and, and_true] at hN))
            refine rst_ret rfl rfl und_block rfl rfl ?_; (repeat (apply Exists.intro)); refine ⟨?_, ?_, ?_, ?_⟩; (· exact zrts1); (· (try simp only [World.size_alloc, World.size_setCell, size_drew, size_drewN]); (exact zpk2)); (· exact size_block)
            exact ⟨rfl, by (first | (with_reducible exact hS.rd) | (apply RSt.rd; (exact zrts1); done) | exact hS.rd), by (first | (with_reducible exact hS.fr) | (apply RSt.fr; (exact zrts1); done) | exact hS.fr)⟩
          · rw [if_neg h5]
            have q5 : ((rVal [UInt8.ofNat (low7 (rS bs 33 s).1)] rOpen).2.err == 0) = false := by simp [h5]
            clear h5
            by_cases h6 : (rVal [UInt8.ofNat (low7 (rS bs 33 s).1)] rOpen).2.err = 10
            · rw [if_pos h6]
              have q6 : ((rVal [UInt8.ofNat (low7 (rS bs 33 s).1)] rOpen).2.err == 10) = true := by simp [h6]
              have q7 : (((low7 (rS bs 33 s).1 : Nat) : Int) == 99) = (low7 (rS bs 33 s).1 == 99) := by rw [Bool.eq_iff_iff]; simp; omega
              clear h6
              go_enter Tryz.func81, Tryz.ntmps81
              go_wp2_with first | (go_at_call 43; refine rst_use ?_; (repeat (apply Exists.intro)); refine ⟨?_, ?_⟩; (· exact zrts1); (try simp only [World.size_alloc, World.size_setCell, size_drew, size_drewN]); intro hT; refine (rd_at hT.rd).mono ?_; rintro e w1 ⟨rfl, rfl⟩; clear hT) | (go_at_call 78; refine rst_use ?_; (repeat (apply Exists.intro)); refine ⟨?_, ?_⟩; (· exact zrts1); (try simp only [World.size_alloc, World.size_setCell, size_drew, size_drewN]); intro hT; refine (rd_s hT.rd 33 (by decide) (by decide)).mono ?_; rintro e w1 ⟨rfl, hR1, hF1⟩; have hl1 := hR1.le; have hw := IntWalk.wrap64_in (((rS bs 33 s).2.at_ : Nat) - (s.at_ : Nat) : Int) (by omega); have hS := hT.call hR1 hF1; clear hT hR1 hF1; (try clear hQ); have hQ := St.facts hS.st; (try simp only [Facts, Res.fact, List.cons_append, List.nil_append, true_and, and_true] at hQ); (try clear hN); have hN := aparts hS.st.apart; (try simp only [Aparts, Apart1, List.cons_append, List.nil_append, true_and, and_true] at hN)) | (go_at_call 45; refine rst_use ?_; (repeat (apply Exists.intro)); refine ⟨?_, ?_⟩; (· exact zrts1); (try simp only [World.size_alloc, World.size_setCell, size_drew, size_drewN]); intro hT; refine (ib_failed hT.rd).mono ?_; rintro e w1 ⟨rfl, hR1, hF1⟩; have hS := hT.call hR1 hF1; clear hT hR1 hF1; (try clear hQ); have hQ := St.facts hS.st; (try simp only [Facts, Res.fact, List.cons_append, List.nil_append, true_and, and_true] at hQ); (try clear hN); have hN := aparts hS.st.apart; (try simp only [Aparts, Apart1, List.cons_append, List.nil_append, true_and, and_true] at hN)) | (go_at_call 17; refine rst_use ?_; (repeat (apply Exists.intro)); refine ⟨?_, ?_⟩; (· exact zrts1); (try simp only [World.size_alloc, World.size_setCell, size_drew, size_drewN]); intro hT; refine (open_any (S := []) (bs := [UInt8.ofNat (low7 (rS bs 33 s).1)]) (by show Sl [] _ 1 _ 1 [B (UInt8.ofNat (low7 (rS bs 33 s).1))]; rw [hB.out]; exact Loc.sl1 (hT.st.loc Pick.here) rfl (by simp)) hT.gl0 (by simp)).mono ?_; rintro e w2 ⟨ra, va, rfl, hA, hN2, hF2⟩; have hO := hT; clear hT) | (go_at_call 109; refine (rd_val hA).mono ?_; rintro e w3 ⟨rfl, hA3, hF3⟩; have hAa := hA3.alloc; have hS := hO.alone hF2 hN2 hF3; clear hO hF2 hN2 hF3; (try clear hQ); have hQ := St.facts hS.st; (try simp only [Facts, Res.fact, List.cons_append, List.nil_append, true_and, and_true] at hQ); (try clear hN); have hN := aparts hS.st.apart; (try simp only [Aparts, Apart1, List.cons_append, List.nil_append, true_and, and_true] at hN)) | (go_at_call 18; refine (rd_err (hAa _)).mono ?_; rintro e w' ⟨rfl, nq, rfl⟩) | (go_at_call 79; refine rst_use ?_; (repeat (apply Exists.intro)); refine ⟨?_, ?_⟩; (· exact zrts1); (try simp only [World.size_alloc, World.size_setCell, size_drew, size_drewN]); intro hT; refine (rd_heap hT.rd).mono ?_; rintro e w1 ⟨rfl, hR1, hF1⟩; have hS := hT.call hR1 hF1; clear hT hR1 hF1; (try clear hQ); have hQ := St.facts hS.st; (try simp only [Facts, Res.fact, List.cons_append, List.nil_append, true_and, and_true] at hQ); (try clear hN); have hN := aparts hS.st.apart; (try simp only [Aparts, Apart1, List.cons_append, List.nil_append, true_and, and_true] at hN)) | (go_at_call 46; refine rst_use ?_; (repeat (apply Exists.intro)); refine ⟨?_, ?_⟩; (· exact zrts1); (try simp only [World.size_alloc, World.size_setCell, size_drew, size_drewN]); intro hT; refine (rd_fail hT.rd _ _).mono ?_; rintro e w1 ⟨rfl, hR1, hF1⟩; have hS := hT.call hR1 hF1; clear hT hR1 hF1; (try clear hQ); have hQ := St.facts hS.st; (try simp only [Facts, Res.fact, List.cons_append, List.nil_append, true_and, and_true] at hQ); (try clear hN); have hN := aparts hS.st.apart; (try simp only [Aparts, Apart1, List.cons_append, List.nil_append, true_and, and_true] at hN))
              refine rst_ret rfl rfl und_block rfl rfl ?_; (repeat (apply Exists.intro)); refine ⟨?_, ?_, ?_, ?_⟩; (· exact zrts1); (· (try simp only [World.size_alloc, World.size_setCell, size_drew, size_drewN]); (exact zpk2)); (· exact size_block)
              exact ⟨rfl, by (first | (with_reducible exact hS.rd) | (apply RSt.rd; (exact zrts1); done) | exact hS.rd), by (first | (with_reducible exact hS.fr) | (apply RSt.fr; (exact zrts1); done) | exact hS.fr)⟩
            · rw [if_neg h6]
              have q6 : ((rVal [UInt8.ofNat (low7 (rS bs 33 s).1)] rOpen).2.err == 10) = false := by simp [h6]
              clear h6
              go_enter Tryz.func81, Tryz.ntmps81
              go_wp2_with first | (go_at_call 43; refine rst_use ?_; (repeat (apply Exists.intro)); refine ⟨?_, ?_⟩; (· exact zrts1); (try simp only [World.size_alloc, World.size_setCell, size_drew, size_drewN]); intro hT; refine (rd_at hT.rd).mono ?_; rintro e w1 ⟨rfl, rfl⟩; clear hT) | (go_at_call 78; refine rst_use ?_; (repeat (apply Exists.intro)); refine ⟨?_, ?_⟩; (· exact zrts1); (try simp only [World.size_alloc, World.size_setCell, size_drew, size_drewN]); intro hT; refine (rd_s hT.rd 33 (by decide) (by decide)).mono ?_; rintro e w1 ⟨rfl, hR1, hF1⟩; have hl1 := hR1.le; have hw := IntWalk.wrap64_in (((rS bs 33 s).2.at_ : Nat) - (s.at_ : Nat) : Int) (by omega); have hS := hT.call hR1 hF1; clear hT hR1 hF1; (try clear hQ); have hQ := St.facts hS.st; (try simp only [Facts, Res.fact, List.cons_append, List.nil_append, true_and, and_true] at hQ); (try clear hN); have hN := aparts hS.st.apart; (try simp only [Aparts, Apart1, List.cons_append, List.nil_append, true_and, and_true] at hN)) | (go_at_call 45; refine rst_use ?_; (repeat (apply Exists.intro)); refine ⟨?_, ?_⟩; (· exact zrts1); (try simp only [World.size_alloc, World.size_setCell, size_drew, size_drewN]); intro hT; refine (ib_failed hT.rd).mono ?_; rintro e w1 ⟨rfl, hR1, hF1⟩; have hS := hT.call hR1 hF1; clear hT hR1 hF1; (try clear hQ); have hQ := St.facts hS.st; (try simp only [Facts, Res.fact, List.cons_append, List.nil_append, true_and, and_true] at hQ); (try clear hN); have hN := aparts hS.st.apart; (try simp only [Aparts, Apart1, List.cons_append, List.nil_append, true_and, and_true] at hN)) | (go_at_call 17; refine rst_use ?_; (repeat (apply Exists.intro)); refine ⟨?_, ?_⟩; (· exact zrts1); (try simp only [World.size_alloc, World.size_setCell, size_drew, size_drewN]); intro hT; refine (open_any (S := []) (bs := [UInt8.ofNat (low7 (rS bs 33 s).1)]) (by show Sl [] _ 1 _ 1 [B (UInt8.ofNat (low7 (rS bs 33 s).1))]; rw [hB.out]; exact Loc.sl1 (hT.st.loc Pick.here) rfl (by simp)) hT.gl0 (by simp)).mono ?_; rintro e w2 ⟨ra, va, rfl, hA, hN2, hF2⟩; have hO := hT; clear hT) | (go_at_call 109; refine (rd_val hA).mono ?_; rintro e w3 ⟨rfl, hA3, hF3⟩; have hAa := hA3.alloc; have hS := hO.alone hF2 hN2 hF3; clear hO hF2 hN2 hF3; (try clear hQ); have hQ := St.facts hS.st; (try simp only [Facts, Res.fact, List.cons_append, List.nil_append, true_and, and_true] at hQ); (try clear hN); have hN := aparts hS.st.apart; (try simp only [Aparts, Apart1, List.cons_append, List.nil_append, true_and, and_true] at hN)) | (go_at_call 18; refine (rd_err (hAa _)).mono ?_; rintro e w' ⟨rfl, nq, rfl⟩) | (go_at_call 79; refine rst_use ?_; (repeat (apply Exists.intro)); refine ⟨?_, ?_⟩; (· exact zrts1); (try simp only [World.size_alloc, World.size_setCell, size_drew, size_drewN]); intro hT; refine (rd_heap hT.rd).mono ?_; rintro e w1 ⟨rfl, hR1, hF1⟩; have hS := hT.call hR1 hF1; clear hT hR1 hF1; (try clear hQ); have hQ := St.facts hS.st; (try simp only [Facts, Res.fact, List.cons_append, List.nil_append, true_and, and_true] at hQ); (try clear hN); have hN := aparts hS.st.apart; (try simp only [Aparts, Apart1, List.cons_append, List.nil_append, true_and, and_true] at hN)) | (go_at_call 46; refine rst_use ?_; (repeat (apply Exists.intro)); refine ⟨?_, ?_⟩; (· exact zrts1); (try simp only [World.size_alloc, World.size_setCell, size_drew, size_drewN]); intro hT; refine (rd_fail hT.rd _ _).mono ?_; rintro e w1 ⟨rfl, hR1, hF1⟩; have hS := hT.call hR1 hF1; clear hT hR1 hF1; (try clear hQ); have hQ := St.facts hS.st; (try simp only [Facts, Res.fact, List.cons_append, List.nil_append, true_and, and_true] at hQ); (try clear hN); have hN := aparts hS.st.apart; (try simp only [Aparts, Apart1, List.cons_append, List.nil_append, true_and, and_true] at hN))
              refine rst_ret rfl rfl und_block rfl rfl ?_; (repeat (apply Exists.intro)); refine ⟨?_, ?_, ?_, ?_⟩; (· exact zrts1); (· (try simp only [World.size_alloc, World.size_setCell, size_drew, size_drewN]); (exact zpk2)); (· exact size_block)
              exact ⟨rfl, by (first | (with_reducible exact hS.rd) | (apply RSt.rd; (exact zrts1); done) | exact hS.rd), by (first | (with_reducible exact hS.fr) | (apply RSt.fr; (exact zrts1); done) | exact hS.fr)⟩
  · have q1 : ((rS bs 33 s).2.err != 0) = true := by simp [h1]
    have e0 : rBlock bs s = (BlockT.zero, (rS bs 33 s).2) := by unfold rBlock; rw [if_pos h1]
    rw [e0]
    clear e0 h1
    go_enter Tryz.func81, Tryz.ntmps81
    go_wp2_with first | (go_at_call 43; refine rst_use ?_; (repeat (apply Exists.intro)); refine ⟨?_, ?_⟩; (· exact zrts1); (try simp only [World.size_alloc, World.size_setCell, size_drew, size_drewN]); intro hT; refine (rd_at hT.rd).mono ?_; rintro e w1 ⟨rfl, rfl⟩; clear hT) | (go_at_call 78; refine rst_use ?_; (repeat (apply Exists.intro)); refine ⟨?_, ?_⟩; (· exact zrts1); (try simp only [World.size_alloc, World.size_setCell, size_drew, size_drewN]); intro hT; refine (rd_s hT.rd 33 (by decide) (by decide)).mono ?_; rintro e w1 ⟨rfl, hR1, hF1⟩; have hl1 := hR1.le; have hw := IntWalk.wrap64_in (((rS bs 33 s).2.at_ : Nat) - (s.at_ : Nat) : Int) (by omega); have hS := hT.call hR1 hF1; clear hT hR1 hF1; (try clear hQ); have hQ := St.facts hS.st; (try simp only [Facts, Res.fact, List.cons_append, List.nil_append, true_and, and_true] at hQ); (try clear hN); have hN := aparts hS.st.apart; (try simp only [Aparts, Apart1, List.cons_append, List.nil_append, true_and, and_true] at hN)) | (go_at_call 45; refine rst_use ?_; (repeat (apply Exists.intro)); refine ⟨?_, ?_⟩; (· exact zrts1); (try simp only [World.size_alloc, World.size_setCell, size_drew, size_drewN]); intro hT; refine (ib_failed hT.rd).mono ?_; rintro e w1 ⟨rfl, hR1, hF1⟩; have hS := hT.call hR1 hF1; clear hT hR1 hF1; (try clear hQ); have hQ := St.facts hS.st; (try simp only [Facts, Res.fact, List.cons_append, List.nil_append, true_and, and_true] at hQ); (try clear hN); have hN := aparts hS.st.apart; (try simp only [Aparts, Apart1, List.cons_append, List.nil_append, true_and, and_true] at hN)) | (go_at_call 17; refine rst_use ?_; (repeat (apply Exists.intro)); refine ⟨?_, ?_⟩; (· exact zrts1); (try simp only [World.size_alloc, World.size_setCell, size_drew, size_drewN]); intro hT; refine (open_any (S := []) (bs := [UInt8.ofNat (low7 (rS bs 33 s).1)]) (by show Sl [] _ 1 _ 1 [B (UInt8.ofNat (low7 (rS bs 33 s).1))]; rw [hB.out]; exact Loc.sl1 (hT.st.loc Pick.here) rfl (by simp)) hT.gl0 (by simp)).mono ?_; rintro e w2 ⟨ra, va, rfl, hA, hN2, hF2⟩; have hO := hT; clear hT) | (go_at_call 109; refine (rd_val hA).mono ?_; rintro e w3 ⟨rfl, hA3, hF3⟩; have hAa := hA3.alloc; have hS := hO.alone hF2 hN2 hF3; clear hO hF2 hN2 hF3; (try clear hQ); have hQ := St.facts hS.st; (try simp only [Facts, Res.fact, List.cons_append, List.nil_append, true_and, and_true] at hQ); (try clear hN); have hN := aparts hS.st.apart; (try simp only [Aparts, Apart1, List.cons_append, List.nil_append, true_and, and_true] at hN)) | (go_at_call 18; refine (rd_err (hAa _)).mono ?_; rintro e w' ⟨rfl, nq, rfl⟩) | (go_at_call 79; refine rst_use ?_; (repeat (apply Exists.intro)); refine ⟨?_, ?_⟩; (· exact zrts1); (try simp only [World.size_alloc, World.size_setCell, size_drew, size_drewN]); intro hT; refine (rd_heap hT.rd).mono ?_; rintro e w1 ⟨rfl, hR1, hF1⟩; have hS := hT.call hR1 hF1; clear hT hR1 hF1; (try clear hQ); have hQ := St.facts hS.st; (try simp only [Facts, Res.fact, List.cons_append, List.nil_append, true_and, and_true] at hQ); (try clear hN); have hN := aparts hS.st.apart; (try simp only [Aparts, Apart1, List.cons_append, List.nil_append, true_and, and_true] at hN)) | (go_at_call 46; refine rst_use ?_; (repeat (apply Exists.intro)); refine ⟨?_, ?_⟩; (· exact zrts1); (try simp only [World.size_alloc, World.size_setCell, size_drew, size_drewN]); intro hT; refine (rd_fail hT.rd _ _).mono ?_; rintro e w1 ⟨rfl, hR1, hF1⟩; have hS := hT.call hR1 hF1; clear hT hR1 hF1; (try clear hQ); have hQ := St.facts hS.st; (try simp only [Facts, Res.fact, List.cons_append, List.nil_append, true_and, and_true] at hQ); (try clear hN); have hN := aparts hS.st.apart; (try simp only [Aparts, Apart1, List.cons_append, List.nil_append, true_and, and_true] at hN))
    refine rst_ret rfl rfl und_block rfl rfl ?_; (repeat (apply Exists.intro)); refine ⟨?_, ?_, ?_, ?_⟩; (· exact zrts1); (· (try simp only [World.size_alloc, World.size_setCell, size_drew, size_drewN]); (exact zpk2)); (· exact size_block)
    exact ⟨rfl, by (first | (with_reducible exact hS.rd) | (apply RSt.rd; (exact zrts1); done) | exact hS.rd), by (first | (with_reducible exact hS.fr) | (apply RSt.fr; (exact zrts1); done) | exact hS.fr)⟩
end Go.Proofs.YtokneepfknepaaaGreatDoor

set_option linter.unusedSimpArgs false
set_option linter.unusedVariables false
namespace Go.Proofs.YtokneepfknepaaaGreatDoor
open Go.RowKit
set_option maxRecDepth 100000 in
set_option maxHeartbeats 1600000 in
theorem list_valO {S : List Nat} {w : World} {rb : Nat} {bv : Value} {bs : List UInt8} {s : RdS} (h : Rd S w rb bv bs s) :
    Calls Tryz.prog 108 #[.pointer (some ⟨rb, 0, none⟩), .func (.func 109) #[.pointer (some ⟨rb, 0, none⟩)] #[]] w fun e w' =>
      ∃ v, e = .returned v ∧ Own [] w' 39 4 v (rList bs (rVal bs) s).1.length ((rList bs (rVal bs) s).1.flatMap valC) ∧ New w v ∧ Rd S w' rb bv bs (rList bs (rVal bs) s).2 ∧ Fr [rb] w w' := by
  have hrb := h.loc.lt
  have hsm := h.small
  have hN := rCount_le bs s
  have hl : rList bs (rVal bs) s = ((rMany (rVal bs) (rCount bs s).1 (rCount bs s).2).2.told [] (rMany (rVal bs) (rCount bs s).1 (rCount bs s).2).1, (rMany (rVal bs) (rCount bs s).1 (rCount bs s).2).2) := rfl
  rw [hl]
  clear hl
  go_enter Tryz.func108, Tryz.ntmps108
  go_wp2_with (go_at_call 100; refine (rd_count h).mono ?_; rintro e w1 ⟨rfl, hR1, hF1⟩)
  go_loopw [5, 6] (fun v n wr => ∃ (k : Nat) (xs : List ValT) (t : RdS), n = .int .i64 k ∧ Own [] wr 39 4 v xs.length (xs.flatMap valC) ∧ New w v ∧ Rd S wr rb bv bs t ∧ Fr [rb] w wr ∧ k + xs.length = (rCount bs s).1 ∧ Hid (rMany (rVal bs) (rCount bs s).1 (rCount bs s).2 = (xs ++ (rMany (rVal bs) k t).1, (rMany (rVal bs) k t).2))) (fun _ n _ => (intOf n).toNat)
  case atStart => exact ⟨(rCount bs s).1, [], _, rfl, Own.nil _ _ _ _, New.nil _, hR1, hF1, by simp, Lib.hid rfl⟩
  case round =>
    obtain ⟨k, xs, t, rfl, hown, hnew, hR, hF, hks, hg⟩ := hrel
    have Hks := Lib.hid hks
    have hbnd : xs.length + 1 ≤ 1099511627776 ∨ k = 0 := by omega
    clear hks
    have hexit : (k = 0 ∨ t.err ≠ 0) → rMany (rVal bs) (rCount bs s).1 (rCount bs s).2 = (xs, t) := by
      intro hh
      rw [hg.out]
      cases k with
      | zero => simp [rMany]
      | succ k => simp [rMany, hh.resolve_left (by omega)]
    by_cases hk : k = 0
    · have hE := Lib.hid (hexit (.inl hk))
      subst hk
      clear hexit hbnd
      by_cases he : t.err = 0
      · have g1 : (t.err == 0) = true := by simp [he]
        go_wp2_with first | (go_at_call 116; refine (told_vals hR _).mono ?_; rintro e w' ⟨rfl, rfl⟩) | (go_at_call 85; refine (rd_reads hR).mono ?_; rintro e w' ⟨rfl, rfl⟩)
        go_ret
        refine ⟨_, rfl, ?_, ?_, by rw [hE.out]; exact hR, hF⟩
        · rw [hE.out]
          simp only [RdS.told, if_pos he]
          exact hown
        · exact hnew
      · have g1 : (t.err == 0) = false := by simp [he]
        go_wp2_with first | (go_at_call 116; refine (told_vals hR _).mono ?_; rintro e w' ⟨rfl, rfl⟩) | (go_at_call 85; refine (rd_reads hR).mono ?_; rintro e w' ⟨rfl, rfl⟩)
        go_ret
        refine ⟨_, rfl, ?_, New.nil _, by rw [hE.out]; exact hR, hF⟩
        rw [hE.out]
        simp only [RdS.told, if_neg he]
        exact Own.nil _ _ _ _
    · by_cases he : t.err = 0
      · have g1 : (t.err == 0) = true := by simp [he]
        have hx : rMany (rVal bs) k t = ((rVal bs t).1 :: (rMany (rVal bs) (k - 1) (rVal bs t).2).1, (rMany (rVal bs) (k - 1) (rVal bs t).2).2) := by
          obtain ⟨j, rfl⟩ : ∃ j, k = j + 1 := ⟨k - 1, by omega⟩
          simp [rMany, he]
        have HX := Lib.hid hx
        have hkp : 0 < k := by omega
        have hb2 : xs.length + 1 ≤ 1099511627776 := by omega
        have hk40 : k ≤ 1099511627776 := by have := Hks.out; omega
        clear hx he hexit hbnd
        have hone : ∀ u ∈ valC (rVal bs t).1, u.oneCell' = true := (by intro u hu; simp [valC] at hu; rcases hu with rfl | rfl | rfl | rfl <;> rfl)
        have hrv := hnew.not hrb
        go_wp2_with first | (go_at_call 85; refine (rd_reads hR).mono ?_; rintro e w' ⟨rfl, rfl⟩) | ((go_at_call 109; refine (rd_val hR).mono ?_; rintro e w2 ⟨rfl, hR2, hF2⟩); have hown2 := hown.fr hF2 (by intro b hb; simp at hb; subst hb; exact hrv)) | (at_builtin; refine app_val rfl (.tmp 17) (.tmp 20) _ rfl _ _ _ rfl (hown2.alloc _) _ _ _ rfl (src_alloc und_vals _ (valC (rVal bs t).1) _ _ _ rfl hone) hb2 ?_; intro v' w3 hown3 hf3 hb3)
        have hF3 : Fr [rb] w w3 := ((hF.trans hF2).alloc _).app hf3 hnew
        go_roundw
        case rel =>
          refine ⟨k - 1, xs ++ [(rVal bs t).1], _, by go_num, ?_, hnew.app hb3 (by have := hF.size; have := hF2.size; first | omega | (simp only [World.size_alloc]; omega)), h.step hF3 ((hR2.loc.alloc _).fr hf3 hrv) hR2.le, hF3, by have := Hks.out; simp; omega, Lib.hid ?_⟩
          · simpa using hown3
          · rw [hg.out, HX.out]; simp
        case measure => simp [intOf]; omega
      · have g1 : (t.err == 0) = false := by simp [he]
        have hE := Lib.hid (hexit (.inr he))
        have hkp : 0 < k := by omega
        clear hexit hbnd
        go_wp2_with first | (go_at_call 116; refine (told_vals hR _).mono ?_; rintro e w' ⟨rfl, rfl⟩) | (go_at_call 85; refine (rd_reads hR).mono ?_; rintro e w' ⟨rfl, rfl⟩)
        go_ret
        refine ⟨_, rfl, ?_, New.nil _, by rw [hE.out]; exact hR, hF⟩
        rw [hE.out]
        simp only [RdS.told, if_neg he]
        exact Own.nil _ _ _ _


set_option maxRecDepth 100000 in
set_option maxHeartbeats 400000 in
theorem rd_valsO {S : List Nat} {w : World} {rb : Nat} {bv : Value} {bs : List UInt8} {s : RdS} (h : Rd S w rb bv bs s) :
    Calls Tryz.prog 80 #[.pointer (some ⟨rb, 0, none⟩)] w fun e w' => ∃ v, e = .returned v ∧ RSt S w w' rb bv bs (rVals bs s).2 [.own 39 4 v (rVals bs s).1.length ((rVals bs s).1.flatMap valC)] := by
  have hmf : ∀ (fn : Fn) (first cap : Array Value) (w : World), (Instr.makeFunc fn first cap).run Tryz.prog w = .ok (.func fn first cap) w := fun _ _ _ _ => rfl
  go_enter Tryz.func80, Tryz.ntmps80
  go_wp2_with (go_at_call 108; refine (list_valO h).mono ?_; rintro e w2 ⟨v2, rfl, hO2, hN2, hR2, hF2⟩)
  go_ret
  refine ⟨v2, rfl, ⟨⟨hF2, ?_, ?_, List.pairwise_singleton _ _⟩, ⟨s, h⟩, hR2.loc, hR2.le⟩⟩
  · intro r hr
    obtain rfl := List.mem_singleton.1 hr
    exact hO2
  · intro r hr b hb
    obtain rfl := List.mem_singleton.1 hr
    exact hN2 b hb
end Go.Proofs.YtokneepfknepaaaGreatDoor
