/- The walks of layer 7: what is put, its small parts. The walk of layer 7: what of an instruction is put behind its opcode. Made by tools/rest.py. The walk of layer 7: what of an instruction is put behind its opcode. Made by tools/rest.py. -/
import Derived.Test.YtokneepfknepaaaDoorG6
set_option linter.unusedSimpArgs false
set_option linter.unusedVariables false
namespace Go.Proofs.YtokneepfknepaaaDoor
open Go.RowKit

theorem pPutU (n : Nat) (w : World) (hn : n < 18446744073709551616) : Calls Tryd.prog 113 #[.int .u64 n] w fun e w' => ∃ v, e = .returned v ∧ St [] w w' [.own 5 1 (v) (putU n).length ((putU n).map B)] :=
  (PutU_any n w hn).mono fun e w' ⟨v, h1, h2, h3, h4⟩ => ⟨v, h1, St.ofOut h2 h3 h4⟩
theorem pPutUw (n : Nat) (w : World) (hn : n < 18446744073709551616) : Calls Tryd.prog 113 #[.int .u64 (IntKind.u64.wrap n)] w fun e w' => ∃ v, e = .returned v ∧ St [] w w' [.own 5 1 (v) (putU n).length ((putU n).map B)] := by
  rw [show IntKind.u64.wrap (n : Int) = (n : Int) from (show (n : Int) % 18446744073709551616 = n by omega)]
  exact pPutU n w hn
theorem pPutS (n : Int) (w : World) (h1 : -9223372036854775808 ≤ n) (h2 : n < 9223372036854775808) : Calls Tryd.prog 115 #[.int .i64 n] w fun e w' => ∃ v, e = .returned v ∧ St [] w w' [.own 5 1 (v) (putS n).length ((putS n).map B)] :=
  (PutS_any n w h1 h2).mono fun e w' ⟨v, h1, h2, h3, h4⟩ => ⟨v, h1, St.ofOut h2 h3 h4⟩
theorem st_use {P : Program} {f : FuncId} {args : Array Value} {w : World} {Q : Ending → World → Prop} (h : ∃ S w0 G, St S w0 w G ∧ (St S w0 w G → Calls P f args w Q)) : Calls P f args w Q := by
  obtain ⟨S, w0, G, h1, h2⟩ := h
  exact h2 h1

set_option maxRecDepth 100000 in set_option maxHeartbeats 1600000 in
theorem putNumber_st {S : List Nat} {w0 w : World} {G : List Res} {v : Value} {xs : List UInt8} (hS : St S w0 w (.own 5 1 (v) (xs).length ((xs).map B) :: G)) (n : Int) (h0 : 0 ≤ n) (hn : n < 9223372036854775808) (hx : xs.length ≤ 35184372088832) :
    Calls Tryd.prog 120 #[v, .int .i64 n] w fun e w' => ∃ v', e = .returned v' ∧ St S w0 w' (.own 5 1 (v') (xs ++ pNum n).length ((xs ++ pNum n).map B) :: G) := by
  obtain ⟨m, rfl⟩ : ∃ m : Nat, n = m := ⟨n.toNat, by omega⟩
  have hl := putU_len m (by omega)
  show Calls Tryd.prog 120 #[v, .int .i64 m] w fun e w' => ∃ v', e = .returned v' ∧ St S w0 w' (.own 5 1 (v') (xs ++ putU m).length ((xs ++ putU m).map B) :: G)
  have hm : m < 18446744073709551616 := by omega
  go_enter Tryd.func120, Tryd.ntmps120
  go_wp2_with first | (at_builtin; refine st_app rfl rfl rfl rfl ?_; (repeat (apply Exists.intro)); refine ⟨?_, ?_, ?_, ?_, ?_⟩; (· (repeat (first | (with_reducible assumption) | (with_reducible apply St.alloc) | (with_reducible apply St.drew) | (with_reducible apply St.drewN) | (with_reducible apply St.alloc')))); (· (try simp only [World.size_alloc, World.size_setCell, size_drew, size_drewN]); first | (apply Dst.own; ((try simp only [World.size_alloc, World.size_setCell, size_drew, size_drewN]); repeat (first | (exact Pick.here) | (with_reducible apply Pick.there))); done) | (apply Dst.lit; (· ((try simp only [World.size_alloc, World.size_setCell, size_drew, size_drewN]); repeat (first | (exact Pick.here) | (with_reducible apply Pick.there)))); (· omega)) | (apply Dst.nil; rfl)); (· (try simp only [World.size_alloc, World.size_setCell, size_drew, size_drewN]); first | (apply SrcOf.own; ((try simp only [World.size_alloc, World.size_setCell, size_drew, size_drewN]); repeat (first | (exact Pick.here) | (with_reducible apply Pick.there))); done) | (apply SrcOf.lit; (· ((try simp only [World.size_alloc, World.size_setCell, size_drew, size_drewN]); repeat (first | (exact Pick.here) | (with_reducible apply Pick.there)))); (· omega)) | (apply SrcOf.arg; assumption)); (· (first | (simp only [List.length_append, List.length_cons, List.length_nil, List.length_map]; done) | (simp only [List.length_append, List.length_cons, List.length_nil, List.length_map]; omega) | omega)); intro vN wN hS; (try clear hQ); have hQ := St.facts hS; simp only [Facts, Res.fact, List.cons_append, List.nil_append, true_and, and_true] at hQ) | (go_at_call 113; (first | (with_reducible refine (pPutU m _ hm).mono ?_) | (with_reducible refine (pPutUw m _ hm).mono ?_)); rintro e w4 ⟨v4, rfl, s4⟩; refine st_go s4 ?_; (repeat (apply Exists.intro)); refine ⟨?_, ?_⟩; (· (repeat (first | (with_reducible assumption) | (with_reducible apply St.alloc) | (with_reducible apply St.drew) | (with_reducible apply St.drewN) | (with_reducible apply St.alloc')))); (try simp only [World.size_alloc, World.size_setCell, size_drew, size_drewN]); intro hS; simp only [List.cons_append, List.nil_append] at hS; (try clear hQ); have hQ := St.facts hS; simp only [Facts, Res.fact, List.cons_append, List.nil_append, true_and, and_true] at hQ)
  go_ret
  exact ⟨_, rfl, hS.sel (by ((try simp only [World.size_alloc, World.size_setCell, size_drew, size_drewN]); repeat (first | (exact Sel.all) | (exact Sel.nil) | (apply Sel.cons; (· ((try simp only [World.size_alloc, World.size_setCell, size_drew, size_drewN]); repeat (first | (exact Pick.here) | (with_reducible apply Pick.there))); done)) | (apply Sel.skip))))⟩
/-- A number is put behind what is there. -/
theorem st_num {w : World} {v : Value} {n : Int} {Q : Ending → World → Prop} (h : ∃ S w0 G G' xs, St S w0 w G ∧ Pick G (.own 5 1 (v) (xs).length ((xs).map B)) G' ∧ (0 ≤ n ∧ n < 9223372036854775808) ∧ xs.length ≤ 35184372088832 ∧ ∀ v' w', St S w0 w' (.own 5 1 (v') (xs ++ pNum n).length ((xs ++ pNum n).map B) :: G') → Q (.returned v') w') : Calls Tryd.prog 120 #[v, .int .i64 n] w Q := by
  obtain ⟨S, w0, G, G', xs, h1, h2, h3, h4, h5⟩ := h
  exact (putNumber_st (h1.pick h2) n h3.1 h3.2 h4).mono fun e w' ⟨v', e1, e2⟩ => e1 ▸ h5 v' w' e2

theorem pNum_len (n : Int) (h : n < 9223372036854775808) : (pNum n).length ≤ 10 := putU_len _ (by omega)
theorem i64_and255 (n : Int) : bits .and .i64 n 255 = n % 256 := by
  have h255 : (BitVec.ofInt 64 255).toNat = 2 ^ 8 - 1 := by decide
  have key : (BitVec.ofInt 64 n &&& BitVec.ofInt 64 255).toNat = (n % ((2 ^ 64 : Nat) : Int)).toNat % 2 ^ 8 := by
    rw [BitVec.toNat_and, BitVec.toNat_ofInt, h255, Nat.and_two_pow_sub_one_eq_mod]
  show IntKind.i64.wrap ((BitVec.ofInt 64 n &&& BitVec.ofInt 64 255).toNat : Nat) = n % 256
  rw [key, IntKind.wrap_i64]
  omega
theorem wrap_u8 (n : Int) : IntKind.u8.wrap n = n % 256 := rfl
set_option maxRecDepth 100000 in set_option maxHeartbeats 1600000 in
theorem putOp_st {S : List Nat} {w0 w : World} {G : List Res} {v : Value} {xs : List UInt8} (hS : St S w0 w (.own 5 1 (v) (xs).length ((xs).map B) :: G)) (op : Int) (h0 : 0 ≤ op) (hn : op < 65536) (hx : xs.length ≤ 35184372088830) :
    Calls Tryd.prog 83 #[v, .int .i64 op] w fun e w' => ∃ v', e = .returned v' ∧ St S w0 w' (.own 5 1 (v') (xs ++ pOp op).length ((xs ++ pOp op).map B) :: G) := by
  by_cases h : op < 256
  · have e : pOp op = [UInt8.ofNat op.toNat] := by unfold pOp; rw [if_pos h]
    rw [e]
    have hw : op % 256 = op := by omega
    have hb : 0 ≤ op ∧ op < 256 := ⟨h0, h⟩
    clear e
    go_enter Tryd.func83, Tryd.ntmps83
    go_wp2_with first | (at_builtin; refine st_app rfl rfl rfl rfl ?_; (repeat (apply Exists.intro)); refine ⟨?_, ?_, ?_, ?_, ?_⟩; (· (repeat (first | (with_reducible assumption) | (with_reducible apply St.alloc) | (with_reducible apply St.drew) | (with_reducible apply St.drewN) | (with_reducible apply St.alloc')))); (· (try simp only [World.size_alloc, World.size_setCell, size_drew, size_drewN]); first | (apply Dst.own; ((try simp only [World.size_alloc, World.size_setCell, size_drew, size_drewN]); repeat (first | (exact Pick.here) | (with_reducible apply Pick.there))); done) | (apply Dst.lit; (· ((try simp only [World.size_alloc, World.size_setCell, size_drew, size_drewN]); repeat (first | (exact Pick.here) | (with_reducible apply Pick.there)))); (· omega)) | (apply Dst.nil; rfl)); (· (try simp only [World.size_alloc, World.size_setCell, size_drew, size_drewN]); first | (apply SrcOf.own; ((try simp only [World.size_alloc, World.size_setCell, size_drew, size_drewN]); repeat (first | (exact Pick.here) | (with_reducible apply Pick.there))); done) | (apply SrcOf.lit; (· ((try simp only [World.size_alloc, World.size_setCell, size_drew, size_drewN]); repeat (first | (exact Pick.here) | (with_reducible apply Pick.there)))); (· omega)) | (apply SrcOf.arg; assumption)); (· (first | (simp only [List.length_append, List.length_cons, List.length_nil, List.length_map]; done) | (simp only [List.length_append, List.length_cons, List.length_nil, List.length_map]; omega) | omega)); intro vN wN hS; (try clear hQ); have hQ := St.facts hS; simp only [Facts, Res.fact, List.cons_append, List.nil_append, true_and, and_true] at hQ)
    go_ret
    exact ⟨_, rfl, hS.sel (by ((try simp only [World.size_alloc, World.size_setCell, size_drew, size_drewN]); repeat (first | (exact Sel.all) | (exact Sel.nil) | (apply Sel.cons; (· ((try simp only [World.size_alloc, World.size_setCell, size_drew, size_drewN]); repeat (first | (exact Pick.here) | (with_reducible apply Pick.there))); done)) | (apply Sel.skip))))⟩
  · have e : xs ++ pOp op = xs ++ [UInt8.ofNat (op / 256).toNat] ++ pNum (op % 256) := by unfold pOp; rw [if_neg h]; simp
    rw [e]
    have hand := i64_and255 op
    clear e
    go_enter Tryd.func83, Tryd.ntmps83
    go_wp2_with first | (at_builtin; refine st_app rfl rfl rfl rfl ?_; (repeat (apply Exists.intro)); refine ⟨?_, ?_, ?_, ?_, ?_⟩; (· (repeat (first | (with_reducible assumption) | (with_reducible apply St.alloc) | (with_reducible apply St.drew) | (with_reducible apply St.drewN) | (with_reducible apply St.alloc')))); (· (try simp only [World.size_alloc, World.size_setCell, size_drew, size_drewN]); first | (apply Dst.own; ((try simp only [World.size_alloc, World.size_setCell, size_drew, size_drewN]); repeat (first | (exact Pick.here) | (with_reducible apply Pick.there))); done) | (apply Dst.lit; (· ((try simp only [World.size_alloc, World.size_setCell, size_drew, size_drewN]); repeat (first | (exact Pick.here) | (with_reducible apply Pick.there)))); (· omega)) | (apply Dst.nil; rfl)); (· (try simp only [World.size_alloc, World.size_setCell, size_drew, size_drewN]); first | (apply SrcOf.own; ((try simp only [World.size_alloc, World.size_setCell, size_drew, size_drewN]); repeat (first | (exact Pick.here) | (with_reducible apply Pick.there))); done) | (apply SrcOf.lit; (· ((try simp only [World.size_alloc, World.size_setCell, size_drew, size_drewN]); repeat (first | (exact Pick.here) | (with_reducible apply Pick.there)))); (· omega)) | (apply SrcOf.arg; assumption)); (· (first | (simp only [List.length_append, List.length_cons, List.length_nil, List.length_map]; done) | (simp only [List.length_append, List.length_cons, List.length_nil, List.length_map]; omega) | omega)); intro vN wN hS; (try clear hQ); have hQ := St.facts hS; simp only [Facts, Res.fact, List.cons_append, List.nil_append, true_and, and_true] at hQ) | (go_at_call 120; refine st_num ?_; (repeat (apply Exists.intro)); refine ⟨?_, ?_, ?_, ?_, ?_⟩; (· (repeat (first | (with_reducible assumption) | (with_reducible apply St.alloc) | (with_reducible apply St.drew) | (with_reducible apply St.drewN) | (with_reducible apply St.alloc')))); (· (try simp only [World.size_alloc, World.size_setCell, size_drew, size_drewN]); ((try simp only [World.size_alloc, World.size_setCell, size_drew, size_drewN]); repeat (first | (exact Pick.here) | (with_reducible apply Pick.there)))); (· omega); (· (first | (simp only [List.length_append, List.length_cons, List.length_nil, List.length_map]; done) | (simp only [List.length_append, List.length_cons, List.length_nil, List.length_map]; omega) | omega)); intro vN wN hS; (try clear hQ); have hQ := St.facts hS; simp only [Facts, Res.fact, List.cons_append, List.nil_append, true_and, and_true] at hQ)
    go_ret
    exact ⟨_, rfl, hS.sel (by ((try simp only [World.size_alloc, World.size_setCell, size_drew, size_drewN]); repeat (first | (exact Sel.all) | (exact Sel.nil) | (apply Sel.cons; (· ((try simp only [World.size_alloc, World.size_setCell, size_drew, size_drewN]); repeat (first | (exact Pick.here) | (with_reducible apply Pick.there))); done)) | (apply Sel.skip))))⟩

theorem nulls_any (w : World) (i : InstrT) (tv lv cv : Value) (ht : tv.oneCell' = true) (hl : lv.oneCell' = true) (hc : cv.oneCell' = true) : Calls Tryd.prog 121 #[.agg (insC i tv lv cv).toArray] w fun e w' => e = .returned (.int .u8 (pNulls i.null i.null2).toNat) ∧ Fr [] w w' := by
  obtain ⟨o, x, y, u, h, h2, n1, n2, ts, ls, b, cs⟩ := i
  dsimp only
  unfold insC
  dsimp only
  cases n1 <;> cases n2
  all_goals
    go_enter Tryd.func121, Tryd.ntmps121
    go_wp2
    go_ret
    exact ⟨rfl, by repeat (first | (with_reducible exact Fr.refl _ _) | (with_reducible assumption) | (with_reducible apply Fr.alloc) | (with_reducible apply Fr.drew) | (with_reducible apply Fr.drewN) | (with_reducible refine Fr.setCell ?_ (by first | (left; simp; done) | (right; simp; done) | (right; simp; omega)) _))⟩

theorem pPutVal7 {w : World} (t : ValT) (hg : Gl [] w) (hk : t.heap.ok) : Calls Tryd.prog 34 #[.agg #[.int .i64 t.kind, .bool t.null, .int .i64 t.heap.kind, .int .i64 t.heap.n]] w fun e w' => ∃ v', e = .returned v' ∧ St [] w w' [.own 5 1 (v') (valB t).length ((valB t).map B)] :=
  (PutVal_any hg t hk).mono fun e w' ⟨v, h1, h2, h3, h4⟩ => ⟨v, h1, St.ofOut h2 h3 h4⟩
theorem pPutHeap7 {w : World} (h : HeapT) (hg : Gl [] w) (hk : h.ok) : Calls Tryd.prog 33 #[.agg #[.int .i64 h.kind, .int .i64 h.n]] w fun e w' => ∃ v', e = .returned v' ∧ St [] w w' [.own 5 1 (v') (heapB h).length ((heapB h).map B)] :=
  (PutHeap_any hg h hk).mono fun e w' ⟨v, h1, h2, h3, h4⟩ => ⟨v, h1, St.ofOut h2 h3 h4⟩

set_option maxRecDepth 100000 in set_option maxHeartbeats 1600000 in
theorem putBlock_st {w : World} (hg : Gl [] w) (b : BlockT) (hb : mayBlock b = true) :
    Calls Tryd.prog 122 #[.agg #[.int .i64 b.kind, .int .i64 b.val.kind, .bool b.val.null, .int .i64 b.val.heap.kind, .int .i64 b.val.heap.n, .int .i64 b.n]] w fun e w' => ∃ v', e = .returned v' ∧ St [] w w' [.own 5 1 (v') (pBlock b).length ((pBlock b).map B)] := by
  have hS := St.start [] w
  rcases (mayBlock_iff b).1 hb with rfl | ⟨h1, h2, h3⟩ | ⟨h1, h2, h3⟩
  · show Calls Tryd.prog 122 #[.agg #[.int .i64 0, .int .i64 0, .bool false, .int .i64 0, .int .i64 0, .int .i64 0]] w fun e w' => ∃ v', e = .returned v' ∧ St [] w w' [.own 5 1 (v') ([64]).length (([64]).map B)]
    go_enter Tryd.func122, Tryd.ntmps122
    go_wp2
    go_ret
    refine ⟨_, rfl, ?_⟩
    have h4 := St.dst (((hS.alloc [.int .i64 0, .int .i64 0, .bool false, .int .i64 0, .int .i64 0, .int .i64 0] 78).alloc [.int .u8 64] 5)) (.lit .here (by omega))
    simp only [World.size_alloc] at h4
    exact h4.sel (.cons .here .nil)
  · have e : pBlock b = valB b.val := by unfold pBlock; rw [if_pos h1]
    rw [e]
    have hok := plainVal_ok h2
    obtain ⟨bk, ⟨vk, vn, ⟨wk, wn⟩⟩, bn⟩ := b
    dsimp only at h1 h3 hok ⊢
    subst h1
    clear h2 hb e
    go_enter Tryd.func122, Tryd.ntmps122
    go_wp2_with first | (go_at_call 34; (with_reducible refine (pPutVal7 (⟨vk, vn, ⟨wk, wn⟩⟩ : ValT) ?_ ?_).mono ?_); (· apply St.gl (hs := hg); (repeat (first | (with_reducible assumption) | (with_reducible apply St.alloc) | (with_reducible apply St.drew) | (with_reducible apply St.drewN) | (with_reducible apply St.alloc')))); (· exact hok); rintro e w4 ⟨v4, rfl, s4⟩; refine st_go s4 ?_; (repeat (apply Exists.intro)); refine ⟨?_, ?_⟩; (· (repeat (first | (with_reducible assumption) | (with_reducible apply St.alloc) | (with_reducible apply St.drew) | (with_reducible apply St.drewN) | (with_reducible apply St.alloc')))); (try simp only [World.size_alloc, World.size_setCell, size_drew, size_drewN]); intro hS; simp only [List.cons_append, List.nil_append] at hS; (try clear hQ); have hQ := St.facts hS; simp only [Facts, Res.fact, List.cons_append, List.nil_append, true_and, and_true] at hQ)
    go_ret
    exact ⟨_, rfl, hS.sel (by ((try simp only [World.size_alloc, World.size_setCell, size_drew, size_drewN]); repeat (first | (exact Sel.all) | (exact Sel.nil) | (apply Sel.cons; (· ((try simp only [World.size_alloc, World.size_setCell, size_drew, size_drewN]); repeat (first | (exact Pick.here) | (with_reducible apply Pick.there))); done)) | (apply Sel.skip))))⟩
  · have e : pBlock b = putS b.n := by unfold pBlock; rw [if_neg (by omega), if_pos h1]
    rw [e]
    have hn := (idx_iff _).1 h3
    obtain ⟨bk, ⟨vk, vn, ⟨wk, wn⟩⟩, bn⟩ := b
    dsimp only at h1 hn ⊢
    subst h1
    clear h2 h3 hb e
    obtain ⟨hn1, hn2⟩ := hn
    go_enter Tryd.func122, Tryd.ntmps122
    go_wp2_with first | (go_at_call 115; (with_reducible refine (pPutS bn _ (by omega) (by omega)).mono ?_); rintro e w4 ⟨v4, rfl, s4⟩; refine st_go s4 ?_; (repeat (apply Exists.intro)); refine ⟨?_, ?_⟩; (· (repeat (first | (with_reducible assumption) | (with_reducible apply St.alloc) | (with_reducible apply St.drew) | (with_reducible apply St.drewN) | (with_reducible apply St.alloc')))); (try simp only [World.size_alloc, World.size_setCell, size_drew, size_drewN]); intro hS; simp only [List.cons_append, List.nil_append] at hS; (try clear hQ); have hQ := St.facts hS; simp only [Facts, Res.fact, List.cons_append, List.nil_append, true_and, and_true] at hQ)
    go_ret
    exact ⟨_, rfl, hS.sel (by ((try simp only [World.size_alloc, World.size_setCell, size_drew, size_drewN]); repeat (first | (exact Sel.all) | (exact Sel.nil) | (apply Sel.cons; (· ((try simp only [World.size_alloc, World.size_setCell, size_drew, size_drewN]); repeat (first | (exact Pick.here) | (with_reducible apply Pick.there))); done)) | (apply Sel.skip))))⟩

set_option maxRecDepth 100000 in set_option maxHeartbeats 1600000 in
theorem putCatch_st {S : List Nat} {w0 w : World} {G : List Res} {v : Value} {xs : List UInt8} (hS : St S w0 w (.own 5 1 (v) (xs).length ((xs).map B) :: G)) (c : CatchT) (hc : mayCatch c = true) (hx : xs.length ≤ 35184372088800) :
    Calls Tryd.prog 123 #[v, .agg #[.int .i64 c.kind, .int .i64 c.tag, .int .i64 c.label]] w fun e w' => ∃ v', e = .returned v' ∧ St S w0 w' (.own 5 1 (v') (xs ++ pCatch c).length ((xs ++ pCatch c).map B) :: G) := by
  obtain ⟨h1, h2, h3, h4⟩ := (mayCatch_iff c).1 hc
  have h3' := (idx_iff _).1 h3
  by_cases hk : c.kind < 2
  · rw [if_pos hk] at h4
    have h4' := (idx_iff _).1 h4
    have e : xs ++ pCatch c = xs ++ [UInt8.ofNat c.kind.toNat] ++ pNum c.tag ++ pNum c.label := by unfold pCatch; rw [if_pos hk]; simp
    rw [e]
    have l1 := pNum_len c.tag (by omega)
    have l2 := pNum_len c.label (by omega)
    obtain ⟨ck, ct, cl⟩ := c
    dsimp only at h1 h2 h3' h4' hk l1 l2 ⊢
    clear hc h3 h4 e
    go_enter Tryd.func123, Tryd.ntmps123
    go_wp2_with first | (at_builtin; refine st_app rfl rfl rfl rfl ?_; (repeat (apply Exists.intro)); refine ⟨?_, ?_, ?_, ?_, ?_⟩; (· (repeat (first | (with_reducible assumption) | (with_reducible apply St.alloc) | (with_reducible apply St.drew) | (with_reducible apply St.drewN) | (with_reducible apply St.alloc')))); (· (try simp only [World.size_alloc, World.size_setCell, size_drew, size_drewN]); first | (apply Dst.own; ((try simp only [World.size_alloc, World.size_setCell, size_drew, size_drewN]); repeat (first | (exact Pick.here) | (with_reducible apply Pick.there))); done) | (apply Dst.lit; (· ((try simp only [World.size_alloc, World.size_setCell, size_drew, size_drewN]); repeat (first | (exact Pick.here) | (with_reducible apply Pick.there)))); (· omega)) | (apply Dst.nil; rfl)); (· (try simp only [World.size_alloc, World.size_setCell, size_drew, size_drewN]); first | (apply SrcOf.own; ((try simp only [World.size_alloc, World.size_setCell, size_drew, size_drewN]); repeat (first | (exact Pick.here) | (with_reducible apply Pick.there))); done) | (apply SrcOf.lit; (· ((try simp only [World.size_alloc, World.size_setCell, size_drew, size_drewN]); repeat (first | (exact Pick.here) | (with_reducible apply Pick.there)))); (· omega)) | (apply SrcOf.arg; assumption)); (· (first | (simp only [List.length_append, List.length_cons, List.length_nil, List.length_map]; done) | (simp only [List.length_append, List.length_cons, List.length_nil, List.length_map]; omega) | omega)); intro vN wN hS; (try clear hQ); have hQ := St.facts hS; simp only [Facts, Res.fact, List.cons_append, List.nil_append, true_and, and_true] at hQ) | (go_at_call 120; refine st_num ?_; (repeat (apply Exists.intro)); refine ⟨?_, ?_, ?_, ?_, ?_⟩; (· (repeat (first | (with_reducible assumption) | (with_reducible apply St.alloc) | (with_reducible apply St.drew) | (with_reducible apply St.drewN) | (with_reducible apply St.alloc')))); (· (try simp only [World.size_alloc, World.size_setCell, size_drew, size_drewN]); ((try simp only [World.size_alloc, World.size_setCell, size_drew, size_drewN]); repeat (first | (exact Pick.here) | (with_reducible apply Pick.there)))); (· omega); (· (first | (simp only [List.length_append, List.length_cons, List.length_nil, List.length_map]; done) | (simp only [List.length_append, List.length_cons, List.length_nil, List.length_map]; omega) | omega)); intro vN wN hS; (try clear hQ); have hQ := St.facts hS; simp only [Facts, Res.fact, List.cons_append, List.nil_append, true_and, and_true] at hQ)
    go_ret
    exact ⟨_, rfl, hS.sel (by ((try simp only [World.size_alloc, World.size_setCell, size_drew, size_drewN]); repeat (first | (exact Sel.all) | (exact Sel.nil) | (apply Sel.cons; (· ((try simp only [World.size_alloc, World.size_setCell, size_drew, size_drewN]); repeat (first | (exact Pick.here) | (with_reducible apply Pick.there))); done)) | (apply Sel.skip))))⟩
  · have e : xs ++ pCatch c = xs ++ [UInt8.ofNat c.kind.toNat] ++ pNum c.label := by unfold pCatch; rw [if_neg hk]; simp
    rw [e]
    have l2 := pNum_len c.label (by omega)
    obtain ⟨ck, ct, cl⟩ := c
    dsimp only at h1 h2 h3' hk l2 ⊢
    clear hc h3 h4 e
    go_enter Tryd.func123, Tryd.ntmps123
    go_wp2_with first | (at_builtin; refine st_app rfl rfl rfl rfl ?_; (repeat (apply Exists.intro)); refine ⟨?_, ?_, ?_, ?_, ?_⟩; (· (repeat (first | (with_reducible assumption) | (with_reducible apply St.alloc) | (with_reducible apply St.drew) | (with_reducible apply St.drewN) | (with_reducible apply St.alloc')))); (· (try simp only [World.size_alloc, World.size_setCell, size_drew, size_drewN]); first | (apply Dst.own; ((try simp only [World.size_alloc, World.size_setCell, size_drew, size_drewN]); repeat (first | (exact Pick.here) | (with_reducible apply Pick.there))); done) | (apply Dst.lit; (· ((try simp only [World.size_alloc, World.size_setCell, size_drew, size_drewN]); repeat (first | (exact Pick.here) | (with_reducible apply Pick.there)))); (· omega)) | (apply Dst.nil; rfl)); (· (try simp only [World.size_alloc, World.size_setCell, size_drew, size_drewN]); first | (apply SrcOf.own; ((try simp only [World.size_alloc, World.size_setCell, size_drew, size_drewN]); repeat (first | (exact Pick.here) | (with_reducible apply Pick.there))); done) | (apply SrcOf.lit; (· ((try simp only [World.size_alloc, World.size_setCell, size_drew, size_drewN]); repeat (first | (exact Pick.here) | (with_reducible apply Pick.there)))); (· omega)) | (apply SrcOf.arg; assumption)); (· (first | (simp only [List.length_append, List.length_cons, List.length_nil, List.length_map]; done) | (simp only [List.length_append, List.length_cons, List.length_nil, List.length_map]; omega) | omega)); intro vN wN hS; (try clear hQ); have hQ := St.facts hS; simp only [Facts, Res.fact, List.cons_append, List.nil_append, true_and, and_true] at hQ) | (go_at_call 120; refine st_num ?_; (repeat (apply Exists.intro)); refine ⟨?_, ?_, ?_, ?_, ?_⟩; (· (repeat (first | (with_reducible assumption) | (with_reducible apply St.alloc) | (with_reducible apply St.drew) | (with_reducible apply St.drewN) | (with_reducible apply St.alloc')))); (· (try simp only [World.size_alloc, World.size_setCell, size_drew, size_drewN]); ((try simp only [World.size_alloc, World.size_setCell, size_drew, size_drewN]); repeat (first | (exact Pick.here) | (with_reducible apply Pick.there)))); (· omega); (· (first | (simp only [List.length_append, List.length_cons, List.length_nil, List.length_map]; done) | (simp only [List.length_append, List.length_cons, List.length_nil, List.length_map]; omega) | omega)); intro vN wN hS; (try clear hQ); have hQ := St.facts hS; simp only [Facts, Res.fact, List.cons_append, List.nil_append, true_and, and_true] at hQ)
    go_ret
    exact ⟨_, rfl, hS.sel (by ((try simp only [World.size_alloc, World.size_setCell, size_drew, size_drewN]); repeat (first | (exact Sel.all) | (exact Sel.nil) | (apply Sel.cons; (· ((try simp only [World.size_alloc, World.size_setCell, size_drew, size_drewN]); repeat (first | (exact Pick.here) | (with_reducible apply Pick.there))); done)) | (apply Sel.skip))))⟩
end Go.Proofs.YtokneepfknepaaaDoor

set_option linter.unusedSimpArgs false
set_option linter.unusedVariables false
namespace Go.Proofs.YtokneepfknepaaaDoor
open Go.RowKit

theorem st_catch {w : World} {v : Value} {c : CatchT} {Q : Ending → World → Prop} (h : ∃ S w0 G G' xs, St S w0 w G ∧ Pick G (.own 5 1 (v) (xs).length ((xs).map B)) G' ∧ mayCatch c = true ∧ xs.length ≤ 35184372088800 ∧ ∀ v' w', St S w0 w' (.own 5 1 (v') (xs ++ pCatch c).length ((xs ++ pCatch c).map B) :: G') → Q (.returned v') w') : Calls Tryd.prog 123 #[v, .agg #[.int .i64 c.kind, .int .i64 c.tag, .int .i64 c.label]] w Q := by
  obtain ⟨S, w0, G, G', xs, h1, h2, h3, h4, h5⟩ := h
  exact (putCatch_st (h1.pick h2) c h3 h4).mono fun e w' ⟨v', e1, e2⟩ => e1 ▸ h5 v' w' e2
theorem pBlock_len {b : BlockT} (h : mayBlock b = true) : (pBlock b).length ≤ 13 := by
  rcases (mayBlock_iff b).1 h with rfl | ⟨h1, h2, h3⟩ | ⟨h1, h2, h3⟩
  · decide
  · unfold pBlock; rw [if_pos h1, valB_yes h2]; exact pVal_len _ (plainVal_ok h2)
  · have := (idx_iff _).1 h3
    have := putS_len b.n (by omega) (by omega)
    unfold pBlock; rw [if_neg (by omega), if_pos h1]; omega
theorem flat_len7 {α : Type} {f : α → List UInt8} {m : Nat} : ∀ (l : List α), (∀ x, x ∈ l → (f x).length ≤ m) → (l.flatMap f).length ≤ l.length * m
  | [], _ => by simp
  | a :: l, h => by
    have h1 := h a (by simp)
    have h2 := flat_len7 l fun x hx => h x (by simp [hx])
    rw [List.flatMap_cons, List.length_append, List.length_cons, Nat.add_mul, Nat.one_mul]
    omega
theorem toI32_wrap {u : Nat} (h : u < 4294967296) : wrap32 (u : Int) = toI32 u ∧ wrap64 (toI32 u) = toI32 u := by
  unfold wrap32 wrap64 toI32
  split <;> omega
theorem toI64_wrap7 {u : Nat} (h : u < 18446744073709551616) : wrap64 (u : Int) = toI64 u := by
  unfold wrap64 toI64
  split <;> omega
theorem pCatch_len {c : CatchT} (h : mayCatch c = true) : (pCatch c).length ≤ 21 := by
  obtain ⟨h1, h2, h3, h4⟩ := (mayCatch_iff c).1 h
  have h3' := (idx_iff _).1 h3
  have l2 := pNum_len c.label (by omega)
  unfold pCatch
  split
  · rename_i hk
    rw [if_pos hk] at h4
    have h4' := (idx_iff _).1 h4
    have l1 := pNum_len c.tag (by omega)
    simp only [List.length_cons, List.length_append]
    omega
  · simp only [List.length_cons, List.length_append, List.length_nil]
    omega
theorem ls_len (ls : List Int) (h : ls.all idx = true) : (ls.flatMap pNum).length ≤ ls.length * 10 :=
  flat_len7 ls fun n hn => by
    have := (idx_iff _).1 (List.all_eq_true.1 h n hn)
    exact pNum_len n (by omega)
theorem valsB_len (ts : List ValT) (h : ∀ t, t ∈ ts → t.heap.ok) (hn : ts.length ≤ 65536) : (valsB ts).length ≤ 20 + ts.length * 13 := by
  unfold valsB
  split
  · have h1 := flat_len7 ts fun x hx => pVal_len x (h x hx)
    have h2 := putU_len ts.length (by omega)
    unfold pList
    rw [List.length_append]
    omega
  · simp
set_option maxRecDepth 100000 in set_option maxHeartbeats 6400000 in
theorem rest1_st {w0 w : World} {G : List Res} {v : Value} {xs : List UInt8} (hS : St [] w0 w (.own 5 1 (v) (xs).length ((xs).map B) :: G)) (hg : Gl7 [] w0) (o x y : Int) (u : Nat) (hk hn jk jn : Int) (n1 n2 : Bool) (ts : List ValT) (ls : List Int) (bk vk : Int) (vn : Bool) (wk wn bn : Int) (cs : List CatchT) (tv lv cv : Value) (hR : InsR [] w0 (⟨o, x, y, u, ⟨hk, hn⟩, ⟨jk, jn⟩, n1, n2, ts, ls, ⟨bk, ⟨vk, vn, ⟨wk, wn⟩⟩, bn⟩, cs⟩ : InstrT) tv lv cv) (hx : xs.length ≤ 17592186044416) (hm : mayI (⟨o, x, y, u, ⟨hk, hn⟩, ⟨jk, jn⟩, n1, n2, ts, ls, ⟨bk, ⟨vk, vn, ⟨wk, wn⟩⟩, bn⟩, cs⟩ : InstrT) = true) (hl1 : ts.length ≤ 65536) (hl2 : ls.length ≤ 65536) (hl3 : cs.length ≤ 65536) (hu : u < 18446744073709551616) (hsh : shNone o) :
    Calls Tryd.prog 82 #[v, .agg (insC (⟨o, x, y, u, ⟨hk, hn⟩, ⟨jk, jn⟩, n1, n2, ts, ls, ⟨bk, ⟨vk, vn, ⟨wk, wn⟩⟩, bn⟩, cs⟩ : InstrT) tv lv cv).toArray] w fun e w' => ∃ v', e = .returned v' ∧ St [] w0 w' (.own 5 1 (v') (xs ++ pRest (⟨o, x, y, u, ⟨hk, hn⟩, ⟨jk, jn⟩, n1, n2, ts, ls, ⟨bk, ⟨vk, vn, ⟨wk, wn⟩⟩, bn⟩, cs⟩ : InstrT)).length ((xs ++ pRest (⟨o, x, y, u, ⟨hk, hn⟩, ⟨jk, jn⟩, n1, n2, ts, ls, ⟨bk, ⟨vk, vn, ⟨wk, wn⟩⟩, bn⟩, cs⟩ : InstrT)).map B) :: G) := by
  have hb := shape_ok (mayI_shape hm)
  have ho1 : -9223372036854775808 ≤ o := by have := hb.1; dsimp only at this; omega
  have ho2 : o < 9223372036854775808 := by have := hb.1; have := hb.2.1; dsimp only at this; omega
  obtain ⟨tS, lS, cS⟩ := hR
  obtain ⟨ta, tc, rfl⟩ := tS.shape
  obtain ⟨la, lc, rfl⟩ := lS.shape
  obtain ⟨ca, cc, rfl⟩ := cS.shape
  dsimp only at tS lS cS
  have e0 : xs ++ pRest (⟨o, x, y, u, ⟨hk, hn⟩, ⟨jk, jn⟩, n1, n2, ts, ls, ⟨bk, ⟨vk, vn, ⟨wk, wn⟩⟩, bn⟩, cs⟩ : InstrT) = xs := by rw [rest1 (by exact hsh)]; simp
  have E0 := Lib.hid e0
  clear e0
  generalize xs ++ pRest (⟨o, x, y, u, ⟨hk, hn⟩, ⟨jk, jn⟩, n1, n2, ts, ls, ⟨bk, ⟨vk, vn, ⟨wk, wn⟩⟩, bn⟩, cs⟩ : InstrT) = Y at E0 ⊢
  obtain ⟨h4, h6, h7, h5, h8, h9, h10, h11, h12, h2, h3, h13⟩ := hsh
  have HK : Hid (shapeP o = shapeP o) := Lib.hid rfl
  have k4 : (shapeP o == 4) = false := by simpa using h4
  have k6 : (shapeP o == 6) = false := by simpa using h6
  have k7 : (shapeP o == 7) = false := by simpa using h7
  have k5 : (shapeP o == 5) = false := by simpa using h5
  have k8 : (shapeP o == 8) = false := by simpa using h8
  have k9 : (shapeP o == 9) = false := by simpa using h9
  have k10 : (shapeP o == 10) = false := by simpa using h10
  have k11 : (shapeP o == 11) = false := by simpa using h11
  have k12 : (shapeP o == 12) = false := by simpa using h12
  have k2 : (shapeP o == 2) = false := by simpa using h2
  have k3 : (shapeP o == 3) = false := by simpa using h3
  have k13 : (shapeP o == 13) = false := by simpa using h13
  clear h4 h6 h7 h5 h8 h9 h10 h11 h12 h2 h3 h13
  clear hb hm
  unfold insC
  dsimp only
  go_enter Tryd.func82, Tryd.ntmps82
  go_wp2_with first | (go_at_call 89; (with_reducible refine (shape_any ?_ _ ?_ ?_).mono ?_); (· apply St.gl7 (hg := hg); (repeat (first | (with_reducible assumption) | (with_reducible apply St.alloc) | (with_reducible apply St.drew) | (with_reducible apply St.drewN) | (with_reducible apply St.alloc') | (with_reducible apply St.set) | (with_reducible exact Pick.here) | (with_reducible apply Pick.there)))); (· omega); (· omega); rintro e w2 ⟨rfl, hF2⟩; refine st_fr hF2 ?_; (repeat (apply Exists.intro)); refine ⟨?_, ?_⟩; (· (repeat (first | (with_reducible assumption) | (with_reducible apply St.alloc) | (with_reducible apply St.drew) | (with_reducible apply St.drewN) | (with_reducible apply St.alloc') | (with_reducible apply St.set) | (with_reducible exact Pick.here) | (with_reducible apply Pick.there)))); (try simp only [World.size_alloc, World.size_setCell, size_drew, size_drewN]); intro hS; (try clear hQ); have hQ := St.facts hS; simp only [Facts, Res.fact, List.cons_append, List.nil_append, true_and, and_true] at hQ; (try rw [HK.out]))
  go_ret
  refine ⟨v, rfl, ?_⟩
  rw [E0.out]
  exact hS.sel (by ((try simp only [World.size_alloc, World.size_setCell, size_drew, size_drewN]); repeat (first | (exact Sel.all) | (exact Sel.nil) | (apply Sel.cons; (· ((try simp only [World.size_alloc, World.size_setCell, size_drew, size_drewN]); repeat (first | (exact Pick.here) | (with_reducible apply Pick.there))); done)) | (apply Sel.skip))))
set_option maxRecDepth 100000 in set_option maxHeartbeats 6400000 in
theorem rest4_st {w0 w : World} {G : List Res} {v : Value} {xs : List UInt8} (hS : St [] w0 w (.own 5 1 (v) (xs).length ((xs).map B) :: G)) (hg : Gl7 [] w0) (o x y : Int) (u : Nat) (hk hn jk jn : Int) (n1 n2 : Bool) (ts : List ValT) (ls : List Int) (bk vk : Int) (vn : Bool) (wk wn bn : Int) (cs : List CatchT) (tv lv cv : Value) (hR : InsR [] w0 (⟨o, x, y, u, ⟨hk, hn⟩, ⟨jk, jn⟩, n1, n2, ts, ls, ⟨bk, ⟨vk, vn, ⟨wk, wn⟩⟩, bn⟩, cs⟩ : InstrT) tv lv cv) (hx : xs.length ≤ 17592186044416) (hm : mayI (⟨o, x, y, u, ⟨hk, hn⟩, ⟨jk, jn⟩, n1, n2, ts, ls, ⟨bk, ⟨vk, vn, ⟨wk, wn⟩⟩, bn⟩, cs⟩ : InstrT) = true) (hl1 : ts.length ≤ 65536) (hl2 : ls.length ≤ 65536) (hl3 : cs.length ≤ 65536) (hu : u < 18446744073709551616) (hsh : shapeP o = 4) :
    Calls Tryd.prog 82 #[v, .agg (insC (⟨o, x, y, u, ⟨hk, hn⟩, ⟨jk, jn⟩, n1, n2, ts, ls, ⟨bk, ⟨vk, vn, ⟨wk, wn⟩⟩, bn⟩, cs⟩ : InstrT) tv lv cv).toArray] w fun e w' => ∃ v', e = .returned v' ∧ St [] w0 w' (.own 5 1 (v') (xs ++ pRest (⟨o, x, y, u, ⟨hk, hn⟩, ⟨jk, jn⟩, n1, n2, ts, ls, ⟨bk, ⟨vk, vn, ⟨wk, wn⟩⟩, bn⟩, cs⟩ : InstrT)).length ((xs ++ pRest (⟨o, x, y, u, ⟨hk, hn⟩, ⟨jk, jn⟩, n1, n2, ts, ls, ⟨bk, ⟨vk, vn, ⟨wk, wn⟩⟩, bn⟩, cs⟩ : InstrT)).map B) :: G) := by
  have hb := shape_ok (mayI_shape hm)
  have ho1 : -9223372036854775808 ≤ o := by have := hb.1; dsimp only at this; omega
  have ho2 : o < 9223372036854775808 := by have := hb.1; have := hb.2.1; dsimp only at this; omega
  obtain ⟨tS, lS, cS⟩ := hR
  obtain ⟨ta, tc, rfl⟩ := tS.shape
  obtain ⟨la, lc, rfl⟩ := lS.shape
  obtain ⟨ca, cc, rfl⟩ := cS.shape
  dsimp only at tS lS cS
  have e0 : xs ++ pRest (⟨o, x, y, u, ⟨hk, hn⟩, ⟨jk, jn⟩, n1, n2, ts, ls, ⟨bk, ⟨vk, vn, ⟨wk, wn⟩⟩, bn⟩, cs⟩ : InstrT) = xs ++ pNum x := by rw [rest46 (by dsimp only; omega)]
  have E0 := Lib.hid e0
  clear e0
  generalize xs ++ pRest (⟨o, x, y, u, ⟨hk, hn⟩, ⟨jk, jn⟩, n1, n2, ts, ls, ⟨bk, ⟨vk, vn, ⟨wk, wn⟩⟩, bn⟩, cs⟩ : InstrT) = Y at E0 ⊢
  have hX := (idx_iff _).1 (inv46 (by dsimp only; omega) hm).1
  dsimp only at hX
  have lX := pNum_len x (by omega)
  have HK := Lib.hid hsh
  clear hsh
  clear hb hm
  unfold insC
  dsimp only
  go_enter Tryd.func82, Tryd.ntmps82
  go_wp2_with first | (go_at_call 89; (with_reducible refine (shape_any ?_ _ ?_ ?_).mono ?_); (· apply St.gl7 (hg := hg); (repeat (first | (with_reducible assumption) | (with_reducible apply St.alloc) | (with_reducible apply St.drew) | (with_reducible apply St.drewN) | (with_reducible apply St.alloc') | (with_reducible apply St.set) | (with_reducible exact Pick.here) | (with_reducible apply Pick.there)))); (· omega); (· omega); rintro e w2 ⟨rfl, hF2⟩; refine st_fr hF2 ?_; (repeat (apply Exists.intro)); refine ⟨?_, ?_⟩; (· (repeat (first | (with_reducible assumption) | (with_reducible apply St.alloc) | (with_reducible apply St.drew) | (with_reducible apply St.drewN) | (with_reducible apply St.alloc') | (with_reducible apply St.set) | (with_reducible exact Pick.here) | (with_reducible apply Pick.there)))); (try simp only [World.size_alloc, World.size_setCell, size_drew, size_drewN]); intro hS; (try clear hQ); have hQ := St.facts hS; simp only [Facts, Res.fact, List.cons_append, List.nil_append, true_and, and_true] at hQ; (try rw [HK.out])) | (go_at_call 120; (try rw [hwk]); refine st_num ?_; (repeat (apply Exists.intro)); refine ⟨?_, ?_, ?_, ?_, ?_⟩; (· (repeat (first | (with_reducible assumption) | (with_reducible apply St.alloc) | (with_reducible apply St.drew) | (with_reducible apply St.drewN) | (with_reducible apply St.alloc') | (with_reducible apply St.set) | (with_reducible exact Pick.here) | (with_reducible apply Pick.there)))); (· (try simp only [World.size_alloc, World.size_setCell, size_drew, size_drewN]); ((try simp only [World.size_alloc, World.size_setCell, size_drew, size_drewN]); repeat (first | (exact Pick.here) | (with_reducible apply Pick.there)))); (· omega); (· (first | (simp only [List.length_append, List.length_cons, List.length_nil, List.length_map]; done) | (simp only [List.length_append, List.length_cons, List.length_nil, List.length_map]; omega) | omega)); intro vN wN hS; (try clear hQ); have hQ := St.facts hS; simp only [Facts, Res.fact, List.cons_append, List.nil_append, true_and, and_true] at hQ)
  go_ret
  refine ⟨vN, rfl, ?_⟩
  rw [E0.out]
  exact hS.sel (by ((try simp only [World.size_alloc, World.size_setCell, size_drew, size_drewN]); repeat (first | (exact Sel.all) | (exact Sel.nil) | (apply Sel.cons; (· ((try simp only [World.size_alloc, World.size_setCell, size_drew, size_drewN]); repeat (first | (exact Pick.here) | (with_reducible apply Pick.there))); done)) | (apply Sel.skip))))
set_option maxRecDepth 100000 in set_option maxHeartbeats 6400000 in
theorem rest6_st {w0 w : World} {G : List Res} {v : Value} {xs : List UInt8} (hS : St [] w0 w (.own 5 1 (v) (xs).length ((xs).map B) :: G)) (hg : Gl7 [] w0) (o x y : Int) (u : Nat) (hk hn jk jn : Int) (n1 n2 : Bool) (ts : List ValT) (ls : List Int) (bk vk : Int) (vn : Bool) (wk wn bn : Int) (cs : List CatchT) (tv lv cv : Value) (hR : InsR [] w0 (⟨o, x, y, u, ⟨hk, hn⟩, ⟨jk, jn⟩, n1, n2, ts, ls, ⟨bk, ⟨vk, vn, ⟨wk, wn⟩⟩, bn⟩, cs⟩ : InstrT) tv lv cv) (hx : xs.length ≤ 17592186044416) (hm : mayI (⟨o, x, y, u, ⟨hk, hn⟩, ⟨jk, jn⟩, n1, n2, ts, ls, ⟨bk, ⟨vk, vn, ⟨wk, wn⟩⟩, bn⟩, cs⟩ : InstrT) = true) (hl1 : ts.length ≤ 65536) (hl2 : ls.length ≤ 65536) (hl3 : cs.length ≤ 65536) (hu : u < 18446744073709551616) (hsh : shapeP o = 6) :
    Calls Tryd.prog 82 #[v, .agg (insC (⟨o, x, y, u, ⟨hk, hn⟩, ⟨jk, jn⟩, n1, n2, ts, ls, ⟨bk, ⟨vk, vn, ⟨wk, wn⟩⟩, bn⟩, cs⟩ : InstrT) tv lv cv).toArray] w fun e w' => ∃ v', e = .returned v' ∧ St [] w0 w' (.own 5 1 (v') (xs ++ pRest (⟨o, x, y, u, ⟨hk, hn⟩, ⟨jk, jn⟩, n1, n2, ts, ls, ⟨bk, ⟨vk, vn, ⟨wk, wn⟩⟩, bn⟩, cs⟩ : InstrT)).length ((xs ++ pRest (⟨o, x, y, u, ⟨hk, hn⟩, ⟨jk, jn⟩, n1, n2, ts, ls, ⟨bk, ⟨vk, vn, ⟨wk, wn⟩⟩, bn⟩, cs⟩ : InstrT)).map B) :: G) := by
  have hb := shape_ok (mayI_shape hm)
  have ho1 : -9223372036854775808 ≤ o := by have := hb.1; dsimp only at this; omega
  have ho2 : o < 9223372036854775808 := by have := hb.1; have := hb.2.1; dsimp only at this; omega
  obtain ⟨tS, lS, cS⟩ := hR
  obtain ⟨ta, tc, rfl⟩ := tS.shape
  obtain ⟨la, lc, rfl⟩ := lS.shape
  obtain ⟨ca, cc, rfl⟩ := cS.shape
  dsimp only at tS lS cS
  have e0 : xs ++ pRest (⟨o, x, y, u, ⟨hk, hn⟩, ⟨jk, jn⟩, n1, n2, ts, ls, ⟨bk, ⟨vk, vn, ⟨wk, wn⟩⟩, bn⟩, cs⟩ : InstrT) = xs ++ pNum x := by rw [rest46 (by dsimp only; omega)]
  have E0 := Lib.hid e0
  clear e0
  generalize xs ++ pRest (⟨o, x, y, u, ⟨hk, hn⟩, ⟨jk, jn⟩, n1, n2, ts, ls, ⟨bk, ⟨vk, vn, ⟨wk, wn⟩⟩, bn⟩, cs⟩ : InstrT) = Y at E0 ⊢
  have hX := (idx_iff _).1 (inv46 (by dsimp only; omega) hm).1
  dsimp only at hX
  have lX := pNum_len x (by omega)
  have HK := Lib.hid hsh
  clear hsh
  clear hb hm
  unfold insC
  dsimp only
  go_enter Tryd.func82, Tryd.ntmps82
  go_wp2_with first | (go_at_call 89; (with_reducible refine (shape_any ?_ _ ?_ ?_).mono ?_); (· apply St.gl7 (hg := hg); (repeat (first | (with_reducible assumption) | (with_reducible apply St.alloc) | (with_reducible apply St.drew) | (with_reducible apply St.drewN) | (with_reducible apply St.alloc') | (with_reducible apply St.set) | (with_reducible exact Pick.here) | (with_reducible apply Pick.there)))); (· omega); (· omega); rintro e w2 ⟨rfl, hF2⟩; refine st_fr hF2 ?_; (repeat (apply Exists.intro)); refine ⟨?_, ?_⟩; (· (repeat (first | (with_reducible assumption) | (with_reducible apply St.alloc) | (with_reducible apply St.drew) | (with_reducible apply St.drewN) | (with_reducible apply St.alloc') | (with_reducible apply St.set) | (with_reducible exact Pick.here) | (with_reducible apply Pick.there)))); (try simp only [World.size_alloc, World.size_setCell, size_drew, size_drewN]); intro hS; (try clear hQ); have hQ := St.facts hS; simp only [Facts, Res.fact, List.cons_append, List.nil_append, true_and, and_true] at hQ; (try rw [HK.out])) | (go_at_call 120; (try rw [hwk]); refine st_num ?_; (repeat (apply Exists.intro)); refine ⟨?_, ?_, ?_, ?_, ?_⟩; (· (repeat (first | (with_reducible assumption) | (with_reducible apply St.alloc) | (with_reducible apply St.drew) | (with_reducible apply St.drewN) | (with_reducible apply St.alloc') | (with_reducible apply St.set) | (with_reducible exact Pick.here) | (with_reducible apply Pick.there)))); (· (try simp only [World.size_alloc, World.size_setCell, size_drew, size_drewN]); ((try simp only [World.size_alloc, World.size_setCell, size_drew, size_drewN]); repeat (first | (exact Pick.here) | (with_reducible apply Pick.there)))); (· omega); (· (first | (simp only [List.length_append, List.length_cons, List.length_nil, List.length_map]; done) | (simp only [List.length_append, List.length_cons, List.length_nil, List.length_map]; omega) | omega)); intro vN wN hS; (try clear hQ); have hQ := St.facts hS; simp only [Facts, Res.fact, List.cons_append, List.nil_append, true_and, and_true] at hQ)
  go_ret
  refine ⟨vN, rfl, ?_⟩
  rw [E0.out]
  exact hS.sel (by ((try simp only [World.size_alloc, World.size_setCell, size_drew, size_drewN]); repeat (first | (exact Sel.all) | (exact Sel.nil) | (apply Sel.cons; (· ((try simp only [World.size_alloc, World.size_setCell, size_drew, size_drewN]); repeat (first | (exact Pick.here) | (with_reducible apply Pick.there))); done)) | (apply Sel.skip))))
set_option maxRecDepth 100000 in set_option maxHeartbeats 6400000 in
theorem rest7_st {w0 w : World} {G : List Res} {v : Value} {xs : List UInt8} (hS : St [] w0 w (.own 5 1 (v) (xs).length ((xs).map B) :: G)) (hg : Gl7 [] w0) (o x y : Int) (u : Nat) (hk hn jk jn : Int) (n1 n2 : Bool) (ts : List ValT) (ls : List Int) (bk vk : Int) (vn : Bool) (wk wn bn : Int) (cs : List CatchT) (tv lv cv : Value) (hR : InsR [] w0 (⟨o, x, y, u, ⟨hk, hn⟩, ⟨jk, jn⟩, n1, n2, ts, ls, ⟨bk, ⟨vk, vn, ⟨wk, wn⟩⟩, bn⟩, cs⟩ : InstrT) tv lv cv) (hx : xs.length ≤ 17592186044416) (hm : mayI (⟨o, x, y, u, ⟨hk, hn⟩, ⟨jk, jn⟩, n1, n2, ts, ls, ⟨bk, ⟨vk, vn, ⟨wk, wn⟩⟩, bn⟩, cs⟩ : InstrT) = true) (hl1 : ts.length ≤ 65536) (hl2 : ls.length ≤ 65536) (hl3 : cs.length ≤ 65536) (hu : u < 18446744073709551616) (hsh : shapeP o = 7) :
    Calls Tryd.prog 82 #[v, .agg (insC (⟨o, x, y, u, ⟨hk, hn⟩, ⟨jk, jn⟩, n1, n2, ts, ls, ⟨bk, ⟨vk, vn, ⟨wk, wn⟩⟩, bn⟩, cs⟩ : InstrT) tv lv cv).toArray] w fun e w' => ∃ v', e = .returned v' ∧ St [] w0 w' (.own 5 1 (v') (xs ++ pRest (⟨o, x, y, u, ⟨hk, hn⟩, ⟨jk, jn⟩, n1, n2, ts, ls, ⟨bk, ⟨vk, vn, ⟨wk, wn⟩⟩, bn⟩, cs⟩ : InstrT)).length ((xs ++ pRest (⟨o, x, y, u, ⟨hk, hn⟩, ⟨jk, jn⟩, n1, n2, ts, ls, ⟨bk, ⟨vk, vn, ⟨wk, wn⟩⟩, bn⟩, cs⟩ : InstrT)).map B) :: G) := by
  have hb := shape_ok (mayI_shape hm)
  have ho1 : -9223372036854775808 ≤ o := by have := hb.1; dsimp only at this; omega
  have ho2 : o < 9223372036854775808 := by have := hb.1; have := hb.2.1; dsimp only at this; omega
  obtain ⟨tS, lS, cS⟩ := hR
  obtain ⟨ta, tc, rfl⟩ := tS.shape
  obtain ⟨la, lc, rfl⟩ := lS.shape
  obtain ⟨ca, cc, rfl⟩ := cS.shape
  dsimp only at tS lS cS
  have e0 : xs ++ pRest (⟨o, x, y, u, ⟨hk, hn⟩, ⟨jk, jn⟩, n1, n2, ts, ls, ⟨bk, ⟨vk, vn, ⟨wk, wn⟩⟩, bn⟩, cs⟩ : InstrT) = xs ++ pNum x ++ pNum y := by rw [rest7 (by exact hsh)]; simp
  have E0 := Lib.hid e0
  clear e0
  generalize xs ++ pRest (⟨o, x, y, u, ⟨hk, hn⟩, ⟨jk, jn⟩, n1, n2, ts, ls, ⟨bk, ⟨vk, vn, ⟨wk, wn⟩⟩, bn⟩, cs⟩ : InstrT) = Y at E0 ⊢
  have hp := may_inv hm (part7 (i := (⟨o, x, y, u, ⟨hk, hn⟩, ⟨jk, jn⟩, n1, n2, ts, ls, ⟨bk, ⟨vk, vn, ⟨wk, wn⟩⟩, bn⟩, cs⟩ : InstrT)) hsh)
  have hp1 := hp.1
  simp only [Bool.and_eq_true, idx_iff] at hp1
  obtain ⟨hX, hY⟩ := hp1
  have lX := pNum_len x (by omega)
  have lY := pNum_len y (by omega)
  have HK := Lib.hid hsh
  clear hsh hp
  clear hb hm
  unfold insC
  dsimp only
  go_enter Tryd.func82, Tryd.ntmps82
  go_wp2_with first | (go_at_call 89; (with_reducible refine (shape_any ?_ _ ?_ ?_).mono ?_); (· apply St.gl7 (hg := hg); (repeat (first | (with_reducible assumption) | (with_reducible apply St.alloc) | (with_reducible apply St.drew) | (with_reducible apply St.drewN) | (with_reducible apply St.alloc') | (with_reducible apply St.set) | (with_reducible exact Pick.here) | (with_reducible apply Pick.there)))); (· omega); (· omega); rintro e w2 ⟨rfl, hF2⟩; refine st_fr hF2 ?_; (repeat (apply Exists.intro)); refine ⟨?_, ?_⟩; (· (repeat (first | (with_reducible assumption) | (with_reducible apply St.alloc) | (with_reducible apply St.drew) | (with_reducible apply St.drewN) | (with_reducible apply St.alloc') | (with_reducible apply St.set) | (with_reducible exact Pick.here) | (with_reducible apply Pick.there)))); (try simp only [World.size_alloc, World.size_setCell, size_drew, size_drewN]); intro hS; (try clear hQ); have hQ := St.facts hS; simp only [Facts, Res.fact, List.cons_append, List.nil_append, true_and, and_true] at hQ; (try rw [HK.out]))
  go_region_held3 (fun w' => w'.cell? ⟨w.heap.size, 1, none⟩ = some (.int .i64 x) ∧ w'.cell? ⟨w.heap.size, 2, none⟩ = some (.int .i64 y))
    (first | (go_keep; done) | (simp [hQ]; done)) (first | (go_at_call 120; (try rw [hwk]); refine st_num ?_; (repeat (apply Exists.intro)); refine ⟨?_, ?_, ?_, ?_, ?_⟩; (· (repeat (first | (with_reducible assumption) | (with_reducible apply St.alloc) | (with_reducible apply St.drew) | (with_reducible apply St.drewN) | (with_reducible apply St.alloc') | (with_reducible apply St.set) | (with_reducible exact Pick.here) | (with_reducible apply Pick.there)))); (· (try simp only [World.size_alloc, World.size_setCell, size_drew, size_drewN]); ((try simp only [World.size_alloc, World.size_setCell, size_drew, size_drewN]); repeat (first | (exact Pick.here) | (with_reducible apply Pick.there)))); (· omega); (· (first | (simp only [List.length_append, List.length_cons, List.length_nil, List.length_map]; done) | (simp only [List.length_append, List.length_cons, List.length_nil, List.length_map]; omega) | omega)); intro vN wN hS; (try clear hQ); have hQ := St.facts hS; simp only [Facts, Res.fact, List.cons_append, List.nil_append, true_and, and_true] at hQ))
  go_wp2
  go_ret
  refine ⟨vN, rfl, ?_⟩
  rw [E0.out]
  exact hS.sel (by ((try simp only [World.size_alloc, World.size_setCell, size_drew, size_drewN]); repeat (first | (exact Sel.all) | (exact Sel.nil) | (apply Sel.cons; (· ((try simp only [World.size_alloc, World.size_setCell, size_drew, size_drewN]); repeat (first | (exact Pick.here) | (with_reducible apply Pick.there))); done)) | (apply Sel.skip))))
set_option maxRecDepth 100000 in set_option maxHeartbeats 6400000 in
theorem rest5_st {w0 w : World} {G : List Res} {v : Value} {xs : List UInt8} (hS : St [] w0 w (.own 5 1 (v) (xs).length ((xs).map B) :: G)) (hg : Gl7 [] w0) (o x y : Int) (u : Nat) (hk hn jk jn : Int) (n1 n2 : Bool) (ts : List ValT) (ls : List Int) (bk vk : Int) (vn : Bool) (wk wn bn : Int) (cs : List CatchT) (tv lv cv : Value) (hR : InsR [] w0 (⟨o, x, y, u, ⟨hk, hn⟩, ⟨jk, jn⟩, n1, n2, ts, ls, ⟨bk, ⟨vk, vn, ⟨wk, wn⟩⟩, bn⟩, cs⟩ : InstrT) tv lv cv) (hx : xs.length ≤ 17592186044416) (hm : mayI (⟨o, x, y, u, ⟨hk, hn⟩, ⟨jk, jn⟩, n1, n2, ts, ls, ⟨bk, ⟨vk, vn, ⟨wk, wn⟩⟩, bn⟩, cs⟩ : InstrT) = true) (hl1 : ts.length ≤ 65536) (hl2 : ls.length ≤ 65536) (hl3 : cs.length ≤ 65536) (hu : u < 18446744073709551616) (hsh : shapeP o = 5) :
    Calls Tryd.prog 82 #[v, .agg (insC (⟨o, x, y, u, ⟨hk, hn⟩, ⟨jk, jn⟩, n1, n2, ts, ls, ⟨bk, ⟨vk, vn, ⟨wk, wn⟩⟩, bn⟩, cs⟩ : InstrT) tv lv cv).toArray] w fun e w' => ∃ v', e = .returned v' ∧ St [] w0 w' (.own 5 1 (v') (xs ++ pRest (⟨o, x, y, u, ⟨hk, hn⟩, ⟨jk, jn⟩, n1, n2, ts, ls, ⟨bk, ⟨vk, vn, ⟨wk, wn⟩⟩, bn⟩, cs⟩ : InstrT)).length ((xs ++ pRest (⟨o, x, y, u, ⟨hk, hn⟩, ⟨jk, jn⟩, n1, n2, ts, ls, ⟨bk, ⟨vk, vn, ⟨wk, wn⟩⟩, bn⟩, cs⟩ : InstrT)).map B) :: G) := by
  have hb := shape_ok (mayI_shape hm)
  have ho1 : -9223372036854775808 ≤ o := by have := hb.1; dsimp only at this; omega
  have ho2 : o < 9223372036854775808 := by have := hb.1; have := hb.2.1; dsimp only at this; omega
  obtain ⟨tS, lS, cS⟩ := hR
  obtain ⟨ta, tc, rfl⟩ := tS.shape
  obtain ⟨la, lc, rfl⟩ := lS.shape
  obtain ⟨ca, cc, rfl⟩ := cS.shape
  dsimp only at tS lS cS
  have e0 : xs ++ pRest (⟨o, x, y, u, ⟨hk, hn⟩, ⟨jk, jn⟩, n1, n2, ts, ls, ⟨bk, ⟨vk, vn, ⟨wk, wn⟩⟩, bn⟩, cs⟩ : InstrT) = xs ++ pNum ((ls.length : Nat) : Int) ++ ls.flatMap pNum ++ pNum x := by rw [rest5 (by exact hsh)]; simp [pList, pNum]
  have E0 := Lib.hid e0
  clear e0
  generalize xs ++ pRest (⟨o, x, y, u, ⟨hk, hn⟩, ⟨jk, jn⟩, n1, n2, ts, ls, ⟨bk, ⟨vk, vn, ⟨wk, wn⟩⟩, bn⟩, cs⟩ : InstrT) = Y at E0 ⊢
  have hp := may_inv hm (part5 (i := (⟨o, x, y, u, ⟨hk, hn⟩, ⟨jk, jn⟩, n1, n2, ts, ls, ⟨bk, ⟨vk, vn, ⟨wk, wn⟩⟩, bn⟩, cs⟩ : InstrT)) hsh)
  have hp1 := hp.1
  simp only [Bool.and_eq_true, idx_iff] at hp1
  obtain ⟨hX, hL⟩ := hp1
  have hL := Lib.hid hL
  have lX := pNum_len x (by omega)
  have lN := pNum_len ((ls.length : Nat) : Int) (by omega)
  have HK := Lib.hid hsh
  clear hsh hp
  clear hb hm
  unfold insC
  dsimp only
  go_enter Tryd.func82, Tryd.ntmps82
  go_wp2_with first | (go_at_call 89; (with_reducible refine (shape_any ?_ _ ?_ ?_).mono ?_); (· apply St.gl7 (hg := hg); (repeat (first | (with_reducible assumption) | (with_reducible apply St.alloc) | (with_reducible apply St.drew) | (with_reducible apply St.drewN) | (with_reducible apply St.alloc') | (with_reducible apply St.set) | (with_reducible exact Pick.here) | (with_reducible apply Pick.there)))); (· omega); (· omega); rintro e w2 ⟨rfl, hF2⟩; refine st_fr hF2 ?_; (repeat (apply Exists.intro)); refine ⟨?_, ?_⟩; (· (repeat (first | (with_reducible assumption) | (with_reducible apply St.alloc) | (with_reducible apply St.drew) | (with_reducible apply St.drewN) | (with_reducible apply St.alloc') | (with_reducible apply St.set) | (with_reducible exact Pick.here) | (with_reducible apply Pick.there)))); (try simp only [World.size_alloc, World.size_setCell, size_drew, size_drewN]); intro hS; (try clear hQ); have hQ := St.facts hS; simp only [Facts, Res.fact, List.cons_append, List.nil_append, true_and, and_true] at hQ; (try rw [HK.out])) | (go_at_call 120; (try rw [hwk]); refine st_num ?_; (repeat (apply Exists.intro)); refine ⟨?_, ?_, ?_, ?_, ?_⟩; (· (repeat (first | (with_reducible assumption) | (with_reducible apply St.alloc) | (with_reducible apply St.drew) | (with_reducible apply St.drewN) | (with_reducible apply St.alloc') | (with_reducible apply St.set) | (with_reducible exact Pick.here) | (with_reducible apply Pick.there)))); (· (try simp only [World.size_alloc, World.size_setCell, size_drew, size_drewN]); ((try simp only [World.size_alloc, World.size_setCell, size_drew, size_drewN]); repeat (first | (exact Pick.here) | (with_reducible apply Pick.there)))); (· omega); (· (first | (simp only [List.length_append, List.length_cons, List.length_nil, List.length_map]; done) | (simp only [List.length_append, List.length_cons, List.length_nil, List.length_map]; omega) | omega)); intro vN wN hS; (try clear hQ); have hQ := St.facts hS; simp only [Facts, Res.fact, List.cons_append, List.nil_append, true_and, and_true] at hQ)
  go_loopw [0, 43] (fun v n wr => ∃ (k : Nat), n = .int .i64 k ∧ k ≤ ls.length ∧ St [] w0 wr (.own 5 1 (v) (xs ++ pNum ((ls.length : Nat) : Int) ++ (ls.take k).flatMap pNum).length ((xs ++ pNum ((ls.length : Nat) : Int) ++ (ls.take k).flatMap pNum).map B) :: .loc w.heap.size [.int .i64 o, .int .i64 x, .int .i64 y, .int .u64 (u : Int), .int .i64 hk, .int .i64 hn, .int .i64 jk, .int .i64 jn, .bool n1, .bool n2, .slice ta ts.length tc, .slice la ls.length lc, .int .i64 bk, .int .i64 vk, .bool vn, .int .i64 wk, .int .i64 wn, .int .i64 bn, .slice ca cs.length cc] 81 :: G)) (fun _ n _ => ls.length - (intOf n).toNat)
  case atStart =>
    refine ⟨0, rfl, by omega, ?_⟩
    rw [show xs ++ pNum ((ls.length : Nat) : Int) ++ (ls.take 0).flatMap pNum = xs ++ pNum ((ls.length : Nat) : Int) from by simp]
    exact hS.sel (by ((try simp only [World.size_alloc, World.size_setCell, size_drew, size_drewN]); repeat (first | (exact Sel.all) | (exact Sel.nil) | (apply Sel.cons; (· ((try simp only [World.size_alloc, World.size_setCell, size_drew, size_drewN]); repeat (first | (exact Pick.here) | (with_reducible apply Pick.there))); done)) | (apply Sel.skip))))
  case round =>
    obtain ⟨k, rfl, hk2, hS⟩ := hrel
    (try clear hQ); have hQ := St.facts hS; simp only [Facts, Res.fact, List.cons_append, List.nil_append, true_and, and_true] at hQ
    have lK : ((ls.take k).flatMap pNum).length ≤ (ls.take k).length * 10 := flat_len7 _ fun n hn => (by
      have := (idx_iff _).1 (List.all_eq_true.1 hL.out n (List.mem_of_mem_take hn))
      exact pNum_len n (by omega))
    rw [List.length_take] at lK
    by_cases hlt : k < ls.length
    · obtain ⟨m, hm⟩ : ∃ t, ls[k]? = some t := ⟨ls[k], by simp [hlt]⟩
      obtain ⟨b, off, cap2, hv, hb, hnS, hc⟩ := Sl.elem lS (fun _ => rfl) k m hm
      injection hv with hv1 hv2 hv3
      subst hv1 hv3
      have hbw : b < wr.heap.size := Nat.lt_of_lt_of_le hb hS.fr.size
      have f0 := (hS.fr.cell hb (by simp) _).trans (hc 0 (by decide))
      simp only [Nat.add_zero, ← Nat.add_assoc, intC, Nat.mul_one, List.getElem?_cons_zero] at f0
      have hm2 := (idx_iff m).1 (List.all_eq_true.1 hL.out m (List.mem_of_getElem? hm))
      have lM := pNum_len m (by omega)
      have e : xs ++ pNum ((ls.length : Nat) : Int) ++ (ls.take (k + 1)).flatMap pNum = xs ++ pNum ((ls.length : Nat) : Int) ++ (ls.take k).flatMap pNum ++ pNum m := by
        rw [List.take_add_one, hm]; simp
      have E := Lib.hid e
      clear e hm
      go_wp2_with first | (go_at_call 120; (try rw [hwk]); refine st_num ?_; (repeat (apply Exists.intro)); refine ⟨?_, ?_, ?_, ?_, ?_⟩; (· (repeat (first | (with_reducible assumption) | (with_reducible apply St.alloc) | (with_reducible apply St.drew) | (with_reducible apply St.drewN) | (with_reducible apply St.alloc') | (with_reducible apply St.set) | (with_reducible exact Pick.here) | (with_reducible apply Pick.there)))); (· (try simp only [World.size_alloc, World.size_setCell, size_drew, size_drewN]); ((try simp only [World.size_alloc, World.size_setCell, size_drew, size_drewN]); repeat (first | (exact Pick.here) | (with_reducible apply Pick.there)))); (· omega); (· (first | (simp only [List.length_append, List.length_cons, List.length_nil, List.length_map]; done) | (simp only [List.length_append, List.length_cons, List.length_nil, List.length_map]; omega) | omega)); intro vN wN hS; (try clear hQ); have hQ := St.facts hS; simp only [Facts, Res.fact, List.cons_append, List.nil_append, true_and, and_true] at hQ)
      go_roundw
      case rel =>
        refine ⟨k + 1, by go_num, by omega, ?_⟩
        rw [E.out]
        exact hS.sel (by ((try simp only [World.size_alloc, World.size_setCell, size_drew, size_drewN]); repeat (first | (exact Sel.all) | (exact Sel.nil) | (apply Sel.cons; (· ((try simp only [World.size_alloc, World.size_setCell, size_drew, size_drewN]); repeat (first | (exact Pick.here) | (with_reducible apply Pick.there))); done)) | (apply Sel.skip))))
      case measure => simp [intOf]; omega
    · obtain rfl : k = ls.length := by omega
      rw [List.take_length] at hS lK
      go_wp2_with first | (go_at_call 120; (try rw [hwk]); refine st_num ?_; (repeat (apply Exists.intro)); refine ⟨?_, ?_, ?_, ?_, ?_⟩; (· (repeat (first | (with_reducible assumption) | (with_reducible apply St.alloc) | (with_reducible apply St.drew) | (with_reducible apply St.drewN) | (with_reducible apply St.alloc') | (with_reducible apply St.set) | (with_reducible exact Pick.here) | (with_reducible apply Pick.there)))); (· (try simp only [World.size_alloc, World.size_setCell, size_drew, size_drewN]); ((try simp only [World.size_alloc, World.size_setCell, size_drew, size_drewN]); repeat (first | (exact Pick.here) | (with_reducible apply Pick.there)))); (· omega); (· (first | (simp only [List.length_append, List.length_cons, List.length_nil, List.length_map]; done) | (simp only [List.length_append, List.length_cons, List.length_nil, List.length_map]; omega) | omega)); intro vN wN hS; (try clear hQ); have hQ := St.facts hS; simp only [Facts, Res.fact, List.cons_append, List.nil_append, true_and, and_true] at hQ)
      go_ret
      refine ⟨vN, rfl, ?_⟩
      rw [E0.out]
      exact hS.sel (by ((try simp only [World.size_alloc, World.size_setCell, size_drew, size_drewN]); repeat (first | (exact Sel.all) | (exact Sel.nil) | (apply Sel.cons; (· ((try simp only [World.size_alloc, World.size_setCell, size_drew, size_drewN]); repeat (first | (exact Pick.here) | (with_reducible apply Pick.there))); done)) | (apply Sel.skip))))
set_option maxRecDepth 100000 in set_option maxHeartbeats 6400000 in
theorem rest8_st {w0 w : World} {G : List Res} {v : Value} {xs : List UInt8} (hS : St [] w0 w (.own 5 1 (v) (xs).length ((xs).map B) :: G)) (hg : Gl7 [] w0) (o x y : Int) (u : Nat) (hk hn jk jn : Int) (n1 n2 : Bool) (ts : List ValT) (ls : List Int) (bk vk : Int) (vn : Bool) (wk wn bn : Int) (cs : List CatchT) (tv lv cv : Value) (hR : InsR [] w0 (⟨o, x, y, u, ⟨hk, hn⟩, ⟨jk, jn⟩, n1, n2, ts, ls, ⟨bk, ⟨vk, vn, ⟨wk, wn⟩⟩, bn⟩, cs⟩ : InstrT) tv lv cv) (hx : xs.length ≤ 17592186044416) (hm : mayI (⟨o, x, y, u, ⟨hk, hn⟩, ⟨jk, jn⟩, n1, n2, ts, ls, ⟨bk, ⟨vk, vn, ⟨wk, wn⟩⟩, bn⟩, cs⟩ : InstrT) = true) (hl1 : ts.length ≤ 65536) (hl2 : ls.length ≤ 65536) (hl3 : cs.length ≤ 65536) (hu : u < 18446744073709551616) (hsh : shapeP o = 8) :
    Calls Tryd.prog 82 #[v, .agg (insC (⟨o, x, y, u, ⟨hk, hn⟩, ⟨jk, jn⟩, n1, n2, ts, ls, ⟨bk, ⟨vk, vn, ⟨wk, wn⟩⟩, bn⟩, cs⟩ : InstrT) tv lv cv).toArray] w fun e w' => ∃ v', e = .returned v' ∧ St [] w0 w' (.own 5 1 (v') (xs ++ pRest (⟨o, x, y, u, ⟨hk, hn⟩, ⟨jk, jn⟩, n1, n2, ts, ls, ⟨bk, ⟨vk, vn, ⟨wk, wn⟩⟩, bn⟩, cs⟩ : InstrT)).length ((xs ++ pRest (⟨o, x, y, u, ⟨hk, hn⟩, ⟨jk, jn⟩, n1, n2, ts, ls, ⟨bk, ⟨vk, vn, ⟨wk, wn⟩⟩, bn⟩, cs⟩ : InstrT)).map B) :: G) := by
  have hb := shape_ok (mayI_shape hm)
  have ho1 : -9223372036854775808 ≤ o := by have := hb.1; dsimp only at this; omega
  have ho2 : o < 9223372036854775808 := by have := hb.1; have := hb.2.1; dsimp only at this; omega
  obtain ⟨tS, lS, cS⟩ := hR
  obtain ⟨ta, tc, rfl⟩ := tS.shape
  obtain ⟨la, lc, rfl⟩ := lS.shape
  obtain ⟨ca, cc, rfl⟩ := cS.shape
  dsimp only at tS lS cS
  have e0 : xs ++ pRest (⟨o, x, y, u, ⟨hk, hn⟩, ⟨jk, jn⟩, n1, n2, ts, ls, ⟨bk, ⟨vk, vn, ⟨wk, wn⟩⟩, bn⟩, cs⟩ : InstrT) = xs ++ memB x y ++ putU u := by rw [rest8 (by exact hsh)]; simp
  have E0 := Lib.hid e0
  clear e0
  generalize xs ++ pRest (⟨o, x, y, u, ⟨hk, hn⟩, ⟨jk, jn⟩, n1, n2, ts, ls, ⟨bk, ⟨vk, vn, ⟨wk, wn⟩⟩, bn⟩, cs⟩ : InstrT) = Y at E0 ⊢
  have hp := may_inv hm (part8 (i := (⟨o, x, y, u, ⟨hk, hn⟩, ⟨jk, jn⟩, n1, n2, ts, ls, ⟨bk, ⟨vk, vn, ⟨wk, wn⟩⟩, bn⟩, cs⟩ : InstrT)) hsh)
  have hp1 := hp.1
  simp only [Bool.and_eq_true, idx_iff, decide_eq_true_eq] at hp1
  obtain ⟨⟨hx1, hx2⟩, hY⟩ := hp1
  have lX := pNum_len x (by omega)
  have lZ := pNum_len (x + 64) (by omega)
  have lY := pNum_len y (by omega)
  have lU := putU_len u hu
  have hw := IntWalk.wrap64_in (x + 64) (by omega)
  have hwk : IntKind.i64.wrap (x + 64) = x + 64 := by rw [IntKind.wrap_i64]; omega
  have HK := Lib.hid hsh
  clear hsh hp
  clear hb hm
  unfold insC
  dsimp only
  unfold memB at E0
  by_cases hy : y = 0
  · rw [if_pos hy] at E0
    have q : (y != 0) = false := by simp [hy]
    clear hy
    go_enter Tryd.func82, Tryd.ntmps82
    go_wp2_with first | (go_at_call 89; (with_reducible refine (shape_any ?_ _ ?_ ?_).mono ?_); (· apply St.gl7 (hg := hg); (repeat (first | (with_reducible assumption) | (with_reducible apply St.alloc) | (with_reducible apply St.drew) | (with_reducible apply St.drewN) | (with_reducible apply St.alloc') | (with_reducible apply St.set) | (with_reducible exact Pick.here) | (with_reducible apply Pick.there)))); (· omega); (· omega); rintro e w2 ⟨rfl, hF2⟩; refine st_fr hF2 ?_; (repeat (apply Exists.intro)); refine ⟨?_, ?_⟩; (· (repeat (first | (with_reducible assumption) | (with_reducible apply St.alloc) | (with_reducible apply St.drew) | (with_reducible apply St.drewN) | (with_reducible apply St.alloc') | (with_reducible apply St.set) | (with_reducible exact Pick.here) | (with_reducible apply Pick.there)))); (try simp only [World.size_alloc, World.size_setCell, size_drew, size_drewN]); intro hS; (try clear hQ); have hQ := St.facts hS; simp only [Facts, Res.fact, List.cons_append, List.nil_append, true_and, and_true] at hQ; (try rw [HK.out])) | (at_builtin; refine st_app rfl rfl rfl rfl ?_; (repeat (apply Exists.intro)); refine ⟨?_, ?_, ?_, ?_, ?_⟩; (· (repeat (first | (with_reducible assumption) | (with_reducible apply St.alloc) | (with_reducible apply St.drew) | (with_reducible apply St.drewN) | (with_reducible apply St.alloc') | (with_reducible apply St.set) | (with_reducible exact Pick.here) | (with_reducible apply Pick.there)))); (· (try simp only [World.size_alloc, World.size_setCell, size_drew, size_drewN]); first | (apply Dst.own; ((try simp only [World.size_alloc, World.size_setCell, size_drew, size_drewN]); repeat (first | (exact Pick.here) | (with_reducible apply Pick.there))); done) | (apply Dst.lit; (· ((try simp only [World.size_alloc, World.size_setCell, size_drew, size_drewN]); repeat (first | (exact Pick.here) | (with_reducible apply Pick.there)))); (· omega)) | (apply Dst.nil; rfl)); (· (try simp only [World.size_alloc, World.size_setCell, size_drew, size_drewN]); first | (apply SrcOf.own; ((try simp only [World.size_alloc, World.size_setCell, size_drew, size_drewN]); repeat (first | (exact Pick.here) | (with_reducible apply Pick.there))); done) | (apply SrcOf.lit; (· ((try simp only [World.size_alloc, World.size_setCell, size_drew, size_drewN]); repeat (first | (exact Pick.here) | (with_reducible apply Pick.there)))); (· omega)) | (apply SrcOf.arg; assumption)); (· (first | (simp only [List.length_append, List.length_cons, List.length_nil, List.length_map]; done) | (simp only [List.length_append, List.length_cons, List.length_nil, List.length_map]; omega) | omega)); intro vN wN hS; (try clear hQ); have hQ := St.facts hS; simp only [Facts, Res.fact, List.cons_append, List.nil_append, true_and, and_true] at hQ) | (go_at_call 120; (try rw [hwk]); refine st_num ?_; (repeat (apply Exists.intro)); refine ⟨?_, ?_, ?_, ?_, ?_⟩; (· (repeat (first | (with_reducible assumption) | (with_reducible apply St.alloc) | (with_reducible apply St.drew) | (with_reducible apply St.drewN) | (with_reducible apply St.alloc') | (with_reducible apply St.set) | (with_reducible exact Pick.here) | (with_reducible apply Pick.there)))); (· (try simp only [World.size_alloc, World.size_setCell, size_drew, size_drewN]); ((try simp only [World.size_alloc, World.size_setCell, size_drew, size_drewN]); repeat (first | (exact Pick.here) | (with_reducible apply Pick.there)))); (· omega); (· (first | (simp only [List.length_append, List.length_cons, List.length_nil, List.length_map]; done) | (simp only [List.length_append, List.length_cons, List.length_nil, List.length_map]; omega) | omega)); intro vN wN hS; (try clear hQ); have hQ := St.facts hS; simp only [Facts, Res.fact, List.cons_append, List.nil_append, true_and, and_true] at hQ) | (go_at_call 113; (first | (with_reducible refine (pPutU u _ (by omega)).mono ?_) | (with_reducible refine (pPutUw u _ (by omega)).mono ?_)); rintro e w4 ⟨v4, rfl, s4⟩; refine st_go s4 ?_; (repeat (apply Exists.intro)); refine ⟨?_, ?_⟩; (· (repeat (first | (with_reducible assumption) | (with_reducible apply St.alloc) | (with_reducible apply St.drew) | (with_reducible apply St.drewN) | (with_reducible apply St.alloc') | (with_reducible apply St.set) | (with_reducible exact Pick.here) | (with_reducible apply Pick.there)))); (try simp only [World.size_alloc, World.size_setCell, size_drew, size_drewN]); intro hS; simp only [List.cons_append, List.nil_append] at hS; (try clear hQ); have hQ := St.facts hS; simp only [Facts, Res.fact, List.cons_append, List.nil_append, true_and, and_true] at hQ)
    go_ret
    refine ⟨vN, rfl, ?_⟩
    rw [E0.out]
    exact hS.sel (by ((try simp only [World.size_alloc, World.size_setCell, size_drew, size_drewN]); repeat (first | (exact Sel.all) | (exact Sel.nil) | (apply Sel.cons; (· ((try simp only [World.size_alloc, World.size_setCell, size_drew, size_drewN]); repeat (first | (exact Pick.here) | (with_reducible apply Pick.there))); done)) | (apply Sel.skip))))
  · have q : (y != 0) = true := by simp [hy]
    rw [if_neg hy, ← List.append_assoc] at E0
    clear hy
    go_enter Tryd.func82, Tryd.ntmps82
    go_wp2_with first | (go_at_call 89; (with_reducible refine (shape_any ?_ _ ?_ ?_).mono ?_); (· apply St.gl7 (hg := hg); (repeat (first | (with_reducible assumption) | (with_reducible apply St.alloc) | (with_reducible apply St.drew) | (with_reducible apply St.drewN) | (with_reducible apply St.alloc') | (with_reducible apply St.set) | (with_reducible exact Pick.here) | (with_reducible apply Pick.there)))); (· omega); (· omega); rintro e w2 ⟨rfl, hF2⟩; refine st_fr hF2 ?_; (repeat (apply Exists.intro)); refine ⟨?_, ?_⟩; (· (repeat (first | (with_reducible assumption) | (with_reducible apply St.alloc) | (with_reducible apply St.drew) | (with_reducible apply St.drewN) | (with_reducible apply St.alloc') | (with_reducible apply St.set) | (with_reducible exact Pick.here) | (with_reducible apply Pick.there)))); (try simp only [World.size_alloc, World.size_setCell, size_drew, size_drewN]); intro hS; (try clear hQ); have hQ := St.facts hS; simp only [Facts, Res.fact, List.cons_append, List.nil_append, true_and, and_true] at hQ; (try rw [HK.out]))
    go_region_held3 (fun w' => w'.cell? ⟨w.heap.size, 1, none⟩ = some (.int .i64 x) ∧ w'.cell? ⟨w.heap.size, 2, none⟩ = some (.int .i64 y))
      (first | (go_keep; done) | (simp [hQ]; done)) (first | (go_at_call 120; (try rw [hwk]); refine st_num ?_; (repeat (apply Exists.intro)); refine ⟨?_, ?_, ?_, ?_, ?_⟩; (· (repeat (first | (with_reducible assumption) | (with_reducible apply St.alloc) | (with_reducible apply St.drew) | (with_reducible apply St.drewN) | (with_reducible apply St.alloc') | (with_reducible apply St.set) | (with_reducible exact Pick.here) | (with_reducible apply Pick.there)))); (· (try simp only [World.size_alloc, World.size_setCell, size_drew, size_drewN]); ((try simp only [World.size_alloc, World.size_setCell, size_drew, size_drewN]); repeat (first | (exact Pick.here) | (with_reducible apply Pick.there)))); (· omega); (· (first | (simp only [List.length_append, List.length_cons, List.length_nil, List.length_map]; done) | (simp only [List.length_append, List.length_cons, List.length_nil, List.length_map]; omega) | omega)); intro vN wN hS; (try clear hQ); have hQ := St.facts hS; simp only [Facts, Res.fact, List.cons_append, List.nil_append, true_and, and_true] at hQ))
    go_wp2_with first | (at_builtin; refine st_app rfl rfl rfl rfl ?_; (repeat (apply Exists.intro)); refine ⟨?_, ?_, ?_, ?_, ?_⟩; (· (repeat (first | (with_reducible assumption) | (with_reducible apply St.alloc) | (with_reducible apply St.drew) | (with_reducible apply St.drewN) | (with_reducible apply St.alloc') | (with_reducible apply St.set) | (with_reducible exact Pick.here) | (with_reducible apply Pick.there)))); (· (try simp only [World.size_alloc, World.size_setCell, size_drew, size_drewN]); first | (apply Dst.own; ((try simp only [World.size_alloc, World.size_setCell, size_drew, size_drewN]); repeat (first | (exact Pick.here) | (with_reducible apply Pick.there))); done) | (apply Dst.lit; (· ((try simp only [World.size_alloc, World.size_setCell, size_drew, size_drewN]); repeat (first | (exact Pick.here) | (with_reducible apply Pick.there)))); (· omega)) | (apply Dst.nil; rfl)); (· (try simp only [World.size_alloc, World.size_setCell, size_drew, size_drewN]); first | (apply SrcOf.own; ((try simp only [World.size_alloc, World.size_setCell, size_drew, size_drewN]); repeat (first | (exact Pick.here) | (with_reducible apply Pick.there))); done) | (apply SrcOf.lit; (· ((try simp only [World.size_alloc, World.size_setCell, size_drew, size_drewN]); repeat (first | (exact Pick.here) | (with_reducible apply Pick.there)))); (· omega)) | (apply SrcOf.arg; assumption)); (· (first | (simp only [List.length_append, List.length_cons, List.length_nil, List.length_map]; done) | (simp only [List.length_append, List.length_cons, List.length_nil, List.length_map]; omega) | omega)); intro vN wN hS; (try clear hQ); have hQ := St.facts hS; simp only [Facts, Res.fact, List.cons_append, List.nil_append, true_and, and_true] at hQ) | (go_at_call 113; (first | (with_reducible refine (pPutU u _ (by omega)).mono ?_) | (with_reducible refine (pPutUw u _ (by omega)).mono ?_)); rintro e w4 ⟨v4, rfl, s4⟩; refine st_go s4 ?_; (repeat (apply Exists.intro)); refine ⟨?_, ?_⟩; (· (repeat (first | (with_reducible assumption) | (with_reducible apply St.alloc) | (with_reducible apply St.drew) | (with_reducible apply St.drewN) | (with_reducible apply St.alloc') | (with_reducible apply St.set) | (with_reducible exact Pick.here) | (with_reducible apply Pick.there)))); (try simp only [World.size_alloc, World.size_setCell, size_drew, size_drewN]); intro hS; simp only [List.cons_append, List.nil_append] at hS; (try clear hQ); have hQ := St.facts hS; simp only [Facts, Res.fact, List.cons_append, List.nil_append, true_and, and_true] at hQ)
    go_ret
    refine ⟨vN, rfl, ?_⟩
    rw [E0.out]
    exact hS.sel (by ((try simp only [World.size_alloc, World.size_setCell, size_drew, size_drewN]); repeat (first | (exact Sel.all) | (exact Sel.nil) | (apply Sel.cons; (· ((try simp only [World.size_alloc, World.size_setCell, size_drew, size_drewN]); repeat (first | (exact Pick.here) | (with_reducible apply Pick.there))); done)) | (apply Sel.skip))))
set_option maxRecDepth 100000 in set_option maxHeartbeats 6400000 in
theorem rest9_st {w0 w : World} {G : List Res} {v : Value} {xs : List UInt8} (hS : St [] w0 w (.own 5 1 (v) (xs).length ((xs).map B) :: G)) (hg : Gl7 [] w0) (o x y : Int) (u : Nat) (hk hn jk jn : Int) (n1 n2 : Bool) (ts : List ValT) (ls : List Int) (bk vk : Int) (vn : Bool) (wk wn bn : Int) (cs : List CatchT) (tv lv cv : Value) (hR : InsR [] w0 (⟨o, x, y, u, ⟨hk, hn⟩, ⟨jk, jn⟩, n1, n2, ts, ls, ⟨bk, ⟨vk, vn, ⟨wk, wn⟩⟩, bn⟩, cs⟩ : InstrT) tv lv cv) (hx : xs.length ≤ 17592186044416) (hm : mayI (⟨o, x, y, u, ⟨hk, hn⟩, ⟨jk, jn⟩, n1, n2, ts, ls, ⟨bk, ⟨vk, vn, ⟨wk, wn⟩⟩, bn⟩, cs⟩ : InstrT) = true) (hl1 : ts.length ≤ 65536) (hl2 : ls.length ≤ 65536) (hl3 : cs.length ≤ 65536) (hu : u < 18446744073709551616) (hsh : shapeP o = 9) :
    Calls Tryd.prog 82 #[v, .agg (insC (⟨o, x, y, u, ⟨hk, hn⟩, ⟨jk, jn⟩, n1, n2, ts, ls, ⟨bk, ⟨vk, vn, ⟨wk, wn⟩⟩, bn⟩, cs⟩ : InstrT) tv lv cv).toArray] w fun e w' => ∃ v', e = .returned v' ∧ St [] w0 w' (.own 5 1 (v') (xs ++ pRest (⟨o, x, y, u, ⟨hk, hn⟩, ⟨jk, jn⟩, n1, n2, ts, ls, ⟨bk, ⟨vk, vn, ⟨wk, wn⟩⟩, bn⟩, cs⟩ : InstrT)).length ((xs ++ pRest (⟨o, x, y, u, ⟨hk, hn⟩, ⟨jk, jn⟩, n1, n2, ts, ls, ⟨bk, ⟨vk, vn, ⟨wk, wn⟩⟩, bn⟩, cs⟩ : InstrT)).map B) :: G) := by
  have hb := shape_ok (mayI_shape hm)
  have ho1 : -9223372036854775808 ≤ o := by have := hb.1; dsimp only at this; omega
  have ho2 : o < 9223372036854775808 := by have := hb.1; have := hb.2.1; dsimp only at this; omega
  obtain ⟨tS, lS, cS⟩ := hR
  obtain ⟨ta, tc, rfl⟩ := tS.shape
  obtain ⟨la, lc, rfl⟩ := lS.shape
  obtain ⟨ca, cc, rfl⟩ := cS.shape
  dsimp only at tS lS cS
  have e0 : xs ++ pRest (⟨o, x, y, u, ⟨hk, hn⟩, ⟨jk, jn⟩, n1, n2, ts, ls, ⟨bk, ⟨vk, vn, ⟨wk, wn⟩⟩, bn⟩, cs⟩ : InstrT) = xs ++ putS (toI32 u) := by rw [rest9 (by exact hsh)]
  have E0 := Lib.hid e0
  clear e0
  generalize xs ++ pRest (⟨o, x, y, u, ⟨hk, hn⟩, ⟨jk, jn⟩, n1, n2, ts, ls, ⟨bk, ⟨vk, vn, ⟨wk, wn⟩⟩, bn⟩, cs⟩ : InstrT) = Y at E0 ⊢
  have hp := may_inv hm (part9 (i := (⟨o, x, y, u, ⟨hk, hn⟩, ⟨jk, jn⟩, n1, n2, ts, ls, ⟨bk, ⟨vk, vn, ⟨wk, wn⟩⟩, bn⟩, cs⟩ : InstrT)) hsh)
  have hp1 := hp.1
  simp only [decide_eq_true_eq] at hp1
  obtain ⟨t1, t2, _⟩ := toI32_lt hp1
  have lX := putS_len (toI32 u) (by omega) (by omega)
  obtain ⟨hw1, hw2⟩ := toI32_wrap hp1
  have HK := Lib.hid hsh
  clear hsh hp
  clear hb hm
  unfold insC
  dsimp only
  go_enter Tryd.func82, Tryd.ntmps82
  go_wp2_with first | (go_at_call 89; (with_reducible refine (shape_any ?_ _ ?_ ?_).mono ?_); (· apply St.gl7 (hg := hg); (repeat (first | (with_reducible assumption) | (with_reducible apply St.alloc) | (with_reducible apply St.drew) | (with_reducible apply St.drewN) | (with_reducible apply St.alloc') | (with_reducible apply St.set) | (with_reducible exact Pick.here) | (with_reducible apply Pick.there)))); (· omega); (· omega); rintro e w2 ⟨rfl, hF2⟩; refine st_fr hF2 ?_; (repeat (apply Exists.intro)); refine ⟨?_, ?_⟩; (· (repeat (first | (with_reducible assumption) | (with_reducible apply St.alloc) | (with_reducible apply St.drew) | (with_reducible apply St.drewN) | (with_reducible apply St.alloc') | (with_reducible apply St.set) | (with_reducible exact Pick.here) | (with_reducible apply Pick.there)))); (try simp only [World.size_alloc, World.size_setCell, size_drew, size_drewN]); intro hS; (try clear hQ); have hQ := St.facts hS; simp only [Facts, Res.fact, List.cons_append, List.nil_append, true_and, and_true] at hQ; (try rw [HK.out])) | (at_builtin; refine st_app rfl rfl rfl rfl ?_; (repeat (apply Exists.intro)); refine ⟨?_, ?_, ?_, ?_, ?_⟩; (· (repeat (first | (with_reducible assumption) | (with_reducible apply St.alloc) | (with_reducible apply St.drew) | (with_reducible apply St.drewN) | (with_reducible apply St.alloc') | (with_reducible apply St.set) | (with_reducible exact Pick.here) | (with_reducible apply Pick.there)))); (· (try simp only [World.size_alloc, World.size_setCell, size_drew, size_drewN]); first | (apply Dst.own; ((try simp only [World.size_alloc, World.size_setCell, size_drew, size_drewN]); repeat (first | (exact Pick.here) | (with_reducible apply Pick.there))); done) | (apply Dst.lit; (· ((try simp only [World.size_alloc, World.size_setCell, size_drew, size_drewN]); repeat (first | (exact Pick.here) | (with_reducible apply Pick.there)))); (· omega)) | (apply Dst.nil; rfl)); (· (try simp only [World.size_alloc, World.size_setCell, size_drew, size_drewN]); first | (apply SrcOf.own; ((try simp only [World.size_alloc, World.size_setCell, size_drew, size_drewN]); repeat (first | (exact Pick.here) | (with_reducible apply Pick.there))); done) | (apply SrcOf.lit; (· ((try simp only [World.size_alloc, World.size_setCell, size_drew, size_drewN]); repeat (first | (exact Pick.here) | (with_reducible apply Pick.there)))); (· omega)) | (apply SrcOf.arg; assumption)); (· (first | (simp only [List.length_append, List.length_cons, List.length_nil, List.length_map]; done) | (simp only [List.length_append, List.length_cons, List.length_nil, List.length_map]; omega) | omega)); intro vN wN hS; (try clear hQ); have hQ := St.facts hS; simp only [Facts, Res.fact, List.cons_append, List.nil_append, true_and, and_true] at hQ) | (go_at_call 115; (with_reducible refine (pPutS (toI32 u) _ (by omega) (by omega)).mono ?_); rintro e w4 ⟨v4, rfl, s4⟩; refine st_go s4 ?_; (repeat (apply Exists.intro)); refine ⟨?_, ?_⟩; (· (repeat (first | (with_reducible assumption) | (with_reducible apply St.alloc) | (with_reducible apply St.drew) | (with_reducible apply St.drewN) | (with_reducible apply St.alloc') | (with_reducible apply St.set) | (with_reducible exact Pick.here) | (with_reducible apply Pick.there)))); (try simp only [World.size_alloc, World.size_setCell, size_drew, size_drewN]); intro hS; simp only [List.cons_append, List.nil_append] at hS; (try clear hQ); have hQ := St.facts hS; simp only [Facts, Res.fact, List.cons_append, List.nil_append, true_and, and_true] at hQ)
  go_ret
  refine ⟨vN, rfl, ?_⟩
  rw [E0.out]
  exact hS.sel (by ((try simp only [World.size_alloc, World.size_setCell, size_drew, size_drewN]); repeat (first | (exact Sel.all) | (exact Sel.nil) | (apply Sel.cons; (· ((try simp only [World.size_alloc, World.size_setCell, size_drew, size_drewN]); repeat (first | (exact Pick.here) | (with_reducible apply Pick.there))); done)) | (apply Sel.skip))))
end Go.Proofs.YtokneepfknepaaaDoor

set_option linter.unusedSimpArgs false
set_option linter.unusedVariables false
namespace Go.Proofs.YtokneepfknepaaaDoor
open Go.RowKit
set_option maxRecDepth 100000 in set_option maxHeartbeats 6400000 in
theorem rest10_st {w0 w : World} {G : List Res} {v : Value} {xs : List UInt8} (hS : St [] w0 w (.own 5 1 (v) (xs).length ((xs).map B) :: G)) (hg : Gl7 [] w0) (o x y : Int) (u : Nat) (hk hn jk jn : Int) (n1 n2 : Bool) (ts : List ValT) (ls : List Int) (bk vk : Int) (vn : Bool) (wk wn bn : Int) (cs : List CatchT) (tv lv cv : Value) (hR : InsR [] w0 (⟨o, x, y, u, ⟨hk, hn⟩, ⟨jk, jn⟩, n1, n2, ts, ls, ⟨bk, ⟨vk, vn, ⟨wk, wn⟩⟩, bn⟩, cs⟩ : InstrT) tv lv cv) (hx : xs.length ≤ 17592186044416) (hm : mayI (⟨o, x, y, u, ⟨hk, hn⟩, ⟨jk, jn⟩, n1, n2, ts, ls, ⟨bk, ⟨vk, vn, ⟨wk, wn⟩⟩, bn⟩, cs⟩ : InstrT) = true) (hl1 : ts.length ≤ 65536) (hl2 : ls.length ≤ 65536) (hl3 : cs.length ≤ 65536) (hu : u < 18446744073709551616) (hsh : shapeP o = 10) :
    Calls Tryd.prog 82 #[v, .agg (insC (⟨o, x, y, u, ⟨hk, hn⟩, ⟨jk, jn⟩, n1, n2, ts, ls, ⟨bk, ⟨vk, vn, ⟨wk, wn⟩⟩, bn⟩, cs⟩ : InstrT) tv lv cv).toArray] w fun e w' => ∃ v', e = .returned v' ∧ St [] w0 w' (.own 5 1 (v') (xs ++ pRest (⟨o, x, y, u, ⟨hk, hn⟩, ⟨jk, jn⟩, n1, n2, ts, ls, ⟨bk, ⟨vk, vn, ⟨wk, wn⟩⟩, bn⟩, cs⟩ : InstrT)).length ((xs ++ pRest (⟨o, x, y, u, ⟨hk, hn⟩, ⟨jk, jn⟩, n1, n2, ts, ls, ⟨bk, ⟨vk, vn, ⟨wk, wn⟩⟩, bn⟩, cs⟩ : InstrT)).map B) :: G) := by
  have hb := shape_ok (mayI_shape hm)
  have ho1 : -9223372036854775808 ≤ o := by have := hb.1; dsimp only at this; omega
  have ho2 : o < 9223372036854775808 := by have := hb.1; have := hb.2.1; dsimp only at this; omega
  obtain ⟨tS, lS, cS⟩ := hR
  obtain ⟨ta, tc, rfl⟩ := tS.shape
  obtain ⟨la, lc, rfl⟩ := lS.shape
  obtain ⟨ca, cc, rfl⟩ := cS.shape
  dsimp only at tS lS cS
  have e0 : xs ++ pRest (⟨o, x, y, u, ⟨hk, hn⟩, ⟨jk, jn⟩, n1, n2, ts, ls, ⟨bk, ⟨vk, vn, ⟨wk, wn⟩⟩, bn⟩, cs⟩ : InstrT) = xs ++ putS (toI64 u) := by rw [rest10 (by exact hsh)]
  have E0 := Lib.hid e0
  clear e0
  generalize xs ++ pRest (⟨o, x, y, u, ⟨hk, hn⟩, ⟨jk, jn⟩, n1, n2, ts, ls, ⟨bk, ⟨vk, vn, ⟨wk, wn⟩⟩, bn⟩, cs⟩ : InstrT) = Y at E0 ⊢
  obtain ⟨t1, t2, _⟩ := toI64_lt hu
  have lX := putS_len (toI64 u) (by omega) (by omega)
  have hw1 := toI64_wrap7 hu
  have HK := Lib.hid hsh
  clear hsh
  clear hb hm
  unfold insC
  dsimp only
  go_enter Tryd.func82, Tryd.ntmps82
  go_wp2_with first | (go_at_call 89; (with_reducible refine (shape_any ?_ _ ?_ ?_).mono ?_); (· apply St.gl7 (hg := hg); (repeat (first | (with_reducible assumption) | (with_reducible apply St.alloc) | (with_reducible apply St.drew) | (with_reducible apply St.drewN) | (with_reducible apply St.alloc') | (with_reducible apply St.set) | (with_reducible exact Pick.here) | (with_reducible apply Pick.there)))); (· omega); (· omega); rintro e w2 ⟨rfl, hF2⟩; refine st_fr hF2 ?_; (repeat (apply Exists.intro)); refine ⟨?_, ?_⟩; (· (repeat (first | (with_reducible assumption) | (with_reducible apply St.alloc) | (with_reducible apply St.drew) | (with_reducible apply St.drewN) | (with_reducible apply St.alloc') | (with_reducible apply St.set) | (with_reducible exact Pick.here) | (with_reducible apply Pick.there)))); (try simp only [World.size_alloc, World.size_setCell, size_drew, size_drewN]); intro hS; (try clear hQ); have hQ := St.facts hS; simp only [Facts, Res.fact, List.cons_append, List.nil_append, true_and, and_true] at hQ; (try rw [HK.out])) | (at_builtin; refine st_app rfl rfl rfl rfl ?_; (repeat (apply Exists.intro)); refine ⟨?_, ?_, ?_, ?_, ?_⟩; (· (repeat (first | (with_reducible assumption) | (with_reducible apply St.alloc) | (with_reducible apply St.drew) | (with_reducible apply St.drewN) | (with_reducible apply St.alloc') | (with_reducible apply St.set) | (with_reducible exact Pick.here) | (with_reducible apply Pick.there)))); (· (try simp only [World.size_alloc, World.size_setCell, size_drew, size_drewN]); first | (apply Dst.own; ((try simp only [World.size_alloc, World.size_setCell, size_drew, size_drewN]); repeat (first | (exact Pick.here) | (with_reducible apply Pick.there))); done) | (apply Dst.lit; (· ((try simp only [World.size_alloc, World.size_setCell, size_drew, size_drewN]); repeat (first | (exact Pick.here) | (with_reducible apply Pick.there)))); (· omega)) | (apply Dst.nil; rfl)); (· (try simp only [World.size_alloc, World.size_setCell, size_drew, size_drewN]); first | (apply SrcOf.own; ((try simp only [World.size_alloc, World.size_setCell, size_drew, size_drewN]); repeat (first | (exact Pick.here) | (with_reducible apply Pick.there))); done) | (apply SrcOf.lit; (· ((try simp only [World.size_alloc, World.size_setCell, size_drew, size_drewN]); repeat (first | (exact Pick.here) | (with_reducible apply Pick.there)))); (· omega)) | (apply SrcOf.arg; assumption)); (· (first | (simp only [List.length_append, List.length_cons, List.length_nil, List.length_map]; done) | (simp only [List.length_append, List.length_cons, List.length_nil, List.length_map]; omega) | omega)); intro vN wN hS; (try clear hQ); have hQ := St.facts hS; simp only [Facts, Res.fact, List.cons_append, List.nil_append, true_and, and_true] at hQ) | (go_at_call 115; (with_reducible refine (pPutS (toI64 u) _ (by omega) (by omega)).mono ?_); rintro e w4 ⟨v4, rfl, s4⟩; refine st_go s4 ?_; (repeat (apply Exists.intro)); refine ⟨?_, ?_⟩; (· (repeat (first | (with_reducible assumption) | (with_reducible apply St.alloc) | (with_reducible apply St.drew) | (with_reducible apply St.drewN) | (with_reducible apply St.alloc') | (with_reducible apply St.set) | (with_reducible exact Pick.here) | (with_reducible apply Pick.there)))); (try simp only [World.size_alloc, World.size_setCell, size_drew, size_drewN]); intro hS; simp only [List.cons_append, List.nil_append] at hS; (try clear hQ); have hQ := St.facts hS; simp only [Facts, Res.fact, List.cons_append, List.nil_append, true_and, and_true] at hQ)
  go_ret
  refine ⟨vN, rfl, ?_⟩
  rw [E0.out]
  exact hS.sel (by ((try simp only [World.size_alloc, World.size_setCell, size_drew, size_drewN]); repeat (first | (exact Sel.all) | (exact Sel.nil) | (apply Sel.cons; (· ((try simp only [World.size_alloc, World.size_setCell, size_drew, size_drewN]); repeat (first | (exact Pick.here) | (with_reducible apply Pick.there))); done)) | (apply Sel.skip))))
set_option maxRecDepth 100000 in set_option maxHeartbeats 6400000 in
theorem rest13_st {w0 w : World} {G : List Res} {v : Value} {xs : List UInt8} (hS : St [] w0 w (.own 5 1 (v) (xs).length ((xs).map B) :: G)) (hg : Gl7 [] w0) (o x y : Int) (u : Nat) (hk hn jk jn : Int) (n1 n2 : Bool) (ts : List ValT) (ls : List Int) (bk vk : Int) (vn : Bool) (wk wn bn : Int) (cs : List CatchT) (tv lv cv : Value) (hR : InsR [] w0 (⟨o, x, y, u, ⟨hk, hn⟩, ⟨jk, jn⟩, n1, n2, ts, ls, ⟨bk, ⟨vk, vn, ⟨wk, wn⟩⟩, bn⟩, cs⟩ : InstrT) tv lv cv) (hx : xs.length ≤ 17592186044416) (hm : mayI (⟨o, x, y, u, ⟨hk, hn⟩, ⟨jk, jn⟩, n1, n2, ts, ls, ⟨bk, ⟨vk, vn, ⟨wk, wn⟩⟩, bn⟩, cs⟩ : InstrT) = true) (hl1 : ts.length ≤ 65536) (hl2 : ls.length ≤ 65536) (hl3 : cs.length ≤ 65536) (hu : u < 18446744073709551616) (hsh : shapeP o = 13) :
    Calls Tryd.prog 82 #[v, .agg (insC (⟨o, x, y, u, ⟨hk, hn⟩, ⟨jk, jn⟩, n1, n2, ts, ls, ⟨bk, ⟨vk, vn, ⟨wk, wn⟩⟩, bn⟩, cs⟩ : InstrT) tv lv cv).toArray] w fun e w' => ∃ v', e = .returned v' ∧ St [] w0 w' (.own 5 1 (v') (xs ++ pRest (⟨o, x, y, u, ⟨hk, hn⟩, ⟨jk, jn⟩, n1, n2, ts, ls, ⟨bk, ⟨vk, vn, ⟨wk, wn⟩⟩, bn⟩, cs⟩ : InstrT)).length ((xs ++ pRest (⟨o, x, y, u, ⟨hk, hn⟩, ⟨jk, jn⟩, n1, n2, ts, ls, ⟨bk, ⟨vk, vn, ⟨wk, wn⟩⟩, bn⟩, cs⟩ : InstrT)).map B) :: G) := by
  have hb := shape_ok (mayI_shape hm)
  have ho1 : -9223372036854775808 ≤ o := by have := hb.1; dsimp only at this; omega
  have ho2 : o < 9223372036854775808 := by have := hb.1; have := hb.2.1; dsimp only at this; omega
  obtain ⟨tS, lS, cS⟩ := hR
  obtain ⟨ta, tc, rfl⟩ := tS.shape
  obtain ⟨la, lc, rfl⟩ := lS.shape
  obtain ⟨ca, cc, rfl⟩ := cS.shape
  dsimp only at tS lS cS
  have e0 : xs ++ pRest (⟨o, x, y, u, ⟨hk, hn⟩, ⟨jk, jn⟩, n1, n2, ts, ls, ⟨bk, ⟨vk, vn, ⟨wk, wn⟩⟩, bn⟩, cs⟩ : InstrT) = xs ++ [UInt8.ofNat (((pNulls n1 n2).toNat : Nat) : Int).toNat] ++ pNum x ++ heapB ⟨hk, hn⟩ ++ heapB ⟨jk, jn⟩ := by rw [rest13 (by exact hsh)]; simp
  have E0 := Lib.hid e0
  clear e0
  generalize xs ++ pRest (⟨o, x, y, u, ⟨hk, hn⟩, ⟨jk, jn⟩, n1, n2, ts, ls, ⟨bk, ⟨vk, vn, ⟨wk, wn⟩⟩, bn⟩, cs⟩ : InstrT) = Y at E0 ⊢
  have hp := may_inv hm (part13 (i := (⟨o, x, y, u, ⟨hk, hn⟩, ⟨jk, jn⟩, n1, n2, ts, ls, ⟨bk, ⟨vk, vn, ⟨wk, wn⟩⟩, bn⟩, cs⟩ : InstrT)) hsh)
  have hp1 := hp.1
  simp only [Bool.and_eq_true, idx_iff] at hp1
  obtain ⟨⟨hX, k1⟩, k2⟩ := hp1
  have k1 : plainVal ⟨3, false, ⟨hk, hn⟩⟩ = true := k1
  have k2 : plainVal ⟨3, false, ⟨jk, jn⟩⟩ = true := k2
  have ok1 := plainVal_ok k1
  have ok2 := plainVal_ok k2
  have lX := pNum_len x (by omega)
  have l1 : (heapB ⟨hk, hn⟩).length ≤ 12 := by rw [heapB_yes k1]; exact pHeap_len _ ok1.2.1 ok1.2.2
  have l2 : (heapB ⟨jk, jn⟩).length ≤ 12 := by rw [heapB_yes k2]; exact pHeap_len _ ok2.2.1 ok2.2.2
  have ln : (pNulls n1 n2).toNat < 256 := (pNulls n1 n2).toNat_lt
  have HK := Lib.hid hsh
  clear hsh hp k1 k2
  clear hb hm
  unfold insC
  dsimp only
  go_enter Tryd.func82, Tryd.ntmps82
  go_wp2_with first | (go_at_call 89; (with_reducible refine (shape_any ?_ _ ?_ ?_).mono ?_); (· apply St.gl7 (hg := hg); (repeat (first | (with_reducible assumption) | (with_reducible apply St.alloc) | (with_reducible apply St.drew) | (with_reducible apply St.drewN) | (with_reducible apply St.alloc') | (with_reducible apply St.set) | (with_reducible exact Pick.here) | (with_reducible apply Pick.there)))); (· omega); (· omega); rintro e w2 ⟨rfl, hF2⟩; refine st_fr hF2 ?_; (repeat (apply Exists.intro)); refine ⟨?_, ?_⟩; (· (repeat (first | (with_reducible assumption) | (with_reducible apply St.alloc) | (with_reducible apply St.drew) | (with_reducible apply St.drewN) | (with_reducible apply St.alloc') | (with_reducible apply St.set) | (with_reducible exact Pick.here) | (with_reducible apply Pick.there)))); (try simp only [World.size_alloc, World.size_setCell, size_drew, size_drewN]); intro hS; (try clear hQ); have hQ := St.facts hS; simp only [Facts, Res.fact, List.cons_append, List.nil_append, true_and, and_true] at hQ; (try rw [HK.out]))
  have hbox : Loc _ w.heap.size [.int .i64 o, .int .i64 x, .int .i64 y, .int .u64 (u : Int), .int .i64 hk, .int .i64 hn, .int .i64 jk, .int .i64 jn, .bool n1, .bool n2, .slice ta ts.length tc, .slice la ls.length lc, .int .i64 bk, .int .i64 vk, .bool vn, .int .i64 wk, .int .i64 wn, .int .i64 bn, .slice ca cs.length cc] 81 := hS.loc .here
  refine wp_region_held_drew (S := fun w' => w'.rangeAt w.heap.size 0 [.int .i64 o, .int .i64 x, .int .i64 y, .int .u64 (u : Int), .int .i64 hk, .int .i64 hn, .int .i64 jk, .int .i64 jn, .bool n1, .bool n2, .slice ta ts.length tc, .slice la ls.length lc, .int .i64 bk, .int .i64 vk, .bool vn, .int .i64 wk, .int .i64 wn, .int .i64 bn, .slice ca cs.length cc]) (by kernel_rfl) (Loc.range (Loc.drew hbox)) (fun hr => ?_)
  have hS := hS.drew
  refine wpAnyH_take (i := 0) (v := v) rfl (by kernel_rfl) (by kernel_rfl) (by kernel_rfl) (fun _ _ _ h => h) (Or.inl ⟨by rfl, fun _ _ => by go_simp⟩) hr ?_
  simp only [Act.put, List.setIfInBounds_toArray, List.set_cons_zero, List.set_cons_succ]
  refine wpAnyH_take (i := 1) (v := .agg (List.toArray [.int .i64 o, .int .i64 x, .int .i64 y, .int .u64 (u : Int), .int .i64 hk, .int .i64 hn, .int .i64 jk, .int .i64 jn, .bool n1, .bool n2, .slice ta ts.length tc, .slice la ls.length lc, .int .i64 bk, .int .i64 vk, .bool vn, .int .i64 wk, .int .i64 wn, .int .i64 bn, .slice ca cs.length cc])) rfl (by kernel_rfl) (by kernel_rfl) (by kernel_rfl) (fun _ _ _ h => h) (yieldsIf_load_mid rfl 81 _ rfl w.heap.size 0 rfl [.int .i64 o, .int .i64 x, .int .i64 y, .int .u64 (u : Int), .int .i64 hk, .int .i64 hn, .int .i64 jk, .int .i64 jn, .bool n1, .bool n2, .slice ta ts.length tc, .slice la ls.length lc, .int .i64 bk, .int .i64 vk, .bool vn, .int .i64 wk, .int .i64 wn, .int .i64 bn, .slice ca cs.length cc] _ (fun _ h => h) und_ins rfl size_ins) hr ?_
  simp only [Act.put, List.setIfInBounds_toArray, List.set_cons_zero, List.set_cons_succ]
  refine wpAnyH_take (i := 5) (v := .pointer (some ⟨w.heap.size, 1, none⟩)) rfl (by kernel_rfl) (by kernel_rfl) (by kernel_rfl) (fun _ _ _ h => h) (Or.inl ⟨by rfl, fun _ _ => by go_simp⟩) hr ?_
  simp only [Act.put, List.setIfInBounds_toArray, List.set_cons_zero, List.set_cons_succ]
  refine wpAnyH_take (i := 6) (v := .int .i64 x) rfl (by kernel_rfl) (by kernel_rfl) (by kernel_rfl) (fun _ _ _ h => h) (Or.inl ⟨by rfl, fun w' hw' => by
    have hc : w'.cell? ⟨w.heap.size, 1, none⟩ = some (.int .i64 x) := hw' 1 _ rfl
    go_simp⟩) hr ?_
  simp only [Act.put, List.setIfInBounds_toArray, List.set_cons_zero, List.set_cons_succ]
  refine wpAnyH_ready (rs := [2]) (by kernel_rfl) (by simp) ?_
  refine AllReadyH.cons rfl (fun K hK => ?_) AllReadyH.nil
  rw [if_pos (by rfl)]
  go_simp
  refine (nulls_any _ (⟨o, x, y, u, ⟨hk, hn⟩, ⟨jk, jn⟩, n1, n2, ts, ls, ⟨bk, ⟨vk, vn, ⟨wk, wn⟩⟩, bn⟩, cs⟩ : InstrT) (.slice ta ts.length tc) (.slice la ls.length lc) (.slice ca cs.length cc) rfl rfl rfl).mono ?_
  rintro e w4 ⟨rfl, hF4⟩
  have hS := hS.step0 hF4
  refine hK.out _ _ (by exact Loc.range (hS.loc (by ((try simp only [World.size_alloc, World.size_setCell, size_drew, size_drewN]); repeat (first | (exact Pick.here) | (with_reducible apply Pick.there)))))) (fun hr => ?_)
  clear hK K
  refine wpAnyH_ready (rs := [3]) (by kernel_rfl) (by simp) ?_
  refine AllReadyH.cons rfl (fun K hK => ?_) AllReadyH.nil
  rw [if_pos (by rfl)]
  go_simp
  have hS := hS.alloc [.int .u8 ((pNulls n1 n2).toNat : Nat)] 5
  refine hK.out _ _ (by exact Loc.range (hS.loc (by ((try simp only [World.size_alloc, World.size_setCell, size_drew, size_drewN]); repeat (first | (exact Pick.here) | (with_reducible apply Pick.there)))))) (fun hr => ?_)
  clear hK K
  refine wpAnyH_ready (rs := [4]) (by kernel_rfl) (by simp) ?_
  refine AllReadyH.cons rfl (fun K hK => ?_) AllReadyH.nil
  (refine step_st rfl rfl rfl rfl ?_; (repeat (apply Exists.intro)); refine ⟨?_, ?_, ?_, ?_, ?_⟩; (· (repeat (first | (with_reducible assumption) | (with_reducible apply St.alloc) | (with_reducible apply St.drew) | (with_reducible apply St.drewN) | (with_reducible apply St.alloc') | (with_reducible apply St.set) | (with_reducible exact Pick.here) | (with_reducible apply Pick.there)))); (· (try simp only [World.size_alloc, World.size_setCell, size_drew, size_drewN]); first | (apply Dst.own; ((try simp only [World.size_alloc, World.size_setCell, size_drew, size_drewN]); repeat (first | (exact Pick.here) | (with_reducible apply Pick.there))); done) | (apply Dst.lit; (· ((try simp only [World.size_alloc, World.size_setCell, size_drew, size_drewN]); repeat (first | (exact Pick.here) | (with_reducible apply Pick.there)))); (· omega)) | (apply Dst.nil; rfl)); (· (try simp only [World.size_alloc, World.size_setCell, size_drew, size_drewN]); first | (apply SrcOf.own; ((try simp only [World.size_alloc, World.size_setCell, size_drew, size_drewN]); repeat (first | (exact Pick.here) | (with_reducible apply Pick.there))); done) | (apply SrcOf.lit; (· ((try simp only [World.size_alloc, World.size_setCell, size_drew, size_drewN]); repeat (first | (exact Pick.here) | (with_reducible apply Pick.there)))); (· omega)) | (apply SrcOf.arg; assumption)); (· (first | (simp only [List.length_append, List.length_cons, List.length_nil, List.length_map]; done) | (simp only [List.length_append, List.length_cons, List.length_nil, List.length_map]; omega) | omega)); intro vN wN hS; (try clear hQ); have hQ := St.facts hS; simp only [Facts, Res.fact, List.cons_append, List.nil_append, true_and, and_true] at hQ)
  refine hK.out _ _ (by exact Loc.range (hS.loc (by ((try simp only [World.size_alloc, World.size_setCell, size_drew, size_drewN]); repeat (first | (exact Pick.here) | (with_reducible apply Pick.there)))))) (fun hr => ?_)
  clear hK K
  refine wpAnyH_ready (rs := [7]) (by kernel_rfl) (by simp) ?_
  refine AllReadyH.cons rfl (fun K hK => ?_) AllReadyH.nil
  rw [if_pos (by rfl)]
  go_simp
  refine st_num ?_; (repeat (apply Exists.intro)); refine ⟨?_, ?_, ?_, ?_, ?_⟩; (· (repeat (first | (with_reducible assumption) | (with_reducible apply St.alloc) | (with_reducible apply St.drew) | (with_reducible apply St.drewN) | (with_reducible apply St.alloc') | (with_reducible apply St.set) | (with_reducible exact Pick.here) | (with_reducible apply Pick.there)))); (· (try simp only [World.size_alloc, World.size_setCell, size_drew, size_drewN]); ((try simp only [World.size_alloc, World.size_setCell, size_drew, size_drewN]); repeat (first | (exact Pick.here) | (with_reducible apply Pick.there)))); (· omega); (· (first | (simp only [List.length_append, List.length_cons, List.length_nil, List.length_map]; done) | (simp only [List.length_append, List.length_cons, List.length_nil, List.length_map]; omega) | omega)); intro vN wN hS; (try clear hQ); have hQ := St.facts hS; simp only [Facts, Res.fact, List.cons_append, List.nil_append, true_and, and_true] at hQ
  refine hK.out _ _ (by exact Loc.range (hS.loc (by ((try simp only [World.size_alloc, World.size_setCell, size_drew, size_drewN]); repeat (first | (exact Pick.here) | (with_reducible apply Pick.there)))))) (fun hr => ?_)
  clear hK K
  refine wpAnyH_take (i := 8) (v := vN) rfl (by kernel_rfl) (by kernel_rfl) (by kernel_rfl) (fun _ _ _ h => h) (Or.inl ⟨by rfl, fun _ _ => by go_simp⟩) hr ?_
  refine wpAnyH_done (by kernel_rfl) ?_ _
  clear hr hbox
  simp only [Act.put, List.setIfInBounds_toArray, List.set_cons_zero, List.set_cons_succ]
  (try clear hQ); have hQ := St.facts hS; simp only [Facts, Res.fact, List.cons_append, List.nil_append, true_and, and_true] at hQ
  go_wp2_with first | (at_builtin; refine st_app rfl rfl rfl rfl ?_; (repeat (apply Exists.intro)); refine ⟨?_, ?_, ?_, ?_, ?_⟩; (· (repeat (first | (with_reducible assumption) | (with_reducible apply St.alloc) | (with_reducible apply St.drew) | (with_reducible apply St.drewN) | (with_reducible apply St.alloc') | (with_reducible apply St.set) | (with_reducible exact Pick.here) | (with_reducible apply Pick.there)))); (· (try simp only [World.size_alloc, World.size_setCell, size_drew, size_drewN]); first | (apply Dst.own; ((try simp only [World.size_alloc, World.size_setCell, size_drew, size_drewN]); repeat (first | (exact Pick.here) | (with_reducible apply Pick.there))); done) | (apply Dst.lit; (· ((try simp only [World.size_alloc, World.size_setCell, size_drew, size_drewN]); repeat (first | (exact Pick.here) | (with_reducible apply Pick.there)))); (· omega)) | (apply Dst.nil; rfl)); (· (try simp only [World.size_alloc, World.size_setCell, size_drew, size_drewN]); first | (apply SrcOf.own; ((try simp only [World.size_alloc, World.size_setCell, size_drew, size_drewN]); repeat (first | (exact Pick.here) | (with_reducible apply Pick.there))); done) | (apply SrcOf.lit; (· ((try simp only [World.size_alloc, World.size_setCell, size_drew, size_drewN]); repeat (first | (exact Pick.here) | (with_reducible apply Pick.there)))); (· omega)) | (apply SrcOf.arg; assumption)); (· (first | (simp only [List.length_append, List.length_cons, List.length_nil, List.length_map]; done) | (simp only [List.length_append, List.length_cons, List.length_nil, List.length_map]; omega) | omega)); intro vN wN hS; (try clear hQ); have hQ := St.facts hS; simp only [Facts, Res.fact, List.cons_append, List.nil_append, true_and, and_true] at hQ) | (go_at_call 33; (with_reducible refine (pPutHeap7 (⟨hk, hn⟩ : HeapT) ?_ ok1).mono ?_); (· apply St.gl (hs := hg.gl); (repeat (first | (with_reducible assumption) | (with_reducible apply St.alloc) | (with_reducible apply St.drew) | (with_reducible apply St.drewN) | (with_reducible apply St.alloc') | (with_reducible apply St.set) | (with_reducible exact Pick.here) | (with_reducible apply Pick.there)))); rintro e w4 ⟨v4, rfl, s4⟩; refine st_go s4 ?_; (repeat (apply Exists.intro)); refine ⟨?_, ?_⟩; (· (repeat (first | (with_reducible assumption) | (with_reducible apply St.alloc) | (with_reducible apply St.drew) | (with_reducible apply St.drewN) | (with_reducible apply St.alloc') | (with_reducible apply St.set) | (with_reducible exact Pick.here) | (with_reducible apply Pick.there)))); (try simp only [World.size_alloc, World.size_setCell, size_drew, size_drewN]); intro hS; simp only [List.cons_append, List.nil_append] at hS; (try clear hQ); have hQ := St.facts hS; simp only [Facts, Res.fact, List.cons_append, List.nil_append, true_and, and_true] at hQ) | (go_at_call 33; (with_reducible refine (pPutHeap7 (⟨jk, jn⟩ : HeapT) ?_ ok2).mono ?_); (· apply St.gl (hs := hg.gl); (repeat (first | (with_reducible assumption) | (with_reducible apply St.alloc) | (with_reducible apply St.drew) | (with_reducible apply St.drewN) | (with_reducible apply St.alloc') | (with_reducible apply St.set) | (with_reducible exact Pick.here) | (with_reducible apply Pick.there)))); rintro e w4 ⟨v4, rfl, s4⟩; refine st_go s4 ?_; (repeat (apply Exists.intro)); refine ⟨?_, ?_⟩; (· (repeat (first | (with_reducible assumption) | (with_reducible apply St.alloc) | (with_reducible apply St.drew) | (with_reducible apply St.drewN) | (with_reducible apply St.alloc') | (with_reducible apply St.set) | (with_reducible exact Pick.here) | (with_reducible apply Pick.there)))); (try simp only [World.size_alloc, World.size_setCell, size_drew, size_drewN]); intro hS; simp only [List.cons_append, List.nil_append] at hS; (try clear hQ); have hQ := St.facts hS; simp only [Facts, Res.fact, List.cons_append, List.nil_append, true_and, and_true] at hQ)
  go_ret
  refine ⟨vN, rfl, ?_⟩
  rw [E0.out]
  exact hS.sel (by ((try simp only [World.size_alloc, World.size_setCell, size_drew, size_drewN]); repeat (first | (exact Sel.all) | (exact Sel.nil) | (apply Sel.cons; (· ((try simp only [World.size_alloc, World.size_setCell, size_drew, size_drewN]); repeat (first | (exact Pick.here) | (with_reducible apply Pick.there))); done)) | (apply Sel.skip))))
set_option maxRecDepth 100000 in set_option maxHeartbeats 6400000 in
theorem rest11_st {w0 w : World} {G : List Res} {v : Value} {xs : List UInt8} (hS : St [] w0 w (.own 5 1 (v) (xs).length ((xs).map B) :: G)) (hg : Gl7 [] w0) (o x y : Int) (u : Nat) (hk hn jk jn : Int) (n1 n2 : Bool) (ts : List ValT) (ls : List Int) (bk vk : Int) (vn : Bool) (wk wn bn : Int) (cs : List CatchT) (tv lv cv : Value) (hR : InsR [] w0 (⟨o, x, y, u, ⟨hk, hn⟩, ⟨jk, jn⟩, n1, n2, ts, ls, ⟨bk, ⟨vk, vn, ⟨wk, wn⟩⟩, bn⟩, cs⟩ : InstrT) tv lv cv) (hx : xs.length ≤ 17592186044416) (hm : mayI (⟨o, x, y, u, ⟨hk, hn⟩, ⟨jk, jn⟩, n1, n2, ts, ls, ⟨bk, ⟨vk, vn, ⟨wk, wn⟩⟩, bn⟩, cs⟩ : InstrT) = true) (hl1 : ts.length ≤ 65536) (hl2 : ls.length ≤ 65536) (hl3 : cs.length ≤ 65536) (hu : u < 18446744073709551616) (hsh : shapeP o = 11) :
    Calls Tryd.prog 82 #[v, .agg (insC (⟨o, x, y, u, ⟨hk, hn⟩, ⟨jk, jn⟩, n1, n2, ts, ls, ⟨bk, ⟨vk, vn, ⟨wk, wn⟩⟩, bn⟩, cs⟩ : InstrT) tv lv cv).toArray] w fun e w' => ∃ v', e = .returned v' ∧ St [] w0 w' (.own 5 1 (v') (xs ++ pRest (⟨o, x, y, u, ⟨hk, hn⟩, ⟨jk, jn⟩, n1, n2, ts, ls, ⟨bk, ⟨vk, vn, ⟨wk, wn⟩⟩, bn⟩, cs⟩ : InstrT)).length ((xs ++ pRest (⟨o, x, y, u, ⟨hk, hn⟩, ⟨jk, jn⟩, n1, n2, ts, ls, ⟨bk, ⟨vk, vn, ⟨wk, wn⟩⟩, bn⟩, cs⟩ : InstrT)).map B) :: G) := by
  have hb := shape_ok (mayI_shape hm)
  have ho1 : -9223372036854775808 ≤ o := by have := hb.1; dsimp only at this; omega
  have ho2 : o < 9223372036854775808 := by have := hb.1; have := hb.2.1; dsimp only at this; omega
  obtain ⟨tS, lS, cS⟩ := hR
  obtain ⟨ta, tc, rfl⟩ := tS.shape
  obtain ⟨la, lc, rfl⟩ := lS.shape
  obtain ⟨ca, cc, rfl⟩ := cS.shape
  dsimp only at tS lS cS
  have e0 : xs ++ pRest (⟨o, x, y, u, ⟨hk, hn⟩, ⟨jk, jn⟩, n1, n2, ts, ls, ⟨bk, ⟨vk, vn, ⟨wk, wn⟩⟩, bn⟩, cs⟩ : InstrT) = xs ++ heapB ⟨hk, hn⟩ := by rw [rest11 (by exact hsh)]
  have E0 := Lib.hid e0
  clear e0
  generalize xs ++ pRest (⟨o, x, y, u, ⟨hk, hn⟩, ⟨jk, jn⟩, n1, n2, ts, ls, ⟨bk, ⟨vk, vn, ⟨wk, wn⟩⟩, bn⟩, cs⟩ : InstrT) = Y at E0 ⊢
  have hp := may_inv hm (part11 (i := (⟨o, x, y, u, ⟨hk, hn⟩, ⟨jk, jn⟩, n1, n2, ts, ls, ⟨bk, ⟨vk, vn, ⟨wk, wn⟩⟩, bn⟩, cs⟩ : InstrT)) hsh)
  have hp1 : plainVal ⟨3, false, ⟨hk, hn⟩⟩ = true := hp.1
  have hok := plainVal_ok hp1
  have lX : (heapB ⟨hk, hn⟩).length ≤ 12 := by rw [heapB_yes hp1]; exact pHeap_len _ hok.2.1 hok.2.2
  have HK := Lib.hid hsh
  clear hsh hp hp1
  clear hb hm
  unfold insC
  dsimp only
  go_enter Tryd.func82, Tryd.ntmps82
  go_wp2_with first | (go_at_call 89; (with_reducible refine (shape_any ?_ _ ?_ ?_).mono ?_); (· apply St.gl7 (hg := hg); (repeat (first | (with_reducible assumption) | (with_reducible apply St.alloc) | (with_reducible apply St.drew) | (with_reducible apply St.drewN) | (with_reducible apply St.alloc') | (with_reducible apply St.set) | (with_reducible exact Pick.here) | (with_reducible apply Pick.there)))); (· omega); (· omega); rintro e w2 ⟨rfl, hF2⟩; refine st_fr hF2 ?_; (repeat (apply Exists.intro)); refine ⟨?_, ?_⟩; (· (repeat (first | (with_reducible assumption) | (with_reducible apply St.alloc) | (with_reducible apply St.drew) | (with_reducible apply St.drewN) | (with_reducible apply St.alloc') | (with_reducible apply St.set) | (with_reducible exact Pick.here) | (with_reducible apply Pick.there)))); (try simp only [World.size_alloc, World.size_setCell, size_drew, size_drewN]); intro hS; (try clear hQ); have hQ := St.facts hS; simp only [Facts, Res.fact, List.cons_append, List.nil_append, true_and, and_true] at hQ; (try rw [HK.out])) | (at_builtin; refine st_app rfl rfl rfl rfl ?_; (repeat (apply Exists.intro)); refine ⟨?_, ?_, ?_, ?_, ?_⟩; (· (repeat (first | (with_reducible assumption) | (with_reducible apply St.alloc) | (with_reducible apply St.drew) | (with_reducible apply St.drewN) | (with_reducible apply St.alloc') | (with_reducible apply St.set) | (with_reducible exact Pick.here) | (with_reducible apply Pick.there)))); (· (try simp only [World.size_alloc, World.size_setCell, size_drew, size_drewN]); first | (apply Dst.own; ((try simp only [World.size_alloc, World.size_setCell, size_drew, size_drewN]); repeat (first | (exact Pick.here) | (with_reducible apply Pick.there))); done) | (apply Dst.lit; (· ((try simp only [World.size_alloc, World.size_setCell, size_drew, size_drewN]); repeat (first | (exact Pick.here) | (with_reducible apply Pick.there)))); (· omega)) | (apply Dst.nil; rfl)); (· (try simp only [World.size_alloc, World.size_setCell, size_drew, size_drewN]); first | (apply SrcOf.own; ((try simp only [World.size_alloc, World.size_setCell, size_drew, size_drewN]); repeat (first | (exact Pick.here) | (with_reducible apply Pick.there))); done) | (apply SrcOf.lit; (· ((try simp only [World.size_alloc, World.size_setCell, size_drew, size_drewN]); repeat (first | (exact Pick.here) | (with_reducible apply Pick.there)))); (· omega)) | (apply SrcOf.arg; assumption)); (· (first | (simp only [List.length_append, List.length_cons, List.length_nil, List.length_map]; done) | (simp only [List.length_append, List.length_cons, List.length_nil, List.length_map]; omega) | omega)); intro vN wN hS; (try clear hQ); have hQ := St.facts hS; simp only [Facts, Res.fact, List.cons_append, List.nil_append, true_and, and_true] at hQ) | (go_at_call 33; (with_reducible refine (pPutHeap7 (⟨hk, hn⟩ : HeapT) ?_ hok).mono ?_); (· apply St.gl (hs := hg.gl); (repeat (first | (with_reducible assumption) | (with_reducible apply St.alloc) | (with_reducible apply St.drew) | (with_reducible apply St.drewN) | (with_reducible apply St.alloc') | (with_reducible apply St.set) | (with_reducible exact Pick.here) | (with_reducible apply Pick.there)))); rintro e w4 ⟨v4, rfl, s4⟩; refine st_go s4 ?_; (repeat (apply Exists.intro)); refine ⟨?_, ?_⟩; (· (repeat (first | (with_reducible assumption) | (with_reducible apply St.alloc) | (with_reducible apply St.drew) | (with_reducible apply St.drewN) | (with_reducible apply St.alloc') | (with_reducible apply St.set) | (with_reducible exact Pick.here) | (with_reducible apply Pick.there)))); (try simp only [World.size_alloc, World.size_setCell, size_drew, size_drewN]); intro hS; simp only [List.cons_append, List.nil_append] at hS; (try clear hQ); have hQ := St.facts hS; simp only [Facts, Res.fact, List.cons_append, List.nil_append, true_and, and_true] at hQ)
  go_ret
  refine ⟨vN, rfl, ?_⟩
  rw [E0.out]
  exact hS.sel (by ((try simp only [World.size_alloc, World.size_setCell, size_drew, size_drewN]); repeat (first | (exact Sel.all) | (exact Sel.nil) | (apply Sel.cons; (· ((try simp only [World.size_alloc, World.size_setCell, size_drew, size_drewN]); repeat (first | (exact Pick.here) | (with_reducible apply Pick.there))); done)) | (apply Sel.skip))))
set_option maxRecDepth 100000 in set_option maxHeartbeats 6400000 in
theorem rest12_st {w0 w : World} {G : List Res} {v : Value} {xs : List UInt8} (hS : St [] w0 w (.own 5 1 (v) (xs).length ((xs).map B) :: G)) (hg : Gl7 [] w0) (o x y : Int) (u : Nat) (hk hn jk jn : Int) (n1 n2 : Bool) (ts : List ValT) (ls : List Int) (bk vk : Int) (vn : Bool) (wk wn bn : Int) (cs : List CatchT) (tv lv cv : Value) (hR : InsR [] w0 (⟨o, x, y, u, ⟨hk, hn⟩, ⟨jk, jn⟩, n1, n2, ts, ls, ⟨bk, ⟨vk, vn, ⟨wk, wn⟩⟩, bn⟩, cs⟩ : InstrT) tv lv cv) (hx : xs.length ≤ 17592186044416) (hm : mayI (⟨o, x, y, u, ⟨hk, hn⟩, ⟨jk, jn⟩, n1, n2, ts, ls, ⟨bk, ⟨vk, vn, ⟨wk, wn⟩⟩, bn⟩, cs⟩ : InstrT) = true) (hl1 : ts.length ≤ 65536) (hl2 : ls.length ≤ 65536) (hl3 : cs.length ≤ 65536) (hu : u < 18446744073709551616) (hsh : shapeP o = 12) :
    Calls Tryd.prog 82 #[v, .agg (insC (⟨o, x, y, u, ⟨hk, hn⟩, ⟨jk, jn⟩, n1, n2, ts, ls, ⟨bk, ⟨vk, vn, ⟨wk, wn⟩⟩, bn⟩, cs⟩ : InstrT) tv lv cv).toArray] w fun e w' => ∃ v', e = .returned v' ∧ St [] w0 w' (.own 5 1 (v') (xs ++ pRest (⟨o, x, y, u, ⟨hk, hn⟩, ⟨jk, jn⟩, n1, n2, ts, ls, ⟨bk, ⟨vk, vn, ⟨wk, wn⟩⟩, bn⟩, cs⟩ : InstrT)).length ((xs ++ pRest (⟨o, x, y, u, ⟨hk, hn⟩, ⟨jk, jn⟩, n1, n2, ts, ls, ⟨bk, ⟨vk, vn, ⟨wk, wn⟩⟩, bn⟩, cs⟩ : InstrT)).map B) :: G) := by
  have hb := shape_ok (mayI_shape hm)
  have ho1 : -9223372036854775808 ≤ o := by have := hb.1; dsimp only at this; omega
  have ho2 : o < 9223372036854775808 := by have := hb.1; have := hb.2.1; dsimp only at this; omega
  obtain ⟨tS, lS, cS⟩ := hR
  obtain ⟨ta, tc, rfl⟩ := tS.shape
  obtain ⟨la, lc, rfl⟩ := lS.shape
  obtain ⟨ca, cc, rfl⟩ := cS.shape
  dsimp only at tS lS cS
  have e0 : xs ++ pRest (⟨o, x, y, u, ⟨hk, hn⟩, ⟨jk, jn⟩, n1, n2, ts, ls, ⟨bk, ⟨vk, vn, ⟨wk, wn⟩⟩, bn⟩, cs⟩ : InstrT) = xs ++ valsB ts := by rw [rest12 (by exact hsh)]
  have E0 := Lib.hid e0
  clear e0
  generalize xs ++ pRest (⟨o, x, y, u, ⟨hk, hn⟩, ⟨jk, jn⟩, n1, n2, ts, ls, ⟨bk, ⟨vk, vn, ⟨wk, wn⟩⟩, bn⟩, cs⟩ : InstrT) = Y at E0 ⊢
  have hp := may_inv hm (part12 (i := (⟨o, x, y, u, ⟨hk, hn⟩, ⟨jk, jn⟩, n1, n2, ts, ls, ⟨bk, ⟨vk, vn, ⟨wk, wn⟩⟩, bn⟩, cs⟩ : InstrT)) hsh)
  have hp1 : ts.all plainVal = true := hp.1
  have Hok : Hid (∀ t, t ∈ ts → t.heap.ok) := Lib.hid fun t ht => plainVal_ok (List.all_eq_true.1 hp1 t ht)
  have hln : ts.length ≤ 1048576 := by omega
  have lX := valsB_len ts Hok.out hl1
  have HK := Lib.hid hsh
  clear hsh hp hp1
  clear hb hm
  unfold insC
  dsimp only
  go_enter Tryd.func82, Tryd.ntmps82
  go_wp2_with first | (go_at_call 89; (with_reducible refine (shape_any ?_ _ ?_ ?_).mono ?_); (· apply St.gl7 (hg := hg); (repeat (first | (with_reducible assumption) | (with_reducible apply St.alloc) | (with_reducible apply St.drew) | (with_reducible apply St.drewN) | (with_reducible apply St.alloc') | (with_reducible apply St.set) | (with_reducible exact Pick.here) | (with_reducible apply Pick.there)))); (· omega); (· omega); rintro e w2 ⟨rfl, hF2⟩; refine st_fr hF2 ?_; (repeat (apply Exists.intro)); refine ⟨?_, ?_⟩; (· (repeat (first | (with_reducible assumption) | (with_reducible apply St.alloc) | (with_reducible apply St.drew) | (with_reducible apply St.drewN) | (with_reducible apply St.alloc') | (with_reducible apply St.set) | (with_reducible exact Pick.here) | (with_reducible apply Pick.there)))); (try simp only [World.size_alloc, World.size_setCell, size_drew, size_drewN]); intro hS; (try clear hQ); have hQ := St.facts hS; simp only [Facts, Res.fact, List.cons_append, List.nil_append, true_and, and_true] at hQ; (try rw [HK.out])) | (at_builtin; refine st_app rfl rfl rfl rfl ?_; (repeat (apply Exists.intro)); refine ⟨?_, ?_, ?_, ?_, ?_⟩; (· (repeat (first | (with_reducible assumption) | (with_reducible apply St.alloc) | (with_reducible apply St.drew) | (with_reducible apply St.drewN) | (with_reducible apply St.alloc') | (with_reducible apply St.set) | (with_reducible exact Pick.here) | (with_reducible apply Pick.there)))); (· (try simp only [World.size_alloc, World.size_setCell, size_drew, size_drewN]); first | (apply Dst.own; ((try simp only [World.size_alloc, World.size_setCell, size_drew, size_drewN]); repeat (first | (exact Pick.here) | (with_reducible apply Pick.there))); done) | (apply Dst.lit; (· ((try simp only [World.size_alloc, World.size_setCell, size_drew, size_drewN]); repeat (first | (exact Pick.here) | (with_reducible apply Pick.there)))); (· omega)) | (apply Dst.nil; rfl)); (· (try simp only [World.size_alloc, World.size_setCell, size_drew, size_drewN]); first | (apply SrcOf.own; ((try simp only [World.size_alloc, World.size_setCell, size_drew, size_drewN]); repeat (first | (exact Pick.here) | (with_reducible apply Pick.there))); done) | (apply SrcOf.lit; (· ((try simp only [World.size_alloc, World.size_setCell, size_drew, size_drewN]); repeat (first | (exact Pick.here) | (with_reducible apply Pick.there)))); (· omega)) | (apply SrcOf.arg; assumption)); (· (first | (simp only [List.length_append, List.length_cons, List.length_nil, List.length_map]; done) | (simp only [List.length_append, List.length_cons, List.length_nil, List.length_map]; omega) | omega)); intro vN wN hS; (try clear hQ); have hQ := St.facts hS; simp only [Facts, Res.fact, List.cons_append, List.nil_append, true_and, and_true] at hQ) | (go_at_call 35; (with_reducible refine (PutVals_any ?_ _ ts ?_ Hok.out hln).mono ?_); (· apply St.gl (hs := hg.gl); (repeat (first | (with_reducible assumption) | (with_reducible apply St.alloc) | (with_reducible apply St.drew) | (with_reducible apply St.drewN) | (with_reducible apply St.alloc') | (with_reducible apply St.set) | (with_reducible exact Pick.here) | (with_reducible apply Pick.there)))); (· (apply St.sl (hs := tS); (repeat (first | (with_reducible assumption) | (with_reducible apply St.alloc) | (with_reducible apply St.drew) | (with_reducible apply St.drewN) | (with_reducible apply St.alloc') | (with_reducible apply St.set) | (with_reducible exact Pick.here) | (with_reducible apply Pick.there))))); rintro e w4 ⟨v4, rfl, s4⟩; refine st_go s4 ?_; (repeat (apply Exists.intro)); refine ⟨?_, ?_⟩; (· (repeat (first | (with_reducible assumption) | (with_reducible apply St.alloc) | (with_reducible apply St.drew) | (with_reducible apply St.drewN) | (with_reducible apply St.alloc') | (with_reducible apply St.set) | (with_reducible exact Pick.here) | (with_reducible apply Pick.there)))); (try simp only [World.size_alloc, World.size_setCell, size_drew, size_drewN]); intro hS; simp only [List.cons_append, List.nil_append] at hS; (try clear hQ); have hQ := St.facts hS; simp only [Facts, Res.fact, List.cons_append, List.nil_append, true_and, and_true] at hQ)
  go_ret
  refine ⟨vN, rfl, ?_⟩
  rw [E0.out]
  exact hS.sel (by ((try simp only [World.size_alloc, World.size_setCell, size_drew, size_drewN]); repeat (first | (exact Sel.all) | (exact Sel.nil) | (apply Sel.cons; (· ((try simp only [World.size_alloc, World.size_setCell, size_drew, size_drewN]); repeat (first | (exact Pick.here) | (with_reducible apply Pick.there))); done)) | (apply Sel.skip))))
set_option maxRecDepth 100000 in set_option maxHeartbeats 6400000 in
theorem rest2_st {w0 w : World} {G : List Res} {v : Value} {xs : List UInt8} (hS : St [] w0 w (.own 5 1 (v) (xs).length ((xs).map B) :: G)) (hg : Gl7 [] w0) (o x y : Int) (u : Nat) (hk hn jk jn : Int) (n1 n2 : Bool) (ts : List ValT) (ls : List Int) (bk vk : Int) (vn : Bool) (wk wn bn : Int) (cs : List CatchT) (tv lv cv : Value) (hR : InsR [] w0 (⟨o, x, y, u, ⟨hk, hn⟩, ⟨jk, jn⟩, n1, n2, ts, ls, ⟨bk, ⟨vk, vn, ⟨wk, wn⟩⟩, bn⟩, cs⟩ : InstrT) tv lv cv) (hx : xs.length ≤ 17592186044416) (hm : mayI (⟨o, x, y, u, ⟨hk, hn⟩, ⟨jk, jn⟩, n1, n2, ts, ls, ⟨bk, ⟨vk, vn, ⟨wk, wn⟩⟩, bn⟩, cs⟩ : InstrT) = true) (hl1 : ts.length ≤ 65536) (hl2 : ls.length ≤ 65536) (hl3 : cs.length ≤ 65536) (hu : u < 18446744073709551616) (hsh : shapeP o = 2) :
    Calls Tryd.prog 82 #[v, .agg (insC (⟨o, x, y, u, ⟨hk, hn⟩, ⟨jk, jn⟩, n1, n2, ts, ls, ⟨bk, ⟨vk, vn, ⟨wk, wn⟩⟩, bn⟩, cs⟩ : InstrT) tv lv cv).toArray] w fun e w' => ∃ v', e = .returned v' ∧ St [] w0 w' (.own 5 1 (v') (xs ++ pRest (⟨o, x, y, u, ⟨hk, hn⟩, ⟨jk, jn⟩, n1, n2, ts, ls, ⟨bk, ⟨vk, vn, ⟨wk, wn⟩⟩, bn⟩, cs⟩ : InstrT)).length ((xs ++ pRest (⟨o, x, y, u, ⟨hk, hn⟩, ⟨jk, jn⟩, n1, n2, ts, ls, ⟨bk, ⟨vk, vn, ⟨wk, wn⟩⟩, bn⟩, cs⟩ : InstrT)).map B) :: G) := by
  have hb := shape_ok (mayI_shape hm)
  have ho1 : -9223372036854775808 ≤ o := by have := hb.1; dsimp only at this; omega
  have ho2 : o < 9223372036854775808 := by have := hb.1; have := hb.2.1; dsimp only at this; omega
  obtain ⟨tS, lS, cS⟩ := hR
  obtain ⟨ta, tc, rfl⟩ := tS.shape
  obtain ⟨la, lc, rfl⟩ := lS.shape
  obtain ⟨ca, cc, rfl⟩ := cS.shape
  dsimp only at tS lS cS
  have e0 : xs ++ pRest (⟨o, x, y, u, ⟨hk, hn⟩, ⟨jk, jn⟩, n1, n2, ts, ls, ⟨bk, ⟨vk, vn, ⟨wk, wn⟩⟩, bn⟩, cs⟩ : InstrT) = xs ++ pBlock ⟨bk, ⟨vk, vn, ⟨wk, wn⟩⟩, bn⟩ := by rw [rest2 (by exact hsh)]
  have E0 := Lib.hid e0
  clear e0
  generalize xs ++ pRest (⟨o, x, y, u, ⟨hk, hn⟩, ⟨jk, jn⟩, n1, n2, ts, ls, ⟨bk, ⟨vk, vn, ⟨wk, wn⟩⟩, bn⟩, cs⟩ : InstrT) = Y at E0 ⊢
  have hp := may_inv hm (part2 (i := (⟨o, x, y, u, ⟨hk, hn⟩, ⟨jk, jn⟩, n1, n2, ts, ls, ⟨bk, ⟨vk, vn, ⟨wk, wn⟩⟩, bn⟩, cs⟩ : InstrT)) hsh)
  have Hbk : Hid (mayBlock ⟨bk, ⟨vk, vn, ⟨wk, wn⟩⟩, bn⟩ = true) := Lib.hid hp.1
  have lX := pBlock_len Hbk.out
  have HK := Lib.hid hsh
  clear hsh hp
  clear hb hm
  unfold insC
  dsimp only
  go_enter Tryd.func82, Tryd.ntmps82
  go_wp2_with first | (go_at_call 89; (with_reducible refine (shape_any ?_ _ ?_ ?_).mono ?_); (· apply St.gl7 (hg := hg); (repeat (first | (with_reducible assumption) | (with_reducible apply St.alloc) | (with_reducible apply St.drew) | (with_reducible apply St.drewN) | (with_reducible apply St.alloc') | (with_reducible apply St.set) | (with_reducible exact Pick.here) | (with_reducible apply Pick.there)))); (· omega); (· omega); rintro e w2 ⟨rfl, hF2⟩; refine st_fr hF2 ?_; (repeat (apply Exists.intro)); refine ⟨?_, ?_⟩; (· (repeat (first | (with_reducible assumption) | (with_reducible apply St.alloc) | (with_reducible apply St.drew) | (with_reducible apply St.drewN) | (with_reducible apply St.alloc') | (with_reducible apply St.set) | (with_reducible exact Pick.here) | (with_reducible apply Pick.there)))); (try simp only [World.size_alloc, World.size_setCell, size_drew, size_drewN]); intro hS; (try clear hQ); have hQ := St.facts hS; simp only [Facts, Res.fact, List.cons_append, List.nil_append, true_and, and_true] at hQ; (try rw [HK.out])) | (at_builtin; refine st_app rfl rfl rfl rfl ?_; (repeat (apply Exists.intro)); refine ⟨?_, ?_, ?_, ?_, ?_⟩; (· (repeat (first | (with_reducible assumption) | (with_reducible apply St.alloc) | (with_reducible apply St.drew) | (with_reducible apply St.drewN) | (with_reducible apply St.alloc') | (with_reducible apply St.set) | (with_reducible exact Pick.here) | (with_reducible apply Pick.there)))); (· (try simp only [World.size_alloc, World.size_setCell, size_drew, size_drewN]); first | (apply Dst.own; ((try simp only [World.size_alloc, World.size_setCell, size_drew, size_drewN]); repeat (first | (exact Pick.here) | (with_reducible apply Pick.there))); done) | (apply Dst.lit; (· ((try simp only [World.size_alloc, World.size_setCell, size_drew, size_drewN]); repeat (first | (exact Pick.here) | (with_reducible apply Pick.there)))); (· omega)) | (apply Dst.nil; rfl)); (· (try simp only [World.size_alloc, World.size_setCell, size_drew, size_drewN]); first | (apply SrcOf.own; ((try simp only [World.size_alloc, World.size_setCell, size_drew, size_drewN]); repeat (first | (exact Pick.here) | (with_reducible apply Pick.there))); done) | (apply SrcOf.lit; (· ((try simp only [World.size_alloc, World.size_setCell, size_drew, size_drewN]); repeat (first | (exact Pick.here) | (with_reducible apply Pick.there)))); (· omega)) | (apply SrcOf.arg; assumption)); (· (first | (simp only [List.length_append, List.length_cons, List.length_nil, List.length_map]; done) | (simp only [List.length_append, List.length_cons, List.length_nil, List.length_map]; omega) | omega)); intro vN wN hS; (try clear hQ); have hQ := St.facts hS; simp only [Facts, Res.fact, List.cons_append, List.nil_append, true_and, and_true] at hQ) | (go_at_call 122; (with_reducible refine (putBlock_st ?_ ⟨bk, ⟨vk, vn, ⟨wk, wn⟩⟩, bn⟩ Hbk.out).mono ?_); (· apply St.gl (hs := hg.gl); (repeat (first | (with_reducible assumption) | (with_reducible apply St.alloc) | (with_reducible apply St.drew) | (with_reducible apply St.drewN) | (with_reducible apply St.alloc') | (with_reducible apply St.set) | (with_reducible exact Pick.here) | (with_reducible apply Pick.there)))); rintro e w4 ⟨v4, rfl, s4⟩; refine st_go s4 ?_; (repeat (apply Exists.intro)); refine ⟨?_, ?_⟩; (· (repeat (first | (with_reducible assumption) | (with_reducible apply St.alloc) | (with_reducible apply St.drew) | (with_reducible apply St.drewN) | (with_reducible apply St.alloc') | (with_reducible apply St.set) | (with_reducible exact Pick.here) | (with_reducible apply Pick.there)))); (try simp only [World.size_alloc, World.size_setCell, size_drew, size_drewN]); intro hS; simp only [List.cons_append, List.nil_append] at hS; (try clear hQ); have hQ := St.facts hS; simp only [Facts, Res.fact, List.cons_append, List.nil_append, true_and, and_true] at hQ)
  go_ret
  refine ⟨vN, rfl, ?_⟩
  rw [E0.out]
  exact hS.sel (by ((try simp only [World.size_alloc, World.size_setCell, size_drew, size_drewN]); repeat (first | (exact Sel.all) | (exact Sel.nil) | (apply Sel.cons; (· ((try simp only [World.size_alloc, World.size_setCell, size_drew, size_drewN]); repeat (first | (exact Pick.here) | (with_reducible apply Pick.there))); done)) | (apply Sel.skip))))
set_option maxRecDepth 100000 in set_option maxHeartbeats 6400000 in
theorem rest3_st {w0 w : World} {G : List Res} {v : Value} {xs : List UInt8} (hS : St [] w0 w (.own 5 1 (v) (xs).length ((xs).map B) :: G)) (hg : Gl7 [] w0) (o x y : Int) (u : Nat) (hk hn jk jn : Int) (n1 n2 : Bool) (ts : List ValT) (ls : List Int) (bk vk : Int) (vn : Bool) (wk wn bn : Int) (cs : List CatchT) (tv lv cv : Value) (hR : InsR [] w0 (⟨o, x, y, u, ⟨hk, hn⟩, ⟨jk, jn⟩, n1, n2, ts, ls, ⟨bk, ⟨vk, vn, ⟨wk, wn⟩⟩, bn⟩, cs⟩ : InstrT) tv lv cv) (hx : xs.length ≤ 17592186044416) (hm : mayI (⟨o, x, y, u, ⟨hk, hn⟩, ⟨jk, jn⟩, n1, n2, ts, ls, ⟨bk, ⟨vk, vn, ⟨wk, wn⟩⟩, bn⟩, cs⟩ : InstrT) = true) (hl1 : ts.length ≤ 65536) (hl2 : ls.length ≤ 65536) (hl3 : cs.length ≤ 65536) (hu : u < 18446744073709551616) (hsh : shapeP o = 3) :
    Calls Tryd.prog 82 #[v, .agg (insC (⟨o, x, y, u, ⟨hk, hn⟩, ⟨jk, jn⟩, n1, n2, ts, ls, ⟨bk, ⟨vk, vn, ⟨wk, wn⟩⟩, bn⟩, cs⟩ : InstrT) tv lv cv).toArray] w fun e w' => ∃ v', e = .returned v' ∧ St [] w0 w' (.own 5 1 (v') (xs ++ pRest (⟨o, x, y, u, ⟨hk, hn⟩, ⟨jk, jn⟩, n1, n2, ts, ls, ⟨bk, ⟨vk, vn, ⟨wk, wn⟩⟩, bn⟩, cs⟩ : InstrT)).length ((xs ++ pRest (⟨o, x, y, u, ⟨hk, hn⟩, ⟨jk, jn⟩, n1, n2, ts, ls, ⟨bk, ⟨vk, vn, ⟨wk, wn⟩⟩, bn⟩, cs⟩ : InstrT)).map B) :: G) := by
  have hb := shape_ok (mayI_shape hm)
  have ho1 : -9223372036854775808 ≤ o := by have := hb.1; dsimp only at this; omega
  have ho2 : o < 9223372036854775808 := by have := hb.1; have := hb.2.1; dsimp only at this; omega
  obtain ⟨tS, lS, cS⟩ := hR
  obtain ⟨ta, tc, rfl⟩ := tS.shape
  obtain ⟨la, lc, rfl⟩ := lS.shape
  obtain ⟨ca, cc, rfl⟩ := cS.shape
  dsimp only at tS lS cS
  have e0 : xs ++ pRest (⟨o, x, y, u, ⟨hk, hn⟩, ⟨jk, jn⟩, n1, n2, ts, ls, ⟨bk, ⟨vk, vn, ⟨wk, wn⟩⟩, bn⟩, cs⟩ : InstrT) = xs ++ pBlock ⟨bk, ⟨vk, vn, ⟨wk, wn⟩⟩, bn⟩ ++ pNum ((cs.length : Nat) : Int) ++ cs.flatMap pCatch := by rw [rest3 (by exact hsh)]; simp [pList, pNum]
  have E0 := Lib.hid e0
  clear e0
  generalize xs ++ pRest (⟨o, x, y, u, ⟨hk, hn⟩, ⟨jk, jn⟩, n1, n2, ts, ls, ⟨bk, ⟨vk, vn, ⟨wk, wn⟩⟩, bn⟩, cs⟩ : InstrT) = Y at E0 ⊢
  have hp := may_inv hm (part3 (i := (⟨o, x, y, u, ⟨hk, hn⟩, ⟨jk, jn⟩, n1, n2, ts, ls, ⟨bk, ⟨vk, vn, ⟨wk, wn⟩⟩, bn⟩, cs⟩ : InstrT)) hsh)
  have hp1 := hp.1
  simp only [Bool.and_eq_true] at hp1
  obtain ⟨hB, hL⟩ := hp1
  have hL : Hid (cs.all mayCatch = true) := Lib.hid hL
  have Hbk := Lib.hid hB
  have lX := pBlock_len Hbk.out
  have lN := pNum_len ((cs.length : Nat) : Int) (by omega)
  have HK := Lib.hid hsh
  clear hsh hp hB
  clear hb hm
  unfold insC
  dsimp only
  go_enter Tryd.func82, Tryd.ntmps82
  go_wp2_with first | (go_at_call 89; (with_reducible refine (shape_any ?_ _ ?_ ?_).mono ?_); (· apply St.gl7 (hg := hg); (repeat (first | (with_reducible assumption) | (with_reducible apply St.alloc) | (with_reducible apply St.drew) | (with_reducible apply St.drewN) | (with_reducible apply St.alloc') | (with_reducible apply St.set) | (with_reducible exact Pick.here) | (with_reducible apply Pick.there)))); (· omega); (· omega); rintro e w2 ⟨rfl, hF2⟩; refine st_fr hF2 ?_; (repeat (apply Exists.intro)); refine ⟨?_, ?_⟩; (· (repeat (first | (with_reducible assumption) | (with_reducible apply St.alloc) | (with_reducible apply St.drew) | (with_reducible apply St.drewN) | (with_reducible apply St.alloc') | (with_reducible apply St.set) | (with_reducible exact Pick.here) | (with_reducible apply Pick.there)))); (try simp only [World.size_alloc, World.size_setCell, size_drew, size_drewN]); intro hS; (try clear hQ); have hQ := St.facts hS; simp only [Facts, Res.fact, List.cons_append, List.nil_append, true_and, and_true] at hQ; (try rw [HK.out]))
  go_region_held3 (fun w' => w'.cell? ⟨w.heap.size, 12, none⟩ = some (.int .i64 bk) ∧ w'.cell? ⟨w.heap.size, 13, none⟩ = some (.int .i64 vk) ∧ w'.cell? ⟨w.heap.size, 14, none⟩ = some (.bool vn) ∧ w'.cell? ⟨w.heap.size, 15, none⟩ = some (.int .i64 wk) ∧ w'.cell? ⟨w.heap.size, 16, none⟩ = some (.int .i64 wn) ∧ w'.cell? ⟨w.heap.size, 17, none⟩ = some (.int .i64 bn) ∧ w'.cell? ⟨w.heap.size, 18, none⟩ = some (.slice ca cs.length cc))
    (first | (go_keep; done) | (simp [hQ]; done)) (first | (refine step_st rfl rfl rfl rfl ?_; (repeat (apply Exists.intro)); refine ⟨?_, ?_, ?_, ?_, ?_⟩; (· (repeat (first | (with_reducible assumption) | (with_reducible apply St.alloc) | (with_reducible apply St.drew) | (with_reducible apply St.drewN) | (with_reducible apply St.alloc') | (with_reducible apply St.set) | (with_reducible exact Pick.here) | (with_reducible apply Pick.there)))); (· (try simp only [World.size_alloc, World.size_setCell, size_drew, size_drewN]); first | (apply Dst.own; ((try simp only [World.size_alloc, World.size_setCell, size_drew, size_drewN]); repeat (first | (exact Pick.here) | (with_reducible apply Pick.there))); done) | (apply Dst.lit; (· ((try simp only [World.size_alloc, World.size_setCell, size_drew, size_drewN]); repeat (first | (exact Pick.here) | (with_reducible apply Pick.there)))); (· omega)) | (apply Dst.nil; rfl)); (· (try simp only [World.size_alloc, World.size_setCell, size_drew, size_drewN]); first | (apply SrcOf.own; ((try simp only [World.size_alloc, World.size_setCell, size_drew, size_drewN]); repeat (first | (exact Pick.here) | (with_reducible apply Pick.there))); done) | (apply SrcOf.lit; (· ((try simp only [World.size_alloc, World.size_setCell, size_drew, size_drewN]); repeat (first | (exact Pick.here) | (with_reducible apply Pick.there)))); (· omega)) | (apply SrcOf.arg; assumption)); (· (first | (simp only [List.length_append, List.length_cons, List.length_nil, List.length_map]; done) | (simp only [List.length_append, List.length_cons, List.length_nil, List.length_map]; omega) | omega)); intro vN wN hS; (try clear hQ); have hQ := St.facts hS; simp only [Facts, Res.fact, List.cons_append, List.nil_append, true_and, and_true] at hQ) | (go_at_call 120; (try rw [hwk]); refine st_num ?_; (repeat (apply Exists.intro)); refine ⟨?_, ?_, ?_, ?_, ?_⟩; (· (repeat (first | (with_reducible assumption) | (with_reducible apply St.alloc) | (with_reducible apply St.drew) | (with_reducible apply St.drewN) | (with_reducible apply St.alloc') | (with_reducible apply St.set) | (with_reducible exact Pick.here) | (with_reducible apply Pick.there)))); (· (try simp only [World.size_alloc, World.size_setCell, size_drew, size_drewN]); ((try simp only [World.size_alloc, World.size_setCell, size_drew, size_drewN]); repeat (first | (exact Pick.here) | (with_reducible apply Pick.there)))); (· omega); (· (first | (simp only [List.length_append, List.length_cons, List.length_nil, List.length_map]; done) | (simp only [List.length_append, List.length_cons, List.length_nil, List.length_map]; omega) | omega)); intro vN wN hS; (try clear hQ); have hQ := St.facts hS; simp only [Facts, Res.fact, List.cons_append, List.nil_append, true_and, and_true] at hQ) | (go_at_call 122; (with_reducible refine (putBlock_st ?_ ⟨bk, ⟨vk, vn, ⟨wk, wn⟩⟩, bn⟩ Hbk.out).mono ?_); (· apply St.gl (hs := hg.gl); (repeat (first | (with_reducible assumption) | (with_reducible apply St.alloc) | (with_reducible apply St.drew) | (with_reducible apply St.drewN) | (with_reducible apply St.alloc') | (with_reducible apply St.set) | (with_reducible exact Pick.here) | (with_reducible apply Pick.there)))); rintro e w4 ⟨v4, rfl, s4⟩; refine st_go s4 ?_; (repeat (apply Exists.intro)); refine ⟨?_, ?_⟩; (· (repeat (first | (with_reducible assumption) | (with_reducible apply St.alloc) | (with_reducible apply St.drew) | (with_reducible apply St.drewN) | (with_reducible apply St.alloc') | (with_reducible apply St.set) | (with_reducible exact Pick.here) | (with_reducible apply Pick.there)))); (try simp only [World.size_alloc, World.size_setCell, size_drew, size_drewN]); intro hS; simp only [List.cons_append, List.nil_append] at hS; (try clear hQ); have hQ := St.facts hS; simp only [Facts, Res.fact, List.cons_append, List.nil_append, true_and, and_true] at hQ))
  go_wp2
  go_loopw [0, 139] (fun v n wr => ∃ (k : Nat), n = .int .i64 k ∧ k ≤ cs.length ∧ St [] w0 wr (.own 5 1 (v) (xs ++ pBlock ⟨bk, ⟨vk, vn, ⟨wk, wn⟩⟩, bn⟩ ++ pNum ((cs.length : Nat) : Int) ++ (cs.take k).flatMap pCatch).length ((xs ++ pBlock ⟨bk, ⟨vk, vn, ⟨wk, wn⟩⟩, bn⟩ ++ pNum ((cs.length : Nat) : Int) ++ (cs.take k).flatMap pCatch).map B) :: .loc w.heap.size [.int .i64 o, .int .i64 x, .int .i64 y, .int .u64 (u : Int), .int .i64 hk, .int .i64 hn, .int .i64 jk, .int .i64 jn, .bool n1, .bool n2, .slice ta ts.length tc, .slice la ls.length lc, .int .i64 bk, .int .i64 vk, .bool vn, .int .i64 wk, .int .i64 wn, .int .i64 bn, .slice ca cs.length cc] 81 :: G)) (fun _ n _ => cs.length - (intOf n).toNat)
  case atStart =>
    refine ⟨0, rfl, by omega, ?_⟩
    rw [show xs ++ pBlock ⟨bk, ⟨vk, vn, ⟨wk, wn⟩⟩, bn⟩ ++ pNum ((cs.length : Nat) : Int) ++ (cs.take 0).flatMap pCatch = xs ++ pBlock ⟨bk, ⟨vk, vn, ⟨wk, wn⟩⟩, bn⟩ ++ pNum ((cs.length : Nat) : Int) from by simp]
    exact hS.sel (by ((try simp only [World.size_alloc, World.size_setCell, size_drew, size_drewN]); repeat (first | (exact Sel.all) | (exact Sel.nil) | (apply Sel.cons; (· ((try simp only [World.size_alloc, World.size_setCell, size_drew, size_drewN]); repeat (first | (exact Pick.here) | (with_reducible apply Pick.there))); done)) | (apply Sel.skip))))
  case round =>
    obtain ⟨k, rfl, hk2, hS⟩ := hrel
    (try clear hQ); have hQ := St.facts hS; simp only [Facts, Res.fact, List.cons_append, List.nil_append, true_and, and_true] at hQ
    have lK : ((cs.take k).flatMap pCatch).length ≤ (cs.take k).length * 21 := flat_len7 _ fun n hn => pCatch_len (List.all_eq_true.1 hL.out n (List.mem_of_mem_take hn))
    rw [List.length_take] at lK
    by_cases hlt : k < cs.length
    · obtain ⟨m, hm⟩ : ∃ t, cs[k]? = some t := ⟨cs[k], by simp [hlt]⟩
      obtain ⟨b, off, cap2, hv, hb, hnS, hc⟩ := Sl.elem cS (fun _ => rfl) k m hm
      injection hv with hv1 hv2 hv3
      subst hv1 hv3
      have hbw : b < wr.heap.size := Nat.lt_of_lt_of_le hb hS.fr.size
      have f0 := (hS.fr.cell hb (by simp) _).trans (hc 0 (by decide))
      have f1 := (hS.fr.cell hb (by simp) _).trans (hc 1 (by decide))
      have f2 := (hS.fr.cell hb (by simp) _).trans (hc 2 (by decide))
      simp only [Nat.add_zero, ← Nat.add_assoc, catchC, List.getElem?_cons_zero, List.getElem?_cons_succ] at f0 f1 f2
      have Hm2 := Lib.hid (List.all_eq_true.1 hL.out m (List.mem_of_getElem? hm))
      have lM := pCatch_len Hm2.out
      have e : xs ++ pBlock ⟨bk, ⟨vk, vn, ⟨wk, wn⟩⟩, bn⟩ ++ pNum ((cs.length : Nat) : Int) ++ (cs.take (k + 1)).flatMap pCatch = xs ++ pBlock ⟨bk, ⟨vk, vn, ⟨wk, wn⟩⟩, bn⟩ ++ pNum ((cs.length : Nat) : Int) ++ (cs.take k).flatMap pCatch ++ pCatch m := by
        rw [List.take_add_one, hm]; simp
      have E := Lib.hid e
      clear e hm
      obtain ⟨mk, mt, ml⟩ := m
      dsimp only at f0 f1 f2
      go_wp2_with first | (go_at_call 123; refine st_catch (c := ⟨mk, mt, ml⟩) ?_; (repeat (apply Exists.intro)); refine ⟨?_, ?_, ?_, ?_, ?_⟩; (· (repeat (first | (with_reducible assumption) | (with_reducible apply St.alloc) | (with_reducible apply St.drew) | (with_reducible apply St.drewN) | (with_reducible apply St.alloc') | (with_reducible apply St.set) | (with_reducible exact Pick.here) | (with_reducible apply Pick.there)))); (· (try simp only [World.size_alloc, World.size_setCell, size_drew, size_drewN]); ((try simp only [World.size_alloc, World.size_setCell, size_drew, size_drewN]); repeat (first | (exact Pick.here) | (with_reducible apply Pick.there)))); (· exact Hm2.out); (· (first | (simp only [List.length_append, List.length_cons, List.length_nil, List.length_map]; done) | (simp only [List.length_append, List.length_cons, List.length_nil, List.length_map]; omega) | omega)); intro vN wN hS; (try clear hQ); have hQ := St.facts hS; simp only [Facts, Res.fact, List.cons_append, List.nil_append, true_and, and_true] at hQ)
      go_roundw
      case rel =>
        refine ⟨k + 1, by go_num, by omega, ?_⟩
        rw [E.out]
        exact hS.sel (by ((try simp only [World.size_alloc, World.size_setCell, size_drew, size_drewN]); repeat (first | (exact Sel.all) | (exact Sel.nil) | (apply Sel.cons; (· ((try simp only [World.size_alloc, World.size_setCell, size_drew, size_drewN]); repeat (first | (exact Pick.here) | (with_reducible apply Pick.there))); done)) | (apply Sel.skip))))
      case measure => simp [intOf]; omega
    · obtain rfl : k = cs.length := by omega
      rw [List.take_length] at hS lK
      go_wp2
      go_ret
      refine ⟨_, rfl, ?_⟩
      rw [E0.out]
      exact hS.sel (by ((try simp only [World.size_alloc, World.size_setCell, size_drew, size_drewN]); repeat (first | (exact Sel.all) | (exact Sel.nil) | (apply Sel.cons; (· ((try simp only [World.size_alloc, World.size_setCell, size_drew, size_drewN]); repeat (first | (exact Pick.here) | (with_reducible apply Pick.there))); done)) | (apply Sel.skip))))
end Go.Proofs.YtokneepfknepaaaDoor
