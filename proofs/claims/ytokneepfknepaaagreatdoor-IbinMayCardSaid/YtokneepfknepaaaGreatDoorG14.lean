/- The walk of layer 7: may an instruction stand? Made by tools/may.py. -/
import Derived.Test.YtokneepfknepaaaGreatDoorG9
set_option linter.unusedSimpArgs false
set_option linter.unusedVariables false
namespace Go.Proofs.YtokneepfknepaaaGreatDoor
open Go.RowKit
-- the shapes
set_option maxRecDepth 100000 in
set_option maxHeartbeats 12800000 in
theorem mayW13 {w : World} (hg : Gl7 [] w) (o x y : Int) (u : Nat) (hk hn jk jn : Int) (n1 n2 : Bool) (ts : List ValT) (ls : List Int) (bk vk : Int) (vn : Bool) (wk wn bn : Int) (cs : List CatchT) (tv lv cv : Value)
    (h : InsR [] w ({ op := o, x := x, y := y, u := u, heap := { kind := hk, n := hn }, heap2 := { kind := jk, n := jn }, null := n1, null2 := n2, types := ts, labels := ls, block := { kind := bk, val := { kind := vk, null := vn, heap := { kind := wk, n := wn } }, n := bn }, catches := cs } : InstrT) tv lv cv) (h1 : -9223372036854775808 ≤ o) (h2 : o < 9223372036854775808) (hts : ts.length ≤ 1099511627776) (hls : ls.length ≤ 1099511627776) (hcs : cs.length ≤ 1099511627776) (hsh : shapeP o = 13) {b : Bool}
    (hm : mayI ({ op := o, x := x, y := y, u := u, heap := { kind := hk, n := hn }, heap2 := { kind := jk, n := jn }, null := n1, null2 := n2, types := ts, labels := ls, block := { kind := bk, val := { kind := vk, null := vn, heap := { kind := wk, n := wn } }, n := bn }, catches := cs } : InstrT) = b) :
    Calls Tryz.prog 11 #[.agg (insC ({ op := o, x := x, y := y, u := u, heap := { kind := hk, n := hn }, heap2 := { kind := jk, n := jn }, null := n1, null2 := n2, types := ts, labels := ls, block := { kind := bk, val := { kind := vk, null := vn, heap := { kind := wk, n := wn } }, n := bn }, catches := cs } : InstrT) tv lv cv).toArray] w fun e w' => e = .returned (.bool b) ∧ Fr [] w w' := by
  have hB : b = ((idx x && plainH ({ kind := hk, n := hn } : HeapT) && plainH ({ kind := jk, n := jn } : HeapT)) && decide (({ op := o, x := 0, y := y, u := u, heap := HeapT.zero, heap2 := HeapT.zero, null := false, null2 := false, types := ts, labels := ls, block := { kind := bk, val := { kind := vk, null := vn, heap := { kind := wk, n := wn } }, n := bn }, catches := cs } : InstrT) = InstrT.of o)) := by rw [← hm]; exact may_of (by simp only; omega) (by simp [mayPart, hsh])
  obtain ⟨tS, lS, cS⟩ := h
  have tS' := tS
  have lS' := lS
  have cS' := cS
  have ot : tv.oneCell' = true := by obtain ⟨_, _, e⟩ := tS.shape; rw [e]; rfl
  have ol : lv.oneCell' = true := by obtain ⟨_, _, e⟩ := lS.shape; rw [e]; rfl
  have oc : cv.oneCell' = true := by obtain ⟨_, _, e⟩ := cS.shape; rw [e]; rfl
  dsimp only at tS lS cS ⊢
  have HSh := Lib.hid (shapeC o h1 h2 hsh)
  have HB := Lib.hid hB
  clear hB hm hsh
  have hS0 := St.start [] w
  go_enter Tryz.func11, Tryz.ntmps11
  unfold insC
  dsimp only
  have hOne : ∀ v ∈ ([.int .i64 o, .int .i64 x, .int .i64 y, .int .u64 (u : Int), .int .i64 hk, .int .i64 hn, .int .i64 jk, .int .i64 jn, .bool n1, .bool n2, tv, lv, .int .i64 bk, .int .i64 vk, .bool vn, .int .i64 wk, .int .i64 wn, .int .i64 bn, cv] : List Value), v.oneCell' = true := by
    intro v hv
    simp only [List.mem_cons, List.not_mem_nil, or_false] at hv
    rcases hv with h | h | h | h | h | h | h | h | h | h | h | h | h | h | h | h | h | h | h <;> subst h <;> first | rfl | assumption
  clear ot ol oc
  go_wp2_with fail
  have hbox := Loc.new w ([.int .i64 o, .int .i64 x, .int .i64 y, .int .u64 (u : Int), .int .i64 hk, .int .i64 hn, .int .i64 jk, .int .i64 jn, .bool n1, .bool n2, tv, lv, .int .i64 bk, .int .i64 vk, .bool vn, .int .i64 wk, .int .i64 wn, .int .i64 bn, cv] : List Value) 44
  refine wp_region_held_drew (S := fun w' => w'.rangeAt w.heap.size 0 [.int .i64 o, .int .i64 x, .int .i64 y, .int .u64 (u : Int), .int .i64 hk, .int .i64 hn, .int .i64 jk, .int .i64 jn, .bool n1, .bool n2, tv, lv, .int .i64 bk, .int .i64 vk, .bool vn, .int .i64 wk, .int .i64 wn, .int .i64 bn, cv]) (by kernel_rfl) (Loc.range (Loc.drew hbox)) (fun hr => ?_)
  refine wpAnyH_take (i := 0) (v := .agg (List.toArray [.int .i64 o, .int .i64 x, .int .i64 y, .int .u64 (u : Int), .int .i64 hk, .int .i64 hn, .int .i64 jk, .int .i64 jn, .bool n1, .bool n2, tv, lv, .int .i64 bk, .int .i64 vk, .bool vn, .int .i64 wk, .int .i64 wn, .int .i64 bn, cv])) rfl (by kernel_rfl) (by kernel_rfl) (by kernel_rfl) (fun _ _ _ h => h) (yieldsIf_load_mid rfl 44 _ rfl w.heap.size 0 rfl [.int .i64 o, .int .i64 x, .int .i64 y, .int .u64 (u : Int), .int .i64 hk, .int .i64 hn, .int .i64 jk, .int .i64 jn, .bool n1, .bool n2, tv, lv, .int .i64 bk, .int .i64 vk, .bool vn, .int .i64 wk, .int .i64 wn, .int .i64 bn, cv] _ (fun _ h => h) und_ins rfl size_ins) hr ?_
  simp only [Act.put, List.setIfInBounds_toArray, List.set_cons_zero, List.set_cons_succ]
  refine wpAnyH_ready (rs := [1]) (by kernel_rfl) (by simp) ?_
  refine AllReadyH.cons rfl (fun K hK => ?_) AllReadyH.nil
  rw [if_pos (by rfl)]
  go_simp
  refine hK.out _ _ (by exact Loc.range (Loc.drew (Loc.alloc hbox _))) (fun hr2 => ?_)
  clear hK K
  refine wpAnyH_take (i := 2) (v := .bool true) rfl (by kernel_rfl) (by kernel_rfl) (by kernel_rfl) (fun _ _ _ h => h) (Or.inl ⟨by rfl, fun _ _ => by go_simp⟩) hr2 ?_
  refine wpAnyH_ready (rs := [3]) (by kernel_rfl) (by simp) ?_
  refine AllReadyH.cons rfl (fun K hK => ?_) AllReadyH.nil
  rw [if_pos (by rfl)]
  refine st_storeW (ty := 44) rfl rfl rfl ?_
  (repeat (apply Exists.intro))
  refine ⟨?_, ?_, ?_, ?_, ?_, ?_⟩
  · (exact zsts2)
  · (try simp only [World.size_alloc, World.size_setCell, size_drew, size_drewN]); (exact zpk1)
  · rfl
  · exact size_ins
  · exact hOne
  intro wN hS
  refine hK.out _ _ (by exact Loc.range (hS.loc (.there .here))) (fun _ => ?_)
  clear hK K
  refine wpAnyH_done (by kernel_rfl) ?_ _
  clear hr hr2 hbox
  simp only [List.getElem_toArray, List.getElem_cons_succ, List.getElem_cons_zero, Act.put, List.setIfInBounds_toArray, List.set_cons_zero, List.set_cons_succ]

  obtain ⟨ta, tc, rfl⟩ := tS'.shape
  obtain ⟨la, lc, rfl⟩ := lS'.shape
  obtain ⟨ca, cc, rfl⟩ := cS'.shape
  clear tS' lS' cS' hOne
  (try clear hQ); have hQ := St.facts hS; simp only [Facts, Res.fact, List.cons_append, List.nil_append, true_and, and_true] at hQ
  go_wp2_with first
    | (refine st_loadB (ty := 44) rfl rfl rfl rfl und_ins rfl ?_ ?_; (focus (intro qb; cases qb; done)); intro _; refine wpList_skip rfl (wpList_skip rfl (wpList_skip rfl (wpList_skip rfl ?_))); simp only [Act.put, List.setIfInBounds_toArray, List.set_cons_zero, List.set_cons_succ])
    | (refine st_loadB (ty := 44) rfl rfl rfl rfl und_ins rfl ?_ ?_; rotate_left; (focus (intro qb; cases qb; done)); intro _; (repeat (apply Exists.intro)); refine ⟨?_, ?_, ?_, ?_⟩; (· exact zsts2); (· (try simp only [World.size_alloc, World.size_setCell, size_drew, size_drewN]); apply RowAt.loc; first | exact Pick.here | exact Pick.there Pick.here); (· exact size_ins); (try simp only [List.set_cons_zero, List.set_cons_succ]))
    | (refine st_loadB (ty := 44) rfl rfl rfl rfl und_ins rfl ?_ ?_; rotate_left; (intro qb; cases qb; refine wpList_skip rfl (wpList_skip rfl (wpList_skip rfl (wpList_skip rfl ?_))); simp only [Act.put, List.setIfInBounds_toArray, List.set_cons_zero, List.set_cons_succ]); rotate_left; (intro qb; cases qb); (repeat (apply Exists.intro)); refine ⟨?_, ?_, ?_, ?_⟩; (· exact zsts2); (· (try simp only [World.size_alloc, World.size_setCell, size_drew, size_drewN]); apply RowAt.loc; first | exact Pick.here | exact Pick.there Pick.here); (· exact size_ins); (try simp only [List.set_cons_zero, List.set_cons_succ]))
    | (go_at_call 24; (with_reducible refine (HSh.out _ ?_).mono ?_); (· apply St.gl7 (hg := hg); (exact zsts2)); rintro e w2 ⟨rfl, hF2⟩; refine st_fr hF2 ?_; (repeat (apply Exists.intro)); refine ⟨?_, ?_⟩; (· exact zsts2); (try simp only [World.size_alloc, World.size_setCell, size_drew, size_drewN]); intro hS; (try clear hQ); have hQ := St.facts hS; simp only [Facts, Res.fact, List.cons_append, List.nil_append, true_and, and_true] at hQ)
    | (go_at_call 25; (with_reducible refine (index_any _ x).mono ?_); rintro e w1 ⟨rfl, hF1⟩; generalize hb1 : idx x = b1; have Hb1 := Lib.hid hb1; clear hb1; refine st_fr hF1 ?_; (repeat (apply Exists.intro)); refine ⟨?_, ?_⟩; (· exact zsts2); (try simp only [World.size_alloc, World.size_setCell, size_drew, size_drewN]); intro hS; (try clear hQ); have hQ := St.facts hS; simp only [Facts, Res.fact, List.cons_append, List.nil_append, true_and, and_true] at hQ)
    | (go_at_call 27; (with_reducible refine (iplain_any _ ({ kind := hk, n := hn } : HeapT)).mono ?_); rintro e w1 ⟨rfl, hF1⟩; generalize hb2 : plainH ({ kind := hk, n := hn } : HeapT) = b2; have Hb2 := Lib.hid hb2; clear hb2; refine st_fr hF1 ?_; (repeat (apply Exists.intro)); refine ⟨?_, ?_⟩; (· exact zsts2); (try simp only [World.size_alloc, World.size_setCell, size_drew, size_drewN]); intro hS; (try clear hQ); have hQ := St.facts hS; simp only [Facts, Res.fact, List.cons_append, List.nil_append, true_and, and_true] at hQ)
    | (go_at_call 27; (with_reducible refine (iplain_any _ ({ kind := jk, n := jn } : HeapT)).mono ?_); rintro e w1 ⟨rfl, hF1⟩; generalize hb3 : plainH ({ kind := jk, n := jn } : HeapT) = b3; have Hb3 := Lib.hid hb3; clear hb3; refine st_fr hF1 ?_; (repeat (apply Exists.intro)); refine ⟨?_, ?_⟩; (· exact zsts2); (try simp only [World.size_alloc, World.size_setCell, size_drew, size_drewN]); intro hS; (try clear hQ); have hQ := St.facts hS; simp only [Facts, Res.fact, List.cons_append, List.nil_append, true_and, and_true] at hQ)
    | (go_at_call 33; (refine (same_i _ ({ op := o, x := 0, y := y, u := u, heap := HeapT.zero, heap2 := HeapT.zero, null := false, null2 := false, types := ts, labels := ls, block := { kind := bk, val := { kind := vk, null := vn, heap := { kind := wk, n := wn } }, n := bn }, catches := cs } : InstrT) (InstrT.of o) (.slice ta ts.length tc) (.slice la ls.length lc) (.slice ca cs.length cc) (.slice none 0 0) (.slice none 0 0) (.slice none 0 0) ?_ ?_).mono ?_); (· exact ⟨(by (apply St.sl (hs := tS); (exact zsts2))), (by (apply St.sl (hs := lS); (exact zsts2))), (by (apply St.sl (hs := cS); (exact zsts2)))⟩); (· exact ⟨Sl.nil _ _ _, Sl.nil _ _ _, Sl.nil _ _ _⟩); rintro e w9 ⟨rfl, hF9⟩; generalize hb9 : decide (({ op := o, x := 0, y := y, u := u, heap := HeapT.zero, heap2 := HeapT.zero, null := false, null2 := false, types := ts, labels := ls, block := { kind := bk, val := { kind := vk, null := vn, heap := { kind := wk, n := wn } }, n := bn }, catches := cs } : InstrT) = InstrT.of o) = b9; have Hb9 := Lib.hid hb9; clear hb9; refine st_fr hF9 ?_; (repeat (apply Exists.intro)); refine ⟨?_, ?_⟩; (· exact zsts2); (try simp only [World.size_alloc, World.size_setCell, size_drew, size_drewN]); intro hS; (try clear hQ); have hQ := St.facts hS; simp only [Facts, Res.fact, List.cons_append, List.nil_append, true_and, and_true] at hQ)
  all_goals go_ret
  all_goals refine ⟨?_, by (first | (with_reducible exact hS.fr) | (apply St.fr; (exact zsts2); done) | exact hS.fr)⟩
  all_goals rw [HB.out]
  all_goals (try rw [Hb1.out])
  all_goals (try rw [Hb2.out])
  all_goals (try rw [Hb3.out])
  all_goals (try rw [Hb9.out])
  all_goals first | rfl | (simp; done) | (simp [*]; done)
end Go.Proofs.YtokneepfknepaaaGreatDoor
