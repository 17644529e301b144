/- The walk of the document's putSub (layer 6). -/
import Derived.Test.YtokneepfknepaaaDoorRefS0
import Derived.Test.YtokneepfknepaaaDoorSt2
set_option linter.unusedSimpArgs false
set_option linter.unusedVariables false
namespace Go.Proofs.YtokneepfknepaaaDoor
open Go.RowKit

theorem St.ofOut {w w' : World} {v : Value} {xs : List UInt8} (h : Out w' v xs) (hn : New w v) (hf : Fr [] w w') : St [] w w' [.own 5 1 (v) (xs).length ((xs).map B)] :=
  ((St.start [] w).step0 hf).put (r := .own 5 1 (v) (xs).length ((xs).map B)) h (fun b hb => hn b hb) (fun _ _ _ h => by cases h)
theorem rPutU (n : Nat) (w : World) (hn : n < 18446744073709551616) : Calls Tryd.prog 72 #[.int .u64 n] w fun e w' => ∃ v, e = .returned v ∧ St [] w w' [.own 5 1 (v) (putU n).length ((putU n).map B)] :=
  (refPutU_any n w hn).mono fun e w' ⟨v, h1, h2, h3, h4⟩ => ⟨v, h1, St.ofOut h2 h3 h4⟩

theorem rPutVals (w : World) (v : Value) (ts : List ValT) (h : Sl [] w 4 v ts.length (ts.flatMap valC)) (hl : ts.length ≤ 1099511627776) (hp : ts.all plainVal = true) :
    Calls Tryd.prog 32 #[v] w fun e w' => ∃ v', e = .returned v' ∧ St [] w w' [.own 5 1 (v') (pList pVal ts).length ((pList pVal ts).map B)] :=
  (refPutVals_any w v ts h hl hp).mono fun e w' ⟨v, h1, h2, h3, h4⟩ => ⟨v, h1, St.ofOut h2 h3 h4⟩
theorem rPutUw (n : Nat) (w : World) (hn : n < 18446744073709551616) : Calls Tryd.prog 72 #[.int .u64 (IntKind.u64.wrap n)] w fun e w' => ∃ v, e = .returned v ∧ St [] w w' [.own 5 1 (v) (putU n).length ((putU n).map B)] := by
  rw [show IntKind.u64.wrap (n : Int) = (n : Int) from (show (n : Int) % 18446744073709551616 = n by omega)]
  exact rPutU n w hn
theorem rPutVal (w : World) (t : ValT) (hp : plainVal t = true) : Calls Tryd.prog 30 #[.agg #[.int .i64 t.kind, .bool t.null, .int .i64 t.heap.kind, .int .i64 t.heap.n]] w fun e w' => ∃ v', e = .returned v' ∧ St [] w w' [.own 5 1 (v') (pVal t).length ((pVal t).map B)] :=
  (refPutVal_any w t hp).mono fun e w' ⟨v, h1, h2, h3, h4⟩ => ⟨v, h1, St.ofOut h2 h3 h4⟩
def sHead (fb : Bool) (sup : List HeapT) : List UInt8 := if fb = false then [80] else if 0 < sup.length then [79] else []

def sPre (fb : Bool) (sup : List HeapT) : List UInt8 := if 0 < (sHead fb sup).length then sHead fb sup ++ pList pSuper sup else []

def sMid (ck : Int) (fs : List FieldT) : List UInt8 := if ck = 3 then [94] else [95] ++ putU fs.length
theorem sPre_eq (fb : Bool) (sup : List HeapT) : sPre fb sup = if fb = false then 80 :: pList pSuper sup else if 0 < sup.length then 79 :: pList pSuper sup else [] := by
  unfold sPre sHead
  cases fb
  · simp
  · by_cases h : 0 < sup.length
    · simp [h]
    · simp [h]
theorem sPre_len (fb : Bool) (sup : List HeapT) (h : sup.all indexedH = true) (hl : sup.length ≤ 65536) : (sPre fb sup).length ≤ 2000000 := by
  have h1 := flat_len pSuper 16 sup (fun t ht => pSuper_len t (by have := List.all_eq_true.1 h t ht; simp only [indexedH, decide_eq_true_eq] at this; omega))
  have h2 := putU_len sup.length (by omega)
  have h3 : (sHead fb sup).length ≤ 1 := by unfold sHead; split <;> (try split) <;> simp
  unfold sPre
  split
  · simp only [pList, List.length_append]; omega
  · simp
set_option maxRecDepth 100000 in
set_option maxHeartbeats 12800000 in
theorem refPutSub_any (w : World) (fb : Bool) (sup : List HeapT) (ck : Int) (ps rs : List ValT) (fs : List FieldT) (hv pv rv fv : Value) (h : SubR [] w ⟨fb, sup, ⟨ck, ps, rs, fs⟩⟩ hv pv rv fv) (hl : SubT.len ⟨fb, sup, ⟨ck, ps, rs, fs⟩⟩ ≤ 65536) (hp : plainSub ⟨fb, sup, ⟨ck, ps, rs, fs⟩⟩ = true) :
    Calls Tryd.prog 79 #[.agg #[.bool fb, hv, .int .i64 ck, pv, rv, fv]] w fun e w' => ∃ v', e = .returned v' ∧ St [] w w' [.own 5 1 (v') (pSub ⟨fb, sup, ⟨ck, ps, rs, fs⟩⟩).length ((pSub ⟨fb, sup, ⟨ck, ps, rs, fs⟩⟩).map B)] := by
  obtain ⟨h1, h2, h3, h4, hK⟩ := plainSub_parts hp
  obtain ⟨hs1, hs2, hs3, hs4⟩ := h
  unfold SubT.len at hl
  dsimp only at hl hs1 hs2 hs3 hs4
  have l2 : ps.length ≤ 1099511627776 := by omega
  have l3 : rs.length ≤ 1099511627776 := by omega
  have hlps := pList_lenV ps (fun x hx => plainVal_ok (List.all_eq_true.1 h2 x hx)) (by omega)
  have hlrs := pList_lenV rs (fun x hx => plainVal_ok (List.all_eq_true.1 h3 x hx)) (by omega)
  have hUl := putU_len sup.length (by omega)
  have H1 := Lib.hid h1
  have H2 := Lib.hid h2
  have H3 := Lib.hid h3
  have H4 := Lib.hid h4
  have HK := Lib.hid hK
  clear h1 h2 h3 h4 hK hp
  obtain ⟨ha, hc, rfl⟩ := hs1.shape
  obtain ⟨pa, pc, rfl⟩ := hs2.shape
  obtain ⟨ra, rc, rfl⟩ := hs3.shape
  obtain ⟨fa, fc, rfl⟩ := hs4.shape
  have hS0 := St.start [] w
  have hS := hS0.put (r := .own 5 1 (.slice none 0 0) ([]).length (([]).map B)) (Out.nil w) (fun b hb => by cases hb) (fun _ _ _ h => by cases h)
  go_enter Tryd.func79, Tryd.ntmps79
  go_upto_if 11 with fail
  go_cut [3] (fun s3 wx => St [] w wx [.own 5 1 (s3) (sHead fb sup).length ((sHead fb sup).map B), .loc w.heap.size [.bool fb, .slice ha sup.length hc, .int .i64 ck, .slice pa ps.length pc, .slice ra rs.length rc, .slice fa fs.length fc] 60])
  case first =>
    go_wp2_with (at_builtin; refine st_app rfl rfl rfl rfl ?_; (repeat (apply Exists.intro)); refine ⟨?_, ?_, ?_, ?_, ?_⟩; (· (repeat (first | (with_reducible assumption) | (with_reducible apply St.alloc) | (with_reducible apply St.drew) | (with_reducible apply St.drewN) | (with_reducible apply St.alloc')))); (· (try simp only [World.size_alloc, World.size_setCell, size_drew, size_drewN]); first | (apply Dst.own; ((try simp only [World.size_alloc, World.size_setCell, size_drew, size_drewN]); repeat (first | (exact Pick.here) | (with_reducible apply Pick.there))); done) | (apply Dst.lit; (· ((try simp only [World.size_alloc, World.size_setCell, size_drew, size_drewN]); repeat (first | (exact Pick.here) | (with_reducible apply Pick.there)))); (· omega)) | (apply Dst.nil; rfl)); (· (try simp only [World.size_alloc, World.size_setCell, size_drew, size_drewN]); first | (apply SrcOf.own; ((try simp only [World.size_alloc, World.size_setCell, size_drew, size_drewN]); repeat (first | (exact Pick.here) | (with_reducible apply Pick.there))); done) | (apply SrcOf.lit; (· ((try simp only [World.size_alloc, World.size_setCell, size_drew, size_drewN]); repeat (first | (exact Pick.here) | (with_reducible apply Pick.there)))); (· omega)) | (apply SrcOf.arg; assumption)); (· (first | (simp only [List.length_append, List.length_cons, List.length_nil, List.length_map]; done) | (simp only [List.length_append, List.length_cons, List.length_nil, List.length_map]; omega) | omega)); intro vN wN hS; (try clear hQ); have hQ := St.facts hS; simp only [Facts, Res.fact, List.cons_append, List.nil_append, true_and, and_true] at hQ)
    all_goals go_meet
    · obtain rfl : fb = false := by simpa using (show (!fb) = true by assumption)
      exact hS.sel (by ((try simp only [World.size_alloc, World.size_setCell, size_drew, size_drewN]); repeat (first | (exact Sel.all) | (exact Sel.nil) | (apply Sel.cons; (· ((try simp only [World.size_alloc, World.size_setCell, size_drew, size_drewN]); repeat (first | (exact Pick.here) | (with_reducible apply Pick.there))))))))
    · obtain rfl : fb = true := by simpa using (show (!fb) = false by assumption)
      have e : [] ++ [UInt8.ofNat (Int.toNat 79)] = sHead true sup := by unfold sHead; rw [if_neg (by simp), if_pos (by assumption)]; rfl
      rw [e] at hS
      exact hS.sel (by ((try simp only [World.size_alloc, World.size_setCell, size_drew, size_drewN]); repeat (first | (exact Sel.all) | (exact Sel.nil) | (apply Sel.cons; (· ((try simp only [World.size_alloc, World.size_setCell, size_drew, size_drewN]); repeat (first | (exact Pick.here) | (with_reducible apply Pick.there))))))))
    · obtain rfl : fb = true := by simpa using (show (!fb) = false by assumption)
      have e : [] = sHead true sup := by unfold sHead; rw [if_neg (by simp), if_neg (by assumption)]
      rw [← e]
      apply St.sel
      · (repeat (first | (with_reducible assumption) | (with_reducible apply St.alloc) | (with_reducible apply St.drew) | (with_reducible apply St.drewN) | (with_reducible apply St.alloc')))
      · ((try simp only [World.size_alloc, World.size_setCell, size_drew, size_drewN]); repeat (first | (exact Sel.all) | (exact Sel.nil) | (apply Sel.cons; (· ((try simp only [World.size_alloc, World.size_setCell, size_drew, size_drewN]); repeat (first | (exact Pick.here) | (with_reducible apply Pick.there)))))))
  case rest =>
    clear hS
    rename_i s3 wx
    have hS := hcut
    clear hcut
    obtain ⟨a, c, rfl⟩ := hS.shape Pick.here
    (try clear hQ); have hQ := St.facts hS; simp only [Facts, Res.fact, List.cons_append, List.nil_append, true_and, and_true] at hQ
    have hXl : (sHead fb sup).length ≤ 1 := by unfold sHead; split <;> (try split) <;> simp
    go_upto_if 24 with fail
    go_cut [3] (fun s3 wx => St [] w wx [.own 5 1 (s3) (sPre fb sup).length ((sPre fb sup).map B), .loc w.heap.size [.bool fb, .slice ha sup.length hc, .int .i64 ck, .slice pa ps.length pc, .slice ra rs.length rc, .slice fa fs.length fc] 60])
    case first =>
      by_cases h0 : 0 < (sHead fb sup).length
      · have e : sPre fb sup = sHead fb sup ++ putU sup.length ++ sup.flatMap pSuper := by unfold sPre; rw [if_pos h0]; simp [pList]
        have E := Lib.hid e
        clear e
        go_wp2_with first | (at_builtin; refine st_app rfl rfl rfl rfl ?_; (repeat (apply Exists.intro)); refine ⟨?_, ?_, ?_, ?_, ?_⟩; (· (repeat (first | (with_reducible assumption) | (with_reducible apply St.alloc) | (with_reducible apply St.drew) | (with_reducible apply St.drewN) | (with_reducible apply St.alloc')))); (· (try simp only [World.size_alloc, World.size_setCell, size_drew, size_drewN]); first | (apply Dst.own; ((try simp only [World.size_alloc, World.size_setCell, size_drew, size_drewN]); repeat (first | (exact Pick.here) | (with_reducible apply Pick.there))); done) | (apply Dst.lit; (· ((try simp only [World.size_alloc, World.size_setCell, size_drew, size_drewN]); repeat (first | (exact Pick.here) | (with_reducible apply Pick.there)))); (· omega)) | (apply Dst.nil; rfl)); (· (try simp only [World.size_alloc, World.size_setCell, size_drew, size_drewN]); first | (apply SrcOf.own; ((try simp only [World.size_alloc, World.size_setCell, size_drew, size_drewN]); repeat (first | (exact Pick.here) | (with_reducible apply Pick.there))); done) | (apply SrcOf.lit; (· ((try simp only [World.size_alloc, World.size_setCell, size_drew, size_drewN]); repeat (first | (exact Pick.here) | (with_reducible apply Pick.there)))); (· omega)) | (apply SrcOf.arg; assumption)); (· (first | (simp only [List.length_append, List.length_cons, List.length_nil, List.length_map]; done) | (simp only [List.length_append, List.length_cons, List.length_nil, List.length_map]; omega) | omega)); intro vN wN hS; (try clear hQ); have hQ := St.facts hS; simp only [Facts, Res.fact, List.cons_append, List.nil_append, true_and, and_true] at hQ) | (go_at_call 72; (with_reducible refine (rPutU sup.length _ (by omega)).mono ?_); rintro e w4 ⟨v4, rfl, s4⟩; refine st_go s4 ?_; (repeat (apply Exists.intro)); refine ⟨?_, ?_⟩; (· (repeat (first | (with_reducible assumption) | (with_reducible apply St.alloc) | (with_reducible apply St.drew) | (with_reducible apply St.drewN) | (with_reducible apply St.alloc')))); (try simp only [World.size_alloc, World.size_setCell, size_drew, size_drewN]); intro hS; simp only [List.cons_append, List.nil_append] at hS; (try clear hQ); have hQ := St.facts hS; simp only [Facts, Res.fact, List.cons_append, List.nil_append, true_and, and_true] at hQ)
        go_loopw [3, 4] (fun bv n wr => ∃ (i : Nat), n = .int .i64 i ∧ i ≤ sup.length ∧ St [] w wr [.own 5 1 (bv) (sHead fb sup ++ putU sup.length ++ (sup.take i).flatMap pSuper).length ((sHead fb sup ++ putU sup.length ++ (sup.take i).flatMap pSuper).map B), .loc w.heap.size [.bool fb, .slice ha sup.length hc, .int .i64 ck, .slice pa ps.length pc, .slice ra rs.length rc, .slice fa fs.length fc] 60]) (fun _ n _ => sup.length - (intOf n).toNat)
        case atStart => exact ⟨0, rfl, by omega, by rw [show sHead fb sup ++ putU sup.length ++ (sup.take 0).flatMap pSuper = sHead fb sup ++ putU sup.length by simp]; exact hS.sel (by ((try simp only [World.size_alloc, World.size_setCell, size_drew, size_drewN]); repeat (first | (exact Sel.all) | (exact Sel.nil) | (apply Sel.cons; (· ((try simp only [World.size_alloc, World.size_setCell, size_drew, size_drewN]); repeat (first | (exact Pick.here) | (with_reducible apply Pick.there))))))))⟩
        case round =>
          obtain ⟨i, rfl, hi, hS⟩ := hrel
          (try clear hQ); have hQ := St.facts hS; simp only [Facts, Res.fact, List.cons_append, List.nil_append, true_and, and_true] at hQ
          by_cases hlt : i < sup.length
          · obtain ⟨x, hx⟩ : ∃ t, sup[i]? = some t := ⟨sup[i], by simp [hlt]⟩
            obtain ⟨b1, o1, p1, hv1, hb1, _, hd1⟩ := Sl.elem (hS.sl hs1) (fun _ => rfl) i x hx
            injection hv1 with e1 _ e1c
            subst e1 e1c
            have f10 := hd1 0 (by decide)
            have f11 := hd1 1 (by decide)
            clear hd1
            have hpx := List.all_eq_true.1 H1.out x (List.mem_of_getElem? hx)
            have hpre := flat_len pSuper 16 (sup.take i) (fun t ht => pSuper_len t (by have := List.all_eq_true.1 H1.out t (List.mem_of_mem_take ht); simp only [indexedH, decide_eq_true_eq] at this; omega))
            have htl : (sup.take i).length ≤ sup.length := by simp; omega
            have hyx : sHead fb sup ++ putU sup.length ++ (sup.take (i + 1)).flatMap pSuper = (sHead fb sup ++ putU sup.length ++ (sup.take i).flatMap pSuper) ++ pSuper x := by
              rw [take_one sup i x hx]
              simp
            obtain ⟨k, n⟩ := x
            simp only [indexedH, decide_eq_true_eq] at hpx
            obtain ⟨rfl, n0, n1⟩ := hpx
            obtain ⟨m, rfl⟩ := Int.eq_ofNat_of_zero_le n0
            simp only [Nat.add_zero, ← Nat.add_assoc, heapC, List.getElem?_cons_zero, List.getElem?_cons_succ] at f10 f11
            have i1 : (i : Int) < (sup.length : Int) := by omega
            have hm : m < 18446744073709551616 := by omega
            have hml := putU_len m hm
            rw [pSuper_at] at hyx
            have Hyx := Lib.hid hyx
            clear hx hyx
            go_wp2_with first | (at_builtin; refine st_app rfl rfl rfl rfl ?_; (repeat (apply Exists.intro)); refine ⟨?_, ?_, ?_, ?_, ?_⟩; (· (repeat (first | (with_reducible assumption) | (with_reducible apply St.alloc) | (with_reducible apply St.drew) | (with_reducible apply St.drewN) | (with_reducible apply St.alloc')))); (· (try simp only [World.size_alloc, World.size_setCell, size_drew, size_drewN]); first | (apply Dst.own; ((try simp only [World.size_alloc, World.size_setCell, size_drew, size_drewN]); repeat (first | (exact Pick.here) | (with_reducible apply Pick.there))); done) | (apply Dst.lit; (· ((try simp only [World.size_alloc, World.size_setCell, size_drew, size_drewN]); repeat (first | (exact Pick.here) | (with_reducible apply Pick.there)))); (· omega)) | (apply Dst.nil; rfl)); (· (try simp only [World.size_alloc, World.size_setCell, size_drew, size_drewN]); first | (apply SrcOf.own; ((try simp only [World.size_alloc, World.size_setCell, size_drew, size_drewN]); repeat (first | (exact Pick.here) | (with_reducible apply Pick.there))); done) | (apply SrcOf.lit; (· ((try simp only [World.size_alloc, World.size_setCell, size_drew, size_drewN]); repeat (first | (exact Pick.here) | (with_reducible apply Pick.there)))); (· omega)) | (apply SrcOf.arg; assumption)); (· (first | (simp only [List.length_append, List.length_cons, List.length_nil, List.length_map]; done) | (simp only [List.length_append, List.length_cons, List.length_nil, List.length_map]; omega) | omega)); intro vN wN hS; (try clear hQ); have hQ := St.facts hS; simp only [Facts, Res.fact, List.cons_append, List.nil_append, true_and, and_true] at hQ) | (go_at_call 72; (with_reducible refine (rPutU m _ hm).mono ?_); rintro e w4 ⟨v4, rfl, s4⟩; refine st_go s4 ?_; (repeat (apply Exists.intro)); refine ⟨?_, ?_⟩; (· (repeat (first | (with_reducible assumption) | (with_reducible apply St.alloc) | (with_reducible apply St.drew) | (with_reducible apply St.drewN) | (with_reducible apply St.alloc')))); (try simp only [World.size_alloc, World.size_setCell, size_drew, size_drewN]); intro hS; simp only [List.cons_append, List.nil_append] at hS; (try clear hQ); have hQ := St.facts hS; simp only [Facts, Res.fact, List.cons_append, List.nil_append, true_and, and_true] at hQ)
            go_roundw
            case rel => exact ⟨i + 1, by go_num, by omega, by rw [Hyx.out]; exact hS.sel (by ((try simp only [World.size_alloc, World.size_setCell, size_drew, size_drewN]); repeat (first | (exact Sel.all) | (exact Sel.nil) | (apply Sel.cons; (· ((try simp only [World.size_alloc, World.size_setCell, size_drew, size_drewN]); repeat (first | (exact Pick.here) | (with_reducible apply Pick.there))))))))⟩
            case measure => simp [intOf]; omega
          · have hk : i = sup.length := by omega
            subst hk
            have i1 : ¬ (sup.length : Int) < (sup.length : Int) := by omega
            rw [List.take_length] at hS
            go_wp2
            go_meet
            rw [E.out]
            exact hS.sel (by ((try simp only [World.size_alloc, World.size_setCell, size_drew, size_drewN]); repeat (first | (exact Sel.all) | (exact Sel.nil) | (apply Sel.cons; (· ((try simp only [World.size_alloc, World.size_setCell, size_drew, size_drewN]); repeat (first | (exact Pick.here) | (with_reducible apply Pick.there))))))))
      · have e : sPre fb sup = [] := by unfold sPre; rw [if_neg h0]
        have e2 : sHead fb sup = [] := List.length_eq_zero_iff.1 (by omega)
        have E := Lib.hid (e.trans e2.symm)
        have z0 : ((sHead fb sup).length : Int) = 0 := by omega
        clear e e2
        go_wp2
        go_meet
        rw [E.out]
        exact hS.sel (by ((try simp only [World.size_alloc, World.size_setCell, size_drew, size_drewN]); repeat (first | (exact Sel.all) | (exact Sel.nil) | (apply Sel.cons; (· ((try simp only [World.size_alloc, World.size_setCell, size_drew, size_drewN]); repeat (first | (exact Pick.here) | (with_reducible apply Pick.there))))))))
    case rest =>
      clear hS
      have hS := hcut
      clear hcut
      have hPl := sPre_len fb sup H1.out (by omega)
      obtain ⟨wo, hwo⟩ : ∃ wo : World, wo = wc := ⟨_, rfl⟩
      subst hwo
      (try clear hQ); have hQ := St.facts hS; simp only [Facts, Res.fact, List.cons_append, List.nil_append, true_and, and_true] at hQ
      by_cases c1 : ck = 1
      · subst c1
        have hfin : pSub ⟨fb, sup, ⟨1, ps, rs, fs⟩⟩ = sPre fb sup ++ [96] ++ pList pVal ps ++ pList pVal rs := by rw [sPre_eq]; simp [pSub]
        have Hfin := Lib.hid hfin
        clear hfin
        have hbX : (sPre fb sup ++ [96] ++ pList pVal ps).length ≤ 3000000 := by simp only [List.length_append, List.length_cons, List.length_nil]; omega
        go_wp2
        go_region_held3 (fun w' => w'.cell? ⟨wo.heap.size, 1, none⟩ = some (.slice pa ps.length pc))
          (first | (go_keep; done) | (simp [hQ]; done))
          (first | (refine step_st rfl rfl rfl rfl ?_; (repeat (apply Exists.intro)); refine ⟨?_, ?_, ?_, ?_, ?_⟩; (· (repeat (first | (with_reducible assumption) | (with_reducible apply St.alloc) | (with_reducible apply St.drew) | (with_reducible apply St.drewN) | (with_reducible apply St.alloc')))); (· (try simp only [World.size_alloc, World.size_setCell, size_drew, size_drewN]); first | (apply Dst.own; ((try simp only [World.size_alloc, World.size_setCell, size_drew, size_drewN]); repeat (first | (exact Pick.here) | (with_reducible apply Pick.there))); done) | (apply Dst.lit; (· ((try simp only [World.size_alloc, World.size_setCell, size_drew, size_drewN]); repeat (first | (exact Pick.here) | (with_reducible apply Pick.there)))); (· omega)) | (apply Dst.nil; rfl)); (· (try simp only [World.size_alloc, World.size_setCell, size_drew, size_drewN]); first | (apply SrcOf.own; ((try simp only [World.size_alloc, World.size_setCell, size_drew, size_drewN]); repeat (first | (exact Pick.here) | (with_reducible apply Pick.there))); done) | (apply SrcOf.lit; (· ((try simp only [World.size_alloc, World.size_setCell, size_drew, size_drewN]); repeat (first | (exact Pick.here) | (with_reducible apply Pick.there)))); (· omega)) | (apply SrcOf.arg; assumption)); (· (first | (simp only [List.length_append, List.length_cons, List.length_nil, List.length_map]; done) | (simp only [List.length_append, List.length_cons, List.length_nil, List.length_map]; omega) | omega)); intro vN wN hS; (try clear hQ); have hQ := St.facts hS; simp only [Facts, Res.fact, List.cons_append, List.nil_append, true_and, and_true] at hQ) | (go_at_call 32; (with_reducible refine (rPutVals _ _ ps ?_ l2 H2.out).mono ?_); (· (apply St.sl (hs := hs2); (repeat (first | (with_reducible assumption) | (with_reducible apply St.alloc) | (with_reducible apply St.drew) | (with_reducible apply St.drewN) | (with_reducible apply St.alloc'))))); rintro e w4 ⟨v4, rfl, s4⟩; refine st_go s4 ?_; (repeat (apply Exists.intro)); refine ⟨?_, ?_⟩; (· (repeat (first | (with_reducible assumption) | (with_reducible apply St.alloc) | (with_reducible apply St.drew) | (with_reducible apply St.drewN) | (with_reducible apply St.alloc')))); (try simp only [World.size_alloc, World.size_setCell, size_drew, size_drewN]); intro hS; simp only [List.cons_append, List.nil_append] at hS; (try clear hQ); have hQ := St.facts hS; simp only [Facts, Res.fact, List.cons_append, List.nil_append, true_and, and_true] at hQ))
        all_goals
          go_wp2_with first | (at_builtin; refine st_app rfl rfl rfl rfl ?_; (repeat (apply Exists.intro)); refine ⟨?_, ?_, ?_, ?_, ?_⟩; (· (repeat (first | (with_reducible assumption) | (with_reducible apply St.alloc) | (with_reducible apply St.drew) | (with_reducible apply St.drewN) | (with_reducible apply St.alloc')))); (· (try simp only [World.size_alloc, World.size_setCell, size_drew, size_drewN]); first | (apply Dst.own; ((try simp only [World.size_alloc, World.size_setCell, size_drew, size_drewN]); repeat (first | (exact Pick.here) | (with_reducible apply Pick.there))); done) | (apply Dst.lit; (· ((try simp only [World.size_alloc, World.size_setCell, size_drew, size_drewN]); repeat (first | (exact Pick.here) | (with_reducible apply Pick.there)))); (· omega)) | (apply Dst.nil; rfl)); (· (try simp only [World.size_alloc, World.size_setCell, size_drew, size_drewN]); first | (apply SrcOf.own; ((try simp only [World.size_alloc, World.size_setCell, size_drew, size_drewN]); repeat (first | (exact Pick.here) | (with_reducible apply Pick.there))); done) | (apply SrcOf.lit; (· ((try simp only [World.size_alloc, World.size_setCell, size_drew, size_drewN]); repeat (first | (exact Pick.here) | (with_reducible apply Pick.there)))); (· omega)) | (apply SrcOf.arg; assumption)); (· (first | (simp only [List.length_append, List.length_cons, List.length_nil, List.length_map]; done) | (simp only [List.length_append, List.length_cons, List.length_nil, List.length_map]; omega) | omega)); intro vN wN hS; (try clear hQ); have hQ := St.facts hS; simp only [Facts, Res.fact, List.cons_append, List.nil_append, true_and, and_true] at hQ) | (go_at_call 32; (with_reducible refine (rPutVals _ _ rs ?_ l3 H3.out).mono ?_); (· (apply St.sl (hs := hs3); (repeat (first | (with_reducible assumption) | (with_reducible apply St.alloc) | (with_reducible apply St.drew) | (with_reducible apply St.drewN) | (with_reducible apply St.alloc'))))); rintro e w4 ⟨v4, rfl, s4⟩; refine st_go s4 ?_; (repeat (apply Exists.intro)); refine ⟨?_, ?_⟩; (· (repeat (first | (with_reducible assumption) | (with_reducible apply St.alloc) | (with_reducible apply St.drew) | (with_reducible apply St.drewN) | (with_reducible apply St.alloc')))); (try simp only [World.size_alloc, World.size_setCell, size_drew, size_drewN]); intro hS; simp only [List.cons_append, List.nil_append] at hS; (try clear hQ); have hQ := St.facts hS; simp only [Facts, Res.fact, List.cons_append, List.nil_append, true_and, and_true] at hQ)
          go_ret
          rw [Hfin.out]
          exact ⟨_, rfl, hS.sel (by ((try simp only [World.size_alloc, World.size_setCell, size_drew, size_drewN]); repeat (first | (exact Sel.all) | (exact Sel.nil) | (apply Sel.cons; (· ((try simp only [World.size_alloc, World.size_setCell, size_drew, size_drewN]); repeat (first | (exact Pick.here) | (with_reducible apply Pick.there))))))))⟩
      · have g1 : (ck == 1) = false := by simpa using c1
        go_upto_if 68 with fail
        go_cut [3] (fun s3 wx => St [] w wx [.own 5 1 (s3) (sPre fb sup ++ sMid ck fs).length ((sPre fb sup ++ sMid ck fs).map B), .loc wo.heap.size [.int .i64 ck, .slice pa ps.length pc, .slice ra rs.length rc, .slice fa fs.length fc] 58])
        case first =>
          have hUf := putU_len fs.length (by omega)
          by_cases c3 : ck = 3
          · subst c3
            go_wp2_with (at_builtin; refine st_app rfl rfl rfl rfl ?_; (repeat (apply Exists.intro)); refine ⟨?_, ?_, ?_, ?_, ?_⟩; (· (repeat (first | (with_reducible assumption) | (with_reducible apply St.alloc) | (with_reducible apply St.drew) | (with_reducible apply St.drewN) | (with_reducible apply St.alloc')))); (· (try simp only [World.size_alloc, World.size_setCell, size_drew, size_drewN]); first | (apply Dst.own; ((try simp only [World.size_alloc, World.size_setCell, size_drew, size_drewN]); repeat (first | (exact Pick.here) | (with_reducible apply Pick.there))); done) | (apply Dst.lit; (· ((try simp only [World.size_alloc, World.size_setCell, size_drew, size_drewN]); repeat (first | (exact Pick.here) | (with_reducible apply Pick.there)))); (· omega)) | (apply Dst.nil; rfl)); (· (try simp only [World.size_alloc, World.size_setCell, size_drew, size_drewN]); first | (apply SrcOf.own; ((try simp only [World.size_alloc, World.size_setCell, size_drew, size_drewN]); repeat (first | (exact Pick.here) | (with_reducible apply Pick.there))); done) | (apply SrcOf.lit; (· ((try simp only [World.size_alloc, World.size_setCell, size_drew, size_drewN]); repeat (first | (exact Pick.here) | (with_reducible apply Pick.there)))); (· omega)) | (apply SrcOf.arg; assumption)); (· (first | (simp only [List.length_append, List.length_cons, List.length_nil, List.length_map]; done) | (simp only [List.length_append, List.length_cons, List.length_nil, List.length_map]; omega) | omega)); intro vN wN hS; (try clear hQ); have hQ := St.facts hS; simp only [Facts, Res.fact, List.cons_append, List.nil_append, true_and, and_true] at hQ)
            go_meet
            rw [show sMid 3 fs = [94] from rfl]
            exact hS.sel (by ((try simp only [World.size_alloc, World.size_setCell, size_drew, size_drewN]); repeat (first | (exact Sel.all) | (exact Sel.nil) | (apply Sel.cons; (· ((try simp only [World.size_alloc, World.size_setCell, size_drew, size_drewN]); repeat (first | (exact Pick.here) | (with_reducible apply Pick.there))))))))
          · have g3 : (ck == 3) = false := by simpa using c3
            have C3 := Lib.hid c3
            clear c3
            go_wp2_with fail
            go_region_held3 (fun w' => w'.cell? ⟨wo.heap.size, 3, none⟩ = some (.slice fa fs.length fc))
              (first | (go_keep; done) | (simp [hQ]; done))
              (first | (refine step_st rfl rfl rfl rfl ?_; (repeat (apply Exists.intro)); refine ⟨?_, ?_, ?_, ?_, ?_⟩; (· (repeat (first | (with_reducible assumption) | (with_reducible apply St.alloc) | (with_reducible apply St.drew) | (with_reducible apply St.drewN) | (with_reducible apply St.alloc')))); (· (try simp only [World.size_alloc, World.size_setCell, size_drew, size_drewN]); first | (apply Dst.own; ((try simp only [World.size_alloc, World.size_setCell, size_drew, size_drewN]); repeat (first | (exact Pick.here) | (with_reducible apply Pick.there))); done) | (apply Dst.lit; (· ((try simp only [World.size_alloc, World.size_setCell, size_drew, size_drewN]); repeat (first | (exact Pick.here) | (with_reducible apply Pick.there)))); (· omega)) | (apply Dst.nil; rfl)); (· (try simp only [World.size_alloc, World.size_setCell, size_drew, size_drewN]); first | (apply SrcOf.own; ((try simp only [World.size_alloc, World.size_setCell, size_drew, size_drewN]); repeat (first | (exact Pick.here) | (with_reducible apply Pick.there))); done) | (apply SrcOf.lit; (· ((try simp only [World.size_alloc, World.size_setCell, size_drew, size_drewN]); repeat (first | (exact Pick.here) | (with_reducible apply Pick.there)))); (· omega)) | (apply SrcOf.arg; assumption)); (· (first | (simp only [List.length_append, List.length_cons, List.length_nil, List.length_map]; done) | (simp only [List.length_append, List.length_cons, List.length_nil, List.length_map]; omega) | omega)); intro vN wN hS; (try clear hQ); have hQ := St.facts hS; simp only [Facts, Res.fact, List.cons_append, List.nil_append, true_and, and_true] at hQ) | (go_at_call 72; (first | (with_reducible refine (rPutU fs.length _ (by omega)).mono ?_) | (with_reducible refine (rPutUw fs.length _ (by omega)).mono ?_)); rintro e w4 ⟨v4, rfl, s4⟩; refine st_go s4 ?_; (repeat (apply Exists.intro)); refine ⟨?_, ?_⟩; (· (repeat (first | (with_reducible assumption) | (with_reducible apply St.alloc) | (with_reducible apply St.drew) | (with_reducible apply St.drewN) | (with_reducible apply St.alloc')))); (try simp only [World.size_alloc, World.size_setCell, size_drew, size_drewN]); intro hS; simp only [List.cons_append, List.nil_append] at hS; (try clear hQ); have hQ := St.facts hS; simp only [Facts, Res.fact, List.cons_append, List.nil_append, true_and, and_true] at hQ))
            all_goals
              go_wp2_with fail
              go_meet
              have e : sPre fb sup ++ sMid ck fs = sPre fb sup ++ [95] ++ putU fs.length := by unfold sMid; rw [if_neg C3.out]; simp
              rw [e]
              exact hS.sel (by ((try simp only [World.size_alloc, World.size_setCell, size_drew, size_drewN]); repeat (first | (exact Sel.all) | (exact Sel.nil) | (apply Sel.cons; (· ((try simp only [World.size_alloc, World.size_setCell, size_drew, size_drewN]); repeat (first | (exact Pick.here) | (with_reducible apply Pick.there))))))))
        case rest =>
          clear hS
          have hS := hcut
          clear hcut
          (try clear hQ); have hQ := St.facts hS; simp only [Facts, Res.fact, List.cons_append, List.nil_append, true_and, and_true] at hQ
          have hMl : (sMid ck fs).length ≤ 11 := by have := putU_len fs.length (by omega); unfold sMid; split <;> simp; omega
          have hfin : pSub ⟨fb, sup, ⟨ck, ps, rs, fs⟩⟩ = sPre fb sup ++ sMid ck fs ++ fs.flatMap pField := by
            rw [sPre_eq]
            unfold pSub sMid
            rcases HK.out with h | h | ⟨h, h'⟩
            · exact absurd h c1
            · simp [h, pList]
            · obtain ⟨f, rfl⟩ : ∃ f, fs = [f] := by
                match fs, h' with
                | [f], _ => exact ⟨f, rfl⟩
              simp [h]
          have Hfin := Lib.hid hfin
          clear hfin
          go_wp2
          go_loopw [3, 6] (fun bv n wr => ∃ (i : Nat), n = .int .i64 i ∧ i ≤ fs.length ∧ St [] w wr [.own 5 1 (bv) (sPre fb sup ++ sMid ck fs ++ (fs.take i).flatMap pField).length ((sPre fb sup ++ sMid ck fs ++ (fs.take i).flatMap pField).map B), .loc wo.heap.size [.int .i64 ck, .slice pa ps.length pc, .slice ra rs.length rc, .slice fa fs.length fc] 58]) (fun _ n _ => fs.length - (intOf n).toNat)
          case atStart => exact ⟨0, rfl, by omega, by rw [show sPre fb sup ++ sMid ck fs ++ (fs.take 0).flatMap pField = sPre fb sup ++ sMid ck fs by simp]; exact hS⟩
          case round =>
            clear hS
            obtain ⟨i, rfl, hi, hS⟩ := hrel
            (try clear hQ); have hQ := St.facts hS; simp only [Facts, Res.fact, List.cons_append, List.nil_append, true_and, and_true] at hQ
            by_cases hlt : i < fs.length
            · obtain ⟨x, hx⟩ : ∃ t, fs[i]? = some t := ⟨fs[i], by simp [hlt]⟩
              obtain ⟨b1, o1, p1, hv1, hb1, _, hd1⟩ := Sl.elem (hS.sl hs4) (fun _ => rfl) i x hx
              injection hv1 with e1 _ e1c
              subst e1 e1c
              have f10 := hd1 0 (by decide)
              have f11 := hd1 1 (by decide)
              have f12 := hd1 2 (by decide)
              have f13 := hd1 3 (by decide)
              have f14 := hd1 4 (by decide)
              have f15 := hd1 5 (by decide)
              clear hd1
              have hpx := List.all_eq_true.1 H4.out x (List.mem_of_getElem? hx)
              have hpre := flat_len pField 16 (fs.take i) (fun t ht => pField_len t (plainField_ok (List.all_eq_true.1 H4.out t (List.mem_of_mem_take ht))))
              have htl : (fs.take i).length ≤ fs.length := by simp; omega
              have hyx : sPre fb sup ++ sMid ck fs ++ (fs.take (i + 1)).flatMap pField = (sPre fb sup ++ sMid ck fs ++ (fs.take i).flatMap pField) ++ pField x := by
                rw [take_one fs i x hx]
                simp
              obtain ⟨p, ⟨k, nl, ⟨hk, hn⟩⟩, m⟩ := x
              simp only [Nat.add_zero, ← Nat.add_assoc, fieldC, List.getElem?_cons_zero, List.getElem?_cons_succ] at f10 f11 f12 f13 f14 f15
              have i1 : (i : Int) < (fs.length : Int) := by omega
              have hpv := field_val hpx
              have hvl := pVal_len _ (plainVal_ok hpv)
              rw [pField_at] at hyx
              have Hyx := Lib.hid hyx
              have HPV := Lib.hid hpv
              clear hx hpx hyx hpv
              go_upto_if 111 with first | (at_builtin; refine st_app rfl rfl rfl rfl ?_; (repeat (apply Exists.intro)); refine ⟨?_, ?_, ?_, ?_, ?_⟩; (· (repeat (first | (with_reducible assumption) | (with_reducible apply St.alloc) | (with_reducible apply St.drew) | (with_reducible apply St.drewN) | (with_reducible apply St.alloc')))); (· (try simp only [World.size_alloc, World.size_setCell, size_drew, size_drewN]); first | (apply Dst.own; ((try simp only [World.size_alloc, World.size_setCell, size_drew, size_drewN]); repeat (first | (exact Pick.here) | (with_reducible apply Pick.there))); done) | (apply Dst.lit; (· ((try simp only [World.size_alloc, World.size_setCell, size_drew, size_drewN]); repeat (first | (exact Pick.here) | (with_reducible apply Pick.there)))); (· omega)) | (apply Dst.nil; rfl)); (· (try simp only [World.size_alloc, World.size_setCell, size_drew, size_drewN]); first | (apply SrcOf.own; ((try simp only [World.size_alloc, World.size_setCell, size_drew, size_drewN]); repeat (first | (exact Pick.here) | (with_reducible apply Pick.there))); done) | (apply SrcOf.lit; (· ((try simp only [World.size_alloc, World.size_setCell, size_drew, size_drewN]); repeat (first | (exact Pick.here) | (with_reducible apply Pick.there)))); (· omega)) | (apply SrcOf.arg; assumption)); (· (first | (simp only [List.length_append, List.length_cons, List.length_nil, List.length_map]; done) | (simp only [List.length_append, List.length_cons, List.length_nil, List.length_map]; omega) | omega)); intro vN wN hS; (try clear hQ); have hQ := St.facts hS; simp only [Facts, Res.fact, List.cons_append, List.nil_append, true_and, and_true] at hQ) | (go_at_call 30; (with_reducible refine (rPutVal _ ⟨k, nl, ⟨hk, hn⟩⟩ HPV.out).mono ?_); rintro e w4 ⟨v4, rfl, s4⟩; refine st_go s4 ?_; (repeat (apply Exists.intro)); refine ⟨?_, ?_⟩; (· (repeat (first | (with_reducible assumption) | (with_reducible apply St.alloc) | (with_reducible apply St.drew) | (with_reducible apply St.drewN) | (with_reducible apply St.alloc')))); (try simp only [World.size_alloc, World.size_setCell, size_drew, size_drewN]); intro hS; simp only [List.cons_append, List.nil_append] at hS; (try clear hQ); have hQ := St.facts hS; simp only [Facts, Res.fact, List.cons_append, List.nil_append, true_and, and_true] at hQ)
              all_goals
                cases m
                all_goals
                  go_wp2_with (at_builtin; refine st_app rfl rfl rfl rfl ?_; (repeat (apply Exists.intro)); refine ⟨?_, ?_, ?_, ?_, ?_⟩; (· (repeat (first | (with_reducible assumption) | (with_reducible apply St.alloc) | (with_reducible apply St.drew) | (with_reducible apply St.drewN) | (with_reducible apply St.alloc')))); (· (try simp only [World.size_alloc, World.size_setCell, size_drew, size_drewN]); first | (apply Dst.own; ((try simp only [World.size_alloc, World.size_setCell, size_drew, size_drewN]); repeat (first | (exact Pick.here) | (with_reducible apply Pick.there))); done) | (apply Dst.lit; (· ((try simp only [World.size_alloc, World.size_setCell, size_drew, size_drewN]); repeat (first | (exact Pick.here) | (with_reducible apply Pick.there)))); (· omega)) | (apply Dst.nil; rfl)); (· (try simp only [World.size_alloc, World.size_setCell, size_drew, size_drewN]); first | (apply SrcOf.own; ((try simp only [World.size_alloc, World.size_setCell, size_drew, size_drewN]); repeat (first | (exact Pick.here) | (with_reducible apply Pick.there))); done) | (apply SrcOf.lit; (· ((try simp only [World.size_alloc, World.size_setCell, size_drew, size_drewN]); repeat (first | (exact Pick.here) | (with_reducible apply Pick.there)))); (· omega)) | (apply SrcOf.arg; assumption)); (· (first | (simp only [List.length_append, List.length_cons, List.length_nil, List.length_map]; done) | (simp only [List.length_append, List.length_cons, List.length_nil, List.length_map]; omega) | omega)); intro vN wN hS; (try clear hQ); have hQ := St.facts hS; simp only [Facts, Res.fact, List.cons_append, List.nil_append, true_and, and_true] at hQ)
                  go_roundw
                  case rel =>
                    refine ⟨i + 1, by go_num, by omega, ?_⟩
                    apply St.eqv
                    · apply St.sel hS
                      ((try simp only [World.size_alloc, World.size_setCell, size_drew, size_drewN]); repeat (first | (exact Sel.all) | (exact Sel.nil) | (apply Sel.cons; (· ((try simp only [World.size_alloc, World.size_setCell, size_drew, size_drewN]); repeat (first | (exact Pick.here) | (with_reducible apply Pick.there)))))))
                    · first
                        | (rw [Hyx.out, if_pos (eq_of_beqI (by assumption))]; simp; done)
                        | (rw [Hyx.out, if_neg (ne_of_beqI (by assumption)), if_pos (eq_of_beqI (by assumption))]; simp; done)
                        | (rw [Hyx.out, if_neg (ne_of_beqI (by assumption)), if_neg (ne_of_beqI (by assumption))]; simp; done)
                  case measure => simp [intOf]; omega
            · have hk : i = fs.length := by omega
              subst hk
              have i1 : ¬ (fs.length : Int) < (fs.length : Int) := by omega
              go_wp2
              go_ret
              rw [List.take_length] at hS
              rw [Hfin.out]
              exact ⟨_, rfl, hS.sel (by ((try simp only [World.size_alloc, World.size_setCell, size_drew, size_drewN]); repeat (first | (exact Sel.all) | (exact Sel.nil) | (apply Sel.cons; (· ((try simp only [World.size_alloc, World.size_setCell, size_drew, size_drewN]); repeat (first | (exact Pick.here) | (with_reducible apply Pick.there))))))))⟩
end Go.Proofs.YtokneepfknepaaaDoor
