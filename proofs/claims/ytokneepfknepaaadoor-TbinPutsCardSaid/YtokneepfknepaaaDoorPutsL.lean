/- The walk of the law TbinPuts. -/
import Derived.Test.YtokneepfknepaaaDoorRefR
import Derived.Test.YtokneepfknepaaaDoorCutL
set_option linter.unusedSimpArgs false
set_option linter.unusedVariables false
namespace Go.Proofs.YtokneepfknepaaaDoor
open Go.RowKit


theorem pPutHeap {w : World} (h : HeapT) (hg : Gl [] w) (hk : h.ok) : Calls Tryd.prog 33 #[.agg #[.int .i64 h.kind, .int .i64 h.n]] w fun e w' => ∃ v', e = .returned v' ∧ St [] w w' [.own 5 1 (v') (heapB h).length ((heapB h).map B)] :=
  (PutHeap_any hg h hk).mono fun e w' ⟨v, h1, h2, h3, h4⟩ => ⟨v, h1, St.ofOut h2 h3 h4⟩
theorem pPutVal {w : World} (t : ValT) (hg : Gl [] w) (hk : t.heap.ok) : Calls Tryd.prog 34 #[.agg #[.int .i64 t.kind, .bool t.null, .int .i64 t.heap.kind, .int .i64 t.heap.n]] w fun e w' => ∃ v', e = .returned v' ∧ St [] w w' [.own 5 1 (v') (valB t).length ((valB t).map B)] :=
  (PutVal_any hg t hk).mono fun e w' ⟨v, h1, h2, h3, h4⟩ => ⟨v, h1, St.ofOut h2 h3 h4⟩
theorem pPutRec {w : World} (sv : Value) (ts : List SubT) (cs : List Value) (hg : Gl [] w) (h : Sl [] w 6 sv ts.length cs) (hs : SubsR [] w ts cs) (hl : ∀ t, t ∈ ts → t.len ≤ 65536) (hn : ts.length ≤ 65536) :
    Calls Tryd.prog 26 #[sv] w fun e w' => ∃ v', e = .returned v' ∧ St [] w w' [.own 5 1 (v') (pRec ts).length ((pRec ts).map B)] :=
  (PutRec_any hg sv ts cs h hs hl hn).mono fun e w' ⟨v, h1, h2, h3, h4⟩ => ⟨v, h1, St.ofOut h2 h3 h4⟩
theorem rPutHeap (w : World) (h : HeapT) (hp : refH h = true) : Calls Tryd.prog 29 #[.agg #[.int .i64 h.kind, .int .i64 h.n]] w fun e w' => ∃ v', e = .returned v' ∧ St [] w w' [.own 5 1 (v') (pHeap h).length ((pHeap h).map B)] :=
  (refPutHeap_any w h hp).mono fun e w' ⟨v, h1, h2, h3, h4⟩ => ⟨v, h1, St.ofOut h2 h3 h4⟩
theorem qVal (w : World) (t : ValT) : Calls Tryd.prog 28 #[.agg #[.int .i64 t.kind, .bool t.null, .int .i64 t.heap.kind, .int .i64 t.heap.n]] w fun e w' => ∃ b, e = .returned (.bool b) ∧ Hid (plainVal t = b) ∧ St [] w w' [] :=
  (refVal_any w t).mono fun e w' ⟨h1, h2⟩ => ⟨_, h1, Lib.hid rfl, (St.start [] w).step0 h2⟩
theorem qVals (w : World) (v : Value) (ts : List ValT) (h : Sl [] w 4 v ts.length (ts.flatMap valC)) (hl : ts.length ≤ 1099511627776) : Calls Tryd.prog 31 #[v] w fun e w' => ∃ b, e = .returned (.bool b) ∧ Hid (ts.all plainVal = b) ∧ St [] w w' [] :=
  (refVals_any w v ts h hl).mono fun e w' ⟨h1, h2⟩ => ⟨_, h1, Lib.hid rfl, (St.start [] w).step0 h2⟩
theorem refH_plain (n : Bool) (h : HeapT) : plainVal ⟨3, n, h⟩ = refH h := by obtain ⟨k, m⟩ := h; rw [plainVal_ref]; simp

theorem und_string : Tryd.prog.underlying 9 = some .string := by kernel_rfl
theorem und_byte : Tryd.prog.underlying 5 = some (.int .u8) := by kernel_rfl
/-- Bytes as a string. -/
theorem Out.conv {w : World} {v : Value} {X : List UInt8} (h : Out w v X) : (convert 26 9 v).run Tryd.prog w = .ok (.string ⟨X.toArray⟩) w := by
  obtain ⟨h1, h2, h3⟩ := h
  rcases h3 with ⟨rfl, h0⟩ | ⟨g, cap, cur, rfl, hg, hh, h4, h5, h6, h7⟩
  · have : X = [] := List.length_eq_zero_iff.1 h0
    subst this
    rw [run_convert_bytes_string w _ _ _ _ _ _ und_bytes und_byte und_string]
    rfl
  · refine run_convert_bytes_back w _ _ _ ⟨g, 0, none⟩ cap X und_bytes und_byte und_string (fun j hj => ?_)
    have hadd : (⟨g, 0, none⟩ : Addr).add j = ⟨g, j, none⟩ := by unfold Addr.add; split <;> simp_all
    rw [hadd, cell_of_row w g j cur _ (0, 0) hh]
    have h8 := congrArg (fun l => l[j]?) h7
    simp only [List.getElem?_take, List.getElem?_map] at h8
    rw [if_pos (by omega)] at h8
    simp only [Array.getElem?_toList] at h8
    rw [h8, List.getElem?_eq_getElem hj]
    rfl
theorem St.conv {S : List Nat} {w0 w : World} {G G' : List Res} {v : Value} {X : List UInt8} (h : St S w0 w G) (p : Pick G (.own 5 1 (v) (X).length ((X).map B)) G') : (convert 26 9 v).run Tryd.prog w = .ok (.string ⟨X.toArray⟩) w :=
  Out.conv (h.outOf p)

set_option maxRecDepth 100000 in
set_option maxHeartbeats 12800000 in
theorem tbinPuts_any {w : World} (hg : Gl [] w) (hp : HeapT) (hpok : hp.ok) (t : ValT) (tok : t.heap.ok) (lv : Value) (l : List ValT) (hl : Sl [] w 4 lv l.length (l.flatMap valC)) (lok : ∀ x, x ∈ l → x.heap.ok)
    (gv : Value) (ts : List SubT) (cs : List Value) (h : Sl [] w 6 gv ts.length cs) (hs : SubsR [] w ts cs) :
    Calls Tryd.prog 5 #[.agg #[.int .i64 hp.kind, .int .i64 hp.n], .agg #[.int .i64 t.kind, .bool t.null, .int .i64 t.heap.kind, .int .i64 t.heap.n], lv, gv] w fun e w' => e = .returned (.bool true) ∧ Fr [] w w' := by
  have hh := h
  have hl0 := hl
  have hmax := h.2.2
  have hmax2 := hl.2.2
  obtain ⟨a, cap, rfl, hcap, hcm, _⟩ := hmax
  obtain ⟨la, lc, rfl, hcap2, hcm2, _⟩ := hmax2
  unfold maxLen at hcm hcm2
  have hnn : ts.length ≤ 9223372036854775807 := by omega
  have hnl : l.length ≤ 9223372036854775807 := by omega
  clear hcap hcm hcap2 hcm2
  rename_i hj1 hj2
  clear hj1 hj2
  have hS0 := St.start [] w
  have Lok := Lib.hid lok
  clear lok
  by_cases q1 : l.length ≤ 60 ∧ ts.length ≤ 30
  · obtain ⟨q1, q2⟩ := q1
    have g60 : ¬ (60 : Int) < (l.length : Int) := by omega
    have g30 : ¬ (30 : Int) < (ts.length : Int) := by omega
    go_enter Tryd.func5, Tryd.ntmps5
    go_wp2_with (go_at_call 25; refine (known6 ?_).mono ?_; (· apply St.gl (hs := hg); (repeat (first | (with_reducible assumption) | (with_reducible apply St.alloc) | (with_reducible apply St.drew) | (with_reducible apply St.drewN) | (with_reducible apply St.alloc')))); rintro e w1 ⟨rfl, hF1⟩; have hS := ((hS0.alloc [.int .i64 hp.kind, .int .i64 hp.n] 40).alloc [.int .i64 t.kind, .bool t.null, .int .i64 t.heap.kind, .int .i64 t.heap.n] 44).step0 hF1; simp only [World.size_alloc] at hS; (try clear hQ); have hQ := St.facts hS; simp only [Facts, Res.fact, List.cons_append, List.nil_append, true_and, and_true] at hQ)
    clear hF1
    go_loopw [9] (fun n wr => ∃ (i : Nat), n = .int .i64 i ∧ i ≤ ts.length ∧ wr = w1 ∧ Hid (∀ t, t ∈ ts.take i → t.small)) (fun n _ => ts.length - (intOf n).toNat)
    case atStart => exact ⟨0, rfl, by omega, rfl, fun t ht => by simp at ht⟩
    case round =>
      obtain ⟨i, rfl, hi, rfl, hall⟩ := hrel
      by_cases hlt : i < ts.length
      · obtain ⟨x, hx⟩ : ∃ t, ts[i]? = some t := ⟨ts[i], by simp [hlt]⟩
        obtain ⟨b, off, cap2, hv, pv, rv, fv, hve, hb, hnS, hsr, hc⟩ := Sl.sub_elem (hS.sl hh) (SubsR.fr hS.fr (by simp) hs) i x hx
        injection hve with hv1 hv2 hv3
        subst hv1 hv3
        have e1 := hc 1 (by decide)
        have e3 := hc 3 (by decide)
        have e4 := hc 4 (by decide)
        have e5 := hc 5 (by decide)
        simp only [← Nat.add_assoc, subC, List.getElem?_cons_zero, List.getElem?_cons_succ] at e1 e3 e4 e5
        obtain ⟨ha, hc, rfl⟩ := hsr.1.shape
        obtain ⟨pa, pc, rfl⟩ := hsr.2.1.shape
        obtain ⟨ra, rc, rfl⟩ := hsr.2.2.1.shape
        obtain ⟨fa, fc, rfl⟩ := hsr.2.2.2.shape
        have hlti : (i : Int) < (ts.length : Int) := by omega
        go_wp2
        all_goals first
          | (go_ret; exact ⟨rfl, hS.fr⟩)
          | (go_roundw
             case rel =>
               refine ⟨i + 1, by go_num, by omega, trivial, Lib.hid fun u hu => ?_⟩
               rw [take_one ts i x hx] at hu
               rcases List.mem_append.1 hu with hu | hu
               · exact hall.out u hu
               · rw [List.mem_singleton.1 hu]
                 unfold SubT.small
                 omega
             case measure => simp [intOf]; omega)
      · have hk : i = ts.length := by omega
        subst hk
        have hsm : ∀ t, t ∈ ts → t.small := by simpa using hall.out
        have hlS : ∀ t, t ∈ ts → t.len ≤ 65536 := fun t ht => by
          have := hsm t ht
          unfold SubT.small at this
          unfold SubT.len
          omega
        have HL := Lib.hid hlS
        clear hsm hall hlS
        have hlt2 : ¬ (ts.length : Int) < (ts.length : Int) := by omega
        go_upto_if 68 with (go_at_call 28; (with_reducible refine (qVal _ ⟨3, false, hp⟩).mono ?_); rintro e w2 ⟨bh, rfl, hbh, s2⟩; refine st_go s2 ?_; (repeat (apply Exists.intro)); refine ⟨?_, ?_⟩; (· (repeat (first | (with_reducible assumption) | (with_reducible apply St.alloc) | (with_reducible apply St.drew) | (with_reducible apply St.drewN) | (with_reducible apply St.alloc')))); (try simp only [World.size_alloc, World.size_setCell, size_drew, size_drewN]); intro hS; simp only [List.cons_append, List.nil_append] at hS; (try clear hQ); have hQ := St.facts hS; simp only [Facts, Res.fact, List.cons_append, List.nil_append, true_and, and_true] at hQ)
        go_cut [10] (fun s wx => St [] w wx [.own 5 1 (s) (heapB hp).length ((heapB hp).map B), .loc (w.heap.size + 1) [.int .i64 t.kind, .bool t.null, .int .i64 t.heap.kind, .int .i64 t.heap.n] 44, .loc w.heap.size [.int .i64 hp.kind, .int .i64 hp.n] 40])
        case first =>
          go_wp2_with (go_at_call 29; (with_reducible refine (rPutHeap _ hp ?_).mono ?_); (· rw [← refH_plain false, hbh.out]; assumption); rintro e w3 ⟨v3, rfl, s3⟩; refine st_go s3 ?_; (repeat (apply Exists.intro)); refine ⟨?_, ?_⟩; (· (repeat (first | (with_reducible assumption) | (with_reducible apply St.alloc) | (with_reducible apply St.drew) | (with_reducible apply St.drewN) | (with_reducible apply St.alloc')))); (try simp only [World.size_alloc, World.size_setCell, size_drew, size_drewN]); intro hS; simp only [List.cons_append, List.nil_append] at hS; (try clear hQ); have hQ := St.facts hS; simp only [Facts, Res.fact, List.cons_append, List.nil_append, true_and, and_true] at hQ)
          · go_meet
            rw [heapB_yes (by rw [hbh.out]; assumption)]
            exact hS.sel (by ((try simp only [World.size_alloc, World.size_setCell, size_drew, size_drewN]); repeat (first | (exact Sel.all) | (exact Sel.nil) | (apply Sel.cons; (· ((try simp only [World.size_alloc, World.size_setCell, size_drew, size_drewN]); repeat (first | (exact Pick.here) | (with_reducible apply Pick.there))))))))
          · go_meet
            rw [heapB_no (by rw [hbh.out]; assumption)]
            refine St.sel ((hS.dst (Dst.nil rfl))) (by ((try simp only [World.size_alloc, World.size_setCell, size_drew, size_drewN]); repeat (first | (exact Sel.all) | (exact Sel.nil) | (apply Sel.cons; (· ((try simp only [World.size_alloc, World.size_setCell, size_drew, size_drewN]); repeat (first | (exact Pick.here) | (with_reducible apply Pick.there))))))))
        case rest =>
          clear hS
          have hS := hcut
          clear hcut
          (try clear hQ); have hQ := St.facts hS; simp only [Facts, Res.fact, List.cons_append, List.nil_append, true_and, and_true] at hQ
          go_upto_if 72 with (go_at_call 28; (with_reducible refine (qVal _ t).mono ?_); rintro e w2 ⟨bv, rfl, hbv, s2⟩; refine st_go s2 ?_; (repeat (apply Exists.intro)); refine ⟨?_, ?_⟩; (· (repeat (first | (with_reducible assumption) | (with_reducible apply St.alloc) | (with_reducible apply St.drew) | (with_reducible apply St.drewN) | (with_reducible apply St.alloc')))); (try simp only [World.size_alloc, World.size_setCell, size_drew, size_drewN]); intro hS; simp only [List.cons_append, List.nil_append] at hS; (try clear hQ); have hQ := St.facts hS; simp only [Facts, Res.fact, List.cons_append, List.nil_append, true_and, and_true] at hQ)
          go_cut [11] (fun s wx => St [] w wx [.own 5 1 (s) (valB t).length ((valB t).map B), .own 5 1 u10 (heapB hp).length ((heapB hp).map B), .loc (w.heap.size + 1) [.int .i64 t.kind, .bool t.null, .int .i64 t.heap.kind, .int .i64 t.heap.n] 44, .loc w.heap.size [.int .i64 hp.kind, .int .i64 hp.n] 40])
          case first =>
            go_wp2_with (go_at_call 30; (with_reducible refine (rPutVal _ t ?_).mono ?_); (· rw [hbv.out]; assumption); rintro e w3 ⟨v3, rfl, s3⟩; refine st_go s3 ?_; (repeat (apply Exists.intro)); refine ⟨?_, ?_⟩; (· (repeat (first | (with_reducible assumption) | (with_reducible apply St.alloc) | (with_reducible apply St.drew) | (with_reducible apply St.drewN) | (with_reducible apply St.alloc')))); (try simp only [World.size_alloc, World.size_setCell, size_drew, size_drewN]); intro hS; simp only [List.cons_append, List.nil_append] at hS; (try clear hQ); have hQ := St.facts hS; simp only [Facts, Res.fact, List.cons_append, List.nil_append, true_and, and_true] at hQ)
            · go_meet
              rw [valB_yes (by rw [hbv.out]; assumption)]
              exact hS.sel (by ((try simp only [World.size_alloc, World.size_setCell, size_drew, size_drewN]); repeat (first | (exact Sel.all) | (exact Sel.nil) | (apply Sel.cons; (· ((try simp only [World.size_alloc, World.size_setCell, size_drew, size_drewN]); repeat (first | (exact Pick.here) | (with_reducible apply Pick.there))))))))
            · go_meet
              rw [valB_no (by rw [hbv.out]; assumption)]
              refine St.sel ((hS.dst (Dst.nil rfl))) (by ((try simp only [World.size_alloc, World.size_setCell, size_drew, size_drewN]); repeat (first | (exact Sel.all) | (exact Sel.nil) | (apply Sel.cons; (· ((try simp only [World.size_alloc, World.size_setCell, size_drew, size_drewN]); repeat (first | (exact Pick.here) | (with_reducible apply Pick.there))))))))
          case rest =>
            clear hS
            have hS := hcut
            clear hcut
            (try clear hQ); have hQ := St.facts hS; simp only [Facts, Res.fact, List.cons_append, List.nil_append, true_and, and_true] at hQ
            go_upto_if 76 with (go_at_call 31; (with_reducible refine (qVals _ _ l ?_ (by omega)).mono ?_); (· (apply St.sl (hs := hl0); (repeat (first | (with_reducible assumption) | (with_reducible apply St.alloc) | (with_reducible apply St.drew) | (with_reducible apply St.drewN) | (with_reducible apply St.alloc'))))); rintro e w2 ⟨bl, rfl, hbl, s2⟩; refine st_go s2 ?_; (repeat (apply Exists.intro)); refine ⟨?_, ?_⟩; (· (repeat (first | (with_reducible assumption) | (with_reducible apply St.alloc) | (with_reducible apply St.drew) | (with_reducible apply St.drewN) | (with_reducible apply St.alloc')))); (try simp only [World.size_alloc, World.size_setCell, size_drew, size_drewN]); intro hS; simp only [List.cons_append, List.nil_append] at hS; (try clear hQ); have hQ := St.facts hS; simp only [Facts, Res.fact, List.cons_append, List.nil_append, true_and, and_true] at hQ)
            go_cut [12] (fun s wx => St [] w wx [.own 5 1 (s) (valsB l).length ((valsB l).map B), .own 5 1 u11 (valB t).length ((valB t).map B), .own 5 1 u10 (heapB hp).length ((heapB hp).map B), .loc (w.heap.size + 1) [.int .i64 t.kind, .bool t.null, .int .i64 t.heap.kind, .int .i64 t.heap.n] 44, .loc w.heap.size [.int .i64 hp.kind, .int .i64 hp.n] 40])
            case first =>
              go_wp2_with (go_at_call 32; (with_reducible refine (rPutVals _ _ l ?_ (by omega) ?_).mono ?_); (· (apply St.sl (hs := hl0); (repeat (first | (with_reducible assumption) | (with_reducible apply St.alloc) | (with_reducible apply St.drew) | (with_reducible apply St.drewN) | (with_reducible apply St.alloc'))))); (· rw [hbl.out]; assumption); rintro e w3 ⟨v3, rfl, s3⟩; refine st_go s3 ?_; (repeat (apply Exists.intro)); refine ⟨?_, ?_⟩; (· (repeat (first | (with_reducible assumption) | (with_reducible apply St.alloc) | (with_reducible apply St.drew) | (with_reducible apply St.drewN) | (with_reducible apply St.alloc')))); (try simp only [World.size_alloc, World.size_setCell, size_drew, size_drewN]); intro hS; simp only [List.cons_append, List.nil_append] at hS; (try clear hQ); have hQ := St.facts hS; simp only [Facts, Res.fact, List.cons_append, List.nil_append, true_and, and_true] at hQ)
              · go_meet
                rw [valsB_yes (by rw [hbl.out]; assumption)]
                exact hS.sel (by ((try simp only [World.size_alloc, World.size_setCell, size_drew, size_drewN]); repeat (first | (exact Sel.all) | (exact Sel.nil) | (apply Sel.cons; (· ((try simp only [World.size_alloc, World.size_setCell, size_drew, size_drewN]); repeat (first | (exact Pick.here) | (with_reducible apply Pick.there))))))))
              · go_meet
                rw [valsB_no (by rw [hbl.out]; assumption)]
                refine St.sel ((hS.dst (Dst.nil rfl))) (by ((try simp only [World.size_alloc, World.size_setCell, size_drew, size_drewN]); repeat (first | (exact Sel.all) | (exact Sel.nil) | (apply Sel.cons; (· ((try simp only [World.size_alloc, World.size_setCell, size_drew, size_drewN]); repeat (first | (exact Pick.here) | (with_reducible apply Pick.there))))))))
            case rest =>
              clear hS
              have hS := hcut
              clear hcut
              (try clear hQ); have hQ := St.facts hS; simp only [Facts, Res.fact, List.cons_append, List.nil_append, true_and, and_true] at hQ
              go_wp2_with fail
              go_region_held (fun w' => w'.cell? ⟨w.heap.size, 0, none⟩ = some (.int .i64 hp.kind) ∧ w'.cell? ⟨w.heap.size, 1, none⟩ = some (.int .i64 hp.n) ∧ w'.cell? ⟨w.heap.size + 1, 0, none⟩ = some (.int .i64 t.kind) ∧ w'.cell? ⟨w.heap.size + 1, 1, none⟩ = some (.bool t.null) ∧ w'.cell? ⟨w.heap.size + 1, 2, none⟩ = some (.int .i64 t.heap.kind) ∧ w'.cell? ⟨w.heap.size + 1, 3, none⟩ = some (.int .i64 t.heap.n) ∧ (convert 26 9 u10).run Tryd.prog w' = .ok (.string ⟨(heapB hp).toArray⟩) w' ∧ (convert 26 9 u11).run Tryd.prog w' = .ok (.string ⟨(valB t).toArray⟩) w' ∧ (convert 26 9 u12).run Tryd.prog w' = .ok (.string ⟨(valsB l).toArray⟩) w')
                (first | (with_reducible assumption) | ((refine ⟨?_, ?_, ?_, ?_, ?_, ?_, ?_, ?_, ?_⟩); (· simp [hQ]); (· simp [hQ]); (· simp [hQ]); (· simp [hQ]); (· simp [hQ]); (· simp [hQ]); (· apply St.conv; (· (repeat (first | (with_reducible assumption) | (with_reducible apply St.alloc) | (with_reducible apply St.drew) | (with_reducible apply St.drewN) | (with_reducible apply St.alloc')))); (· ((try simp only [World.size_alloc, World.size_setCell, size_drew, size_drewN]); repeat (first | (exact Pick.here) | (with_reducible apply Pick.there))))); (· apply St.conv; (· (repeat (first | (with_reducible assumption) | (with_reducible apply St.alloc) | (with_reducible apply St.drew) | (with_reducible apply St.drewN) | (with_reducible apply St.alloc')))); (· ((try simp only [World.size_alloc, World.size_setCell, size_drew, size_drewN]); repeat (first | (exact Pick.here) | (with_reducible apply Pick.there))))); (· apply St.conv; (· (repeat (first | (with_reducible assumption) | (with_reducible apply St.alloc) | (with_reducible apply St.drew) | (with_reducible apply St.drewN) | (with_reducible apply St.alloc')))); (· ((try simp only [World.size_alloc, World.size_setCell, size_drew, size_drewN]); repeat (first | (exact Pick.here) | (with_reducible apply Pick.there)))))) | (go_keep; done))
                (first
                  | (go_at_call 33; (with_reducible refine (pPutHeap hp ?_ hpok).mono ?_); (· apply St.gl (hs := hg); (repeat (first | (with_reducible assumption) | (with_reducible apply St.alloc) | (with_reducible apply St.drew) | (with_reducible apply St.drewN) | (with_reducible apply St.alloc')))); rintro e w3 ⟨v3, rfl, s3⟩; refine st_go s3 ?_; (repeat (apply Exists.intro)); refine ⟨?_, ?_⟩; (· (repeat (first | (with_reducible assumption) | (with_reducible apply St.alloc) | (with_reducible apply St.drew) | (with_reducible apply St.drewN) | (with_reducible apply St.alloc')))); (try simp only [World.size_alloc, World.size_setCell, size_drew, size_drewN]); intro hS; simp only [List.cons_append, List.nil_append] at hS; (try clear hQ); have hQ := St.facts hS; simp only [Facts, Res.fact, List.cons_append, List.nil_append, true_and, and_true] at hQ; have k1 := hS.conv (v := v3) Pick.here)
                  | (go_at_call 34; (with_reducible refine (pPutVal t ?_ tok).mono ?_); (· apply St.gl (hs := hg); (repeat (first | (with_reducible assumption) | (with_reducible apply St.alloc) | (with_reducible apply St.drew) | (with_reducible apply St.drewN) | (with_reducible apply St.alloc')))); rintro e w3 ⟨v3, rfl, s3⟩; refine st_go s3 ?_; (repeat (apply Exists.intro)); refine ⟨?_, ?_⟩; (· (repeat (first | (with_reducible assumption) | (with_reducible apply St.alloc) | (with_reducible apply St.drew) | (with_reducible apply St.drewN) | (with_reducible apply St.alloc')))); (try simp only [World.size_alloc, World.size_setCell, size_drew, size_drewN]); intro hS; simp only [List.cons_append, List.nil_append] at hS; (try clear hQ); have hQ := St.facts hS; simp only [Facts, Res.fact, List.cons_append, List.nil_append, true_and, and_true] at hQ; have k3 := hS.conv (v := v3) Pick.here)
                  | (go_at_call 35; (with_reducible refine (PutVals_any ?_ _ l ?_ Lok.out (by omega)).mono ?_); (· apply St.gl (hs := hg); (repeat (first | (with_reducible assumption) | (with_reducible apply St.alloc) | (with_reducible apply St.drew) | (with_reducible apply St.drewN) | (with_reducible apply St.alloc')))); (· (apply St.sl (hs := hl0); (repeat (first | (with_reducible assumption) | (with_reducible apply St.alloc) | (with_reducible apply St.drew) | (with_reducible apply St.drewN) | (with_reducible apply St.alloc'))))); rintro e w3 ⟨v3, rfl, s3⟩; refine st_go s3 ?_; (repeat (apply Exists.intro)); refine ⟨?_, ?_⟩; (· (repeat (first | (with_reducible assumption) | (with_reducible apply St.alloc) | (with_reducible apply St.drew) | (with_reducible apply St.drewN) | (with_reducible apply St.alloc')))); (try simp only [World.size_alloc, World.size_setCell, size_drew, size_drewN]); intro hS; simp only [List.cons_append, List.nil_append] at hS; (try clear hQ); have hQ := St.facts hS; simp only [Facts, Res.fact, List.cons_append, List.nil_append, true_and, and_true] at hQ; have k5 := hS.conv (v := v3) Pick.here)
                  | (go_at_call 26; (with_reducible refine (pPutRec _ ts cs ?_ ?_ ?_ HL.out (by omega)).mono ?_); (· apply St.gl (hs := hg); (repeat (first | (with_reducible assumption) | (with_reducible apply St.alloc) | (with_reducible apply St.drew) | (with_reducible apply St.drewN) | (with_reducible apply St.alloc')))); (· (apply St.sl (hs := hh); (repeat (first | (with_reducible assumption) | (with_reducible apply St.alloc) | (with_reducible apply St.drew) | (with_reducible apply St.drewN) | (with_reducible apply St.alloc'))))); (· exact SubsR.fr hS.fr (by simp) hs); rintro e w3 ⟨v3, rfl, s3⟩; refine st_go s3 ?_; (repeat (apply Exists.intro)); refine ⟨?_, ?_⟩; (· (repeat (first | (with_reducible assumption) | (with_reducible apply St.alloc) | (with_reducible apply St.drew) | (with_reducible apply St.drewN) | (with_reducible apply St.alloc')))); (try simp only [World.size_alloc, World.size_setCell, size_drew, size_drewN]); intro hS; simp only [List.cons_append, List.nil_append] at hS; (try clear hQ); have hQ := St.facts hS; simp only [Facts, Res.fact, List.cons_append, List.nil_append, true_and, and_true] at hQ; have k7 := hS.conv (v := v3) Pick.here; have tokA : True := trivial)
                  | (go_at_call 36; (with_reducible refine (refPutRec_any _ _ ts cs ?_ ?_ HL.out (by omega)).mono ?_); (· (apply St.sl (hs := hh); (repeat (first | (with_reducible assumption) | (with_reducible apply St.alloc) | (with_reducible apply St.drew) | (with_reducible apply St.drewN) | (with_reducible apply St.alloc'))))); (· exact SubsR.fr hS.fr (by simp) hs); rintro e w4 ⟨v4, rfl, s4⟩; refine st_go s4 ?_; (repeat (apply Exists.intro)); refine ⟨?_, ?_⟩; (· (repeat (first | (with_reducible assumption) | (with_reducible apply St.alloc) | (with_reducible apply St.drew) | (with_reducible apply St.drewN) | (with_reducible apply St.alloc')))); (try simp only [World.size_alloc, World.size_setCell, size_drew, size_drewN]); intro hS; simp only [List.cons_append, List.nil_append] at hS; (try clear hQ); have hQ := St.facts hS; simp only [Facts, Res.fact, List.cons_append, List.nil_append, true_and, and_true] at hQ; have k8 := hS.conv (v := v4) Pick.here; try have k9 := hS.conv (v := v3) (by ((try simp only [World.size_alloc, World.size_setCell, size_drew, size_drewN]); repeat (first | (exact Pick.here) | (with_reducible apply Pick.there))))))
              all_goals
                go_wp2_with fail
                go_ret
                exact ⟨rfl, hS.fr⟩
  · have g : ((60 : Int) < (l.length : Int)) ∨ (¬ (60 : Int) < (l.length : Int) ∧ (30 : Int) < (ts.length : Int)) := by omega
    rcases g with g | ⟨g, g2⟩
    all_goals
      go_enter Tryd.func5, Tryd.ntmps5
      go_wp2_with (go_at_call 25; refine (known6 ?_).mono ?_; (· apply St.gl (hs := hg); (repeat (first | (with_reducible assumption) | (with_reducible apply St.alloc) | (with_reducible apply St.drew) | (with_reducible apply St.drewN) | (with_reducible apply St.alloc')))); rintro e w1 ⟨rfl, hF1⟩; have hS := ((hS0.alloc [.int .i64 hp.kind, .int .i64 hp.n] 40).alloc [.int .i64 t.kind, .bool t.null, .int .i64 t.heap.kind, .int .i64 t.heap.n] 44).step0 hF1)
      go_ret
      exact ⟨rfl, hS.fr⟩
end Go.Proofs.YtokneepfknepaaaDoor
