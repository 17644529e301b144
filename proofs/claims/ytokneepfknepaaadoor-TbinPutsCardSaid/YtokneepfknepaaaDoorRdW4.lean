/- The walks of layer 6, the fourth part: heap types and value types are read. -/
import Derived.Test.YtokneepfknepaaaDoorRdW3
import Derived.Test.YtokneepfknepaaaDoorTbinL2
set_option linter.unusedSimpArgs false
set_option linter.unusedVariables false
namespace Go.Proofs.YtokneepfknepaaaDoor
open Go.RowKit

def heapV (h : HeapT) : Value := .agg #[.int .i64 h.kind, .int .i64 h.n]
def valV (v : ValT) : Value := .agg #[.int .i64 v.kind, .bool v.null, .int .i64 v.heap.kind, .int .i64 v.heap.n]
attribute [go_sem] heapV valV

set_option maxRecDepth 100000 in
set_option maxHeartbeats 400000 in
theorem given_any {S : List Nat} {w : World} (hg : Gl S w) (c : Nat) (hc : c < 256) :
    Calls Tryd.prog 57 #[.int .u8 c] w fun e w' => e = .returned (.tuple #[heapV ⟨givenK c, 0⟩, .bool (decide (105 ≤ c ∧ c < 117))]) ∧ Fr [] w w' := by
  by_cases h1 : 105 ≤ c ∧ c < 117
  · have hcell := fun o : Obj => (World.cell?_alloc_lt w o ⟨0, c - 105, none⟩ hg.lt).trans (hg.cell (c - 105) (by omega))
    have hk : givenK c = heapsL.getD (c - 105) 0 := by unfold givenK; rw [if_neg (by omega)]
    have hd : decide (105 ≤ c ∧ c < 117) = true := by simpa using h1
    rw [hd, hk]
    generalize heapsL.getD (c - 105) 0 = k at hcell ⊢
    have hi : ((c : Int) - 105).toNat = c - 105 := by omega
    clear hk hd
    obtain ⟨h1a, h1b⟩ := h1
    go_enter Tryd.func57, Tryd.ntmps57
    go_wp2
    refine bodyPost_ret (v := .tuple #[heapV ⟨k, 0⟩, .bool true]) (by simp [results, Tryd.results57, go_sem]) rfl ⟨rfl, ?_⟩
    repeat (first | (with_reducible exact Fr.refl _ _) | (with_reducible assumption) | (with_reducible apply Fr.alloc) | (with_reducible apply Fr.drew) | (with_reducible apply Fr.drewN) | (with_reducible refine Fr.setCell ?_ (by first | (left; simp; done) | (right; simp; done) | (right; simp; omega)) _))
  · have hk : givenK c = 0 := by unfold givenK; rw [if_pos (by omega)]
    have hd : decide (105 ≤ c ∧ c < 117) = false := by simpa using h1
    rw [hd, hk]
    clear hk hd
    go_enter Tryd.func57, Tryd.ntmps57
    go_wp2
    all_goals
      refine bodyPost_ret (v := .tuple #[heapV ⟨0, 0⟩, .bool false]) (by simp [results, Tryd.results57, go_sem]) rfl ⟨rfl, ?_⟩
      repeat (first | (with_reducible exact Fr.refl _ _) | (with_reducible assumption) | (with_reducible apply Fr.alloc) | (with_reducible apply Fr.drew) | (with_reducible apply Fr.drewN) | (with_reducible refine Fr.setCell ?_ (by first | (left; simp; done) | (right; simp; done) | (right; simp; omega)) _))

set_option maxRecDepth 100000 in
set_option maxHeartbeats 400000 in
theorem told_heap {S : List Nat} {w : World} {rb : Nat} {bv : Value} {bs : List UInt8} {s : RdS} (h : Rd S w rb bv bs s) (x : HeapT) :
    Calls Tryd.prog 58 #[.pointer (some ⟨rb, 0, none⟩), heapV x] w fun e w' => e = .returned (heapV (s.told HeapT.zero x)) ∧ Fr [] w w' := by
  have hR := fun o1 o2 => (h.alloc o1).alloc o2
  by_cases he : s.err = 0
  · have g1 : (s.err == 0) = true := by simp [he]
    have ht : s.told HeapT.zero x = x := by simp [RdS.told, he]
    rw [ht]
    unfold heapV
    clear ht he
    go_enter Tryd.func58, Tryd.ntmps58
    go_wp2_with (go_at_call 45; refine (rd_reads (hR _ _)).mono ?_; rintro e w' ⟨rfl, rfl⟩)
    refine bodyPost_ret (v := heapV x) (by simp [results, Tryd.results58, go_sem]) rfl ⟨rfl, ?_⟩
    repeat (first | (with_reducible exact Fr.refl _ _) | (with_reducible assumption) | (with_reducible apply Fr.alloc) | (with_reducible apply Fr.drew) | (with_reducible apply Fr.drewN) | (with_reducible refine Fr.setCell ?_ (by first | (left; simp; done) | (right; simp; done) | (right; simp; omega)) _))
  · have g1 : (s.err == 0) = false := by simp [he]
    have ht : s.told HeapT.zero x = HeapT.zero := by simp [RdS.told, he]
    rw [ht]
    unfold heapV
    clear ht he
    go_enter Tryd.func58, Tryd.ntmps58
    go_wp2_with (go_at_call 45; refine (rd_reads (hR _ _)).mono ?_; rintro e w' ⟨rfl, rfl⟩)
    refine bodyPost_ret (v := heapV HeapT.zero) (by simp [results, Tryd.results58, go_sem, HeapT.zero]) rfl ⟨rfl, ?_⟩
    repeat (first | (with_reducible exact Fr.refl _ _) | (with_reducible assumption) | (with_reducible apply Fr.alloc) | (with_reducible apply Fr.drew) | (with_reducible apply Fr.drewN) | (with_reducible refine Fr.setCell ?_ (by first | (left; simp; done) | (right; simp; done) | (right; simp; omega)) _))

set_option maxRecDepth 100000 in
set_option maxHeartbeats 400000 in
theorem told_val {S : List Nat} {w : World} {rb : Nat} {bv : Value} {bs : List UInt8} {s : RdS} (h : Rd S w rb bv bs s) (x : ValT) :
    Calls Tryd.prog 59 #[.pointer (some ⟨rb, 0, none⟩), valV x] w fun e w' => e = .returned (valV (s.told ValT.zero x)) ∧ Fr [] w w' := by
  have hR := fun o1 o2 => (h.alloc o1).alloc o2
  by_cases he : s.err = 0
  · have g1 : (s.err == 0) = true := by simp [he]
    have ht : s.told ValT.zero x = x := by simp [RdS.told, he]
    rw [ht]
    unfold valV
    clear ht he
    go_enter Tryd.func59, Tryd.ntmps59
    go_wp2_with (go_at_call 45; refine (rd_reads (hR _ _)).mono ?_; rintro e w' ⟨rfl, rfl⟩)
    refine bodyPost_ret (v := valV x) (by simp [results, Tryd.results59, go_sem]) rfl ⟨rfl, ?_⟩
    repeat (first | (with_reducible exact Fr.refl _ _) | (with_reducible assumption) | (with_reducible apply Fr.alloc) | (with_reducible apply Fr.drew) | (with_reducible apply Fr.drewN) | (with_reducible refine Fr.setCell ?_ (by first | (left; simp; done) | (right; simp; done) | (right; simp; omega)) _))
  · have g1 : (s.err == 0) = false := by simp [he]
    have ht : s.told ValT.zero x = ValT.zero := by simp [RdS.told, he]
    rw [ht]
    unfold valV
    clear ht he
    go_enter Tryd.func59, Tryd.ntmps59
    go_wp2_with (go_at_call 45; refine (rd_reads (hR _ _)).mono ?_; rintro e w' ⟨rfl, rfl⟩)
    refine bodyPost_ret (v := valV ValT.zero) (by simp [results, Tryd.results59, go_sem, ValT.zero]) rfl ⟨rfl, ?_⟩
    repeat (first | (with_reducible exact Fr.refl _ _) | (with_reducible assumption) | (with_reducible apply Fr.alloc) | (with_reducible apply Fr.drew) | (with_reducible apply Fr.drewN) | (with_reducible refine Fr.setCell ?_ (by first | (left; simp; done) | (right; simp; done) | (right; simp; omega)) _))


theorem rPeek_lt (bs : List UInt8) (s : RdS) : rPeek bs s < 256 := by
  unfold rPeek
  split
  · exact (bs.getD s.at_ 0).toNat_lt
  · decide
theorem given_iff (c : Nat) : decide (105 ≤ c ∧ c < 117) = !(givenK c == 0) := by
  by_cases h : 105 ≤ c ∧ c < 117
  · have : c = 105 ∨ c = 106 ∨ c = 107 ∨ c = 108 ∨ c = 109 ∨ c = 110 ∨ c = 111 ∨ c = 112 ∨ c = 113 ∨ c = 114 ∨ c = 115 ∨ c = 116 := by omega
    rcases this with rfl | rfl | rfl | rfl | rfl | rfl | rfl | rfl | rfl | rfl | rfl | rfl <;> decide
  · have : givenK c = 0 := by unfold givenK; rw [if_pos (by omega)]
    rw [this]; simpa using h
theorem rd_setAt {S : List Nat} {w : World} {rb : Nat} {bv : Value} {bs : List UInt8} {s : RdS} (h : Rd S w rb bv bs s) (n : Nat) (hn : n ≤ bs.length) : Rd S (w.setCell ⟨rb, 0, none⟩ (.int .i64 n)) rb bv bs { s with at_ := n } :=
  h.step ((Fr.refl _ _).setCell (by simp) _) (h.loc.set 0 _) hn

theorem rd_next {S : List Nat} {w : World} {rb : Nat} {bv : Value} {bs : List UInt8} {s : RdS} (h : Rd S w rb bv bs s) (hn : s.at_ < bs.length) : Rd S (w.setCell ⟨rb, 0, none⟩ (.int .i64 ((s.at_ : Int) + 1))) rb bv bs s.next :=
  rd_setAt h (s.at_ + 1) hn

set_option maxRecDepth 100000 in
set_option maxHeartbeats 1600000 in
theorem rd_heap {S : List Nat} {w : World} {rb : Nat} {bv : Value} {bs : List UInt8} {s : RdS} (h : Rd S w rb bv bs s) :
    Calls Tryd.prog 18 #[.pointer (some ⟨rb, 0, none⟩)] w fun e w' => e = .returned (heapV (rHeap bs s).1) ∧ Rd S w' rb bv bs (rHeap bs s).2 ∧ Fr [rb] w w' := by
  have hle := h.le
  have hsm := h.small
  have hrb := h.loc.lt
  have hcl := rPeek_lt bs s
  have hR := h.loc1 (.cells #[.int .i64 0, .int .i64 0] 40)
  have hgiff := given_iff (rPeek bs s)
  have hL : Loc (w.alloc (.cells #[.int .i64 0, .int .i64 0] 40)) w.heap.size [.int .i64 0, .int .i64 0] 40 := Loc.new _ _ _
  have f0 : Fr [rb] w (w.alloc (.cells #[.int .i64 0, .int .i64 0] 40)) := (Fr.refl _ _).alloc _
  by_cases hg : givenK (rPeek bs s) = 0
  · have hg2 : decide (105 ≤ rPeek bs s ∧ rPeek bs s < 117) = false := by rw [hgiff, hg]; rfl
    by_cases hn : (rS bs 33 s).1 < 0
    · have hp : rHeap bs s = (HeapT.zero, (rS bs 33 s).2.refuse 60 s.at_) := by unfold rHeap; rw [if_pos hg, if_pos hn]
      have ht : ((rS bs 33 s).2.refuse 60 s.at_).told HeapT.zero ⟨13, (rS bs 33 s).1⟩ = HeapT.zero := by
        by_cases h0 : (rS bs 33 s).2.err = 0
        · simp [RdS.told, RdS.refuse, RdS.fail, h0]
        · simp [RdS.told, RdS.refuse, RdS.fail, h0]
      have HT := Lib.hid ht
      rw [hp]
      clear hgiff hg hp ht
      go_enter Tryd.func18, Tryd.ntmps18
      go_wp2_with first | (go_at_call 22; refine (rd_at hR).mono ?_; rintro e w' ⟨rfl, rfl⟩) | (go_at_call 46; refine (rd_peek hR).mono ?_; rintro e w' ⟨rfl, nq, rfl⟩) | (go_at_call 57; refine (given_any (hR.drewN _).gl _ hcl).mono ?_; rintro e w1 ⟨rfl, hF1⟩) | fail
      have hR1 := (hR.drewN nq).fr hF1 (by simp) (by simp)
      have hR1o := fun o => hR1.alloc o
      have hL1 := (hL.drewN nq).fr hF1 (by simp)
      have f1 := (f0.drewN nq).trans (hF1.mono (by simp))
      go_wp2_with first | (go_at_call 14; refine (rd_s (hR1o _) 33 (by decide) (by decide)).mono ?_; rintro e w2 ⟨rfl, hR2, hF2⟩) | fail
      have hL2 := (hL1.alloc _).fr hF2 (by simp; omega)
      have f2 := (f1.alloc _).trans hF2
      go_wp2_with first | (go_at_call 55; refine (rd_refuse hR2 _ _ hle).mono ?_; rintro e w3 ⟨rfl, hR3, hF3⟩) | fail
      have hL3 := hL2.fr hF3 (by simp; omega)
      have f3 := f2.trans hF3
      go_wp2_with ((go_at_call 58; refine (told_heap hR3 ⟨13, _⟩).mono ?_; rintro e w4 ⟨rfl, hF4⟩); rw [HT.out]; have hL4 := hL3.fr hF4 (by simp); have hR4 := hR3.fr hF4 (by simp) (by simp); have f4 := f3.trans (hF4.mono (by simp)); have hLC4 := hL4.cell; have hLF4 := hL4.frz; have hLT4 := hL4.lt)
      refine bodyPost_ret (v := heapV HeapT.zero) (by simp [results, Tryd.results18, go_sem, *]) rfl ⟨rfl, ?_, ?_⟩
      · refine Rd.un1 (lb := w.heap.size) ?_ h.mem
        repeat (first | (with_reducible assumption) | (with_reducible refine Rd.setLoc ?_ (by simp) (by omega) _ _) | (with_reducible apply Rd.alloc) | (with_reducible apply Rd.drewN))
      · repeat (first | (with_reducible exact Fr.refl _ _) | (with_reducible assumption) | (with_reducible apply Fr.alloc) | (with_reducible apply Fr.drew) | (with_reducible apply Fr.drewN) | (with_reducible refine Fr.setCell ?_ (by first | (left; simp; done) | (right; simp; done) | (right; simp; omega)) _))
    · have hp : rHeap bs s = ((rS bs 33 s).2.told HeapT.zero ⟨13, (rS bs 33 s).1⟩, (rS bs 33 s).2) := by unfold rHeap; rw [if_pos hg, if_neg hn]
      rw [hp]
      clear hgiff hg hp
      go_enter Tryd.func18, Tryd.ntmps18
      go_wp2_with first | (go_at_call 22; refine (rd_at hR).mono ?_; rintro e w' ⟨rfl, rfl⟩) | (go_at_call 46; refine (rd_peek hR).mono ?_; rintro e w' ⟨rfl, nq, rfl⟩) | (go_at_call 57; refine (given_any (hR.drewN _).gl _ hcl).mono ?_; rintro e w1 ⟨rfl, hF1⟩) | fail
      have hR1 := (hR.drewN nq).fr hF1 (by simp) (by simp)
      have hR1o := fun o => hR1.alloc o
      have hL1 := (hL.drewN nq).fr hF1 (by simp)
      have f1 := (f0.drewN nq).trans (hF1.mono (by simp))
      go_wp2_with first | (go_at_call 14; refine (rd_s (hR1o _) 33 (by decide) (by decide)).mono ?_; rintro e w2 ⟨rfl, hR2, hF2⟩) | fail
      have hL2 := (hL1.alloc _).fr hF2 (by simp; omega)
      have f2 := (f1.alloc _).trans hF2
      go_wp2_with ((go_at_call 58; refine (told_heap hR2 ⟨13, _⟩).mono ?_; rintro e w4 ⟨rfl, hF4⟩); have hL4 := hL2.fr hF4 (by simp); have hR4 := hR2.fr hF4 (by simp) (by simp); have f4 := f2.trans (hF4.mono (by simp)); have hLC4 := hL4.cell; have hLF4 := hL4.frz; have hLT4 := hL4.lt)
      refine bodyPost_ret (v := heapV _) (by simp [results, Tryd.results18, go_sem, *]) rfl ⟨rfl, ?_, ?_⟩
      · refine Rd.un1 (lb := w.heap.size) ?_ h.mem
        repeat (first | (with_reducible assumption) | (with_reducible refine Rd.setLoc ?_ (by simp) (by omega) _ _) | (with_reducible apply Rd.alloc) | (with_reducible apply Rd.drewN))
      · repeat (first | (with_reducible exact Fr.refl _ _) | (with_reducible assumption) | (with_reducible apply Fr.alloc) | (with_reducible apply Fr.drew) | (with_reducible apply Fr.drewN) | (with_reducible refine Fr.setCell ?_ (by first | (left; simp; done) | (right; simp; done) | (right; simp; omega)) _))
  · have hp : rHeap bs s = (⟨givenK (rPeek bs s), 0⟩, s.next) := by unfold rHeap; rw [if_neg hg]
    have hlt := (peek_pos (s := s) (bs := bs) (fun h0 => hg (by rw [h0]; rfl))).2.1
    have hg2 : decide (105 ≤ rPeek bs s ∧ rPeek bs s < 117) = true := by rw [hgiff]; simpa using hg
    rw [hp]
    clear hgiff hg hp
    go_enter Tryd.func18, Tryd.ntmps18
    go_wp2_with first | (go_at_call 22; refine (rd_at hR).mono ?_; rintro e w' ⟨rfl, rfl⟩) | (go_at_call 46; refine (rd_peek hR).mono ?_; rintro e w' ⟨rfl, nq, rfl⟩) | ((go_at_call 57; refine (given_any (hR.drewN _).gl _ hcl).mono ?_; rintro e w1 ⟨rfl, hF1⟩); have hR1 := (hR.drewN nq).fr hF1 (by simp) (by simp); have hL1 := (hL.drewN nq).fr hF1 (by simp); have f1 := (f0.drewN nq).trans (hF1.mono (by simp)); have hC1 := hR1.loc.cell; have hG1 := hR1.loc.frz; have hT1 := hR1.loc.lt; simp only [rdCells] at hC1; have hLC1 := hL1.cell; have hLF1 := hL1.frz; have hLT1 := hL1.lt)
    have hE := rd_next hR1 hlt
    refine bodyPost_ret (v := heapV ⟨givenK (rPeek bs s), 0⟩) (by simp [results, Tryd.results18, go_sem, *]) rfl ⟨rfl, ?_, ?_⟩
    · refine Rd.un1 (lb := w.heap.size) ?_ h.mem
      repeat (first | (with_reducible assumption) | (with_reducible refine Rd.setLoc ?_ (by simp) (by omega) _ _) | (with_reducible apply Rd.alloc) | (with_reducible apply Rd.drewN))
    · repeat (first | (with_reducible exact Fr.refl _ _) | (with_reducible assumption) | (with_reducible apply Fr.alloc) | (with_reducible apply Fr.drew) | (with_reducible apply Fr.drewN) | (with_reducible refine Fr.setCell ?_ (by first | (left; simp; done) | (right; simp; done) | (right; simp; omega)) _))

end Go.Proofs.YtokneepfknepaaaDoor
