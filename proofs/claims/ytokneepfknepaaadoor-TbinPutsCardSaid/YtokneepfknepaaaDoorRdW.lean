/- The walks of layer 6: a reader, made by Open. -/
import Derived.Test.YtokneepfknepaaaDoorLebW2
import Derived.Test.YtokneepfknepaaaDoorTbinP
set_option linter.unusedSimpArgs false
set_option linter.unusedVariables false
namespace Go.Proofs.YtokneepfknepaaaDoor
open Go.RowKit

/-- The table of heap types, as the program's text lays it. -/
structure Gl (S : List Nat) (w : World) : Prop where
  lt : 0 < w.heap.size
  not : 0 ∉ S
  cell : ∀ o, o < 12 → w.cell? ⟨0, o, none⟩ = some (.int .i64 (heapsL.getD o 0))
theorem Gl.fr {S S' : List Nat} {w w' : World} (h : Gl S w) (hf : Fr S' w w') (hs : ∀ b, b < w.heap.size → b ∈ S' → b ∈ S) : Gl S w' :=
  ⟨Nat.lt_of_lt_of_le h.lt hf.size, h.not, fun o ho => by rw [hf.cell h.lt (fun hm => h.not (hs _ h.lt hm))]; exact h.cell o ho⟩
theorem Gl.sub {S S' : List Nat} {w : World} (h : Gl S w) (hs : ∀ b, b < w.heap.size → b ∈ S' → b ∈ S) : Gl S' w := ⟨h.lt, fun hm => h.not (hs _ h.lt hm), h.cell⟩

def rdCells (rb : Nat) (bv : Value) (s : RdS) : List Value := [.int .i64 s.at_, .int .i64 s.err, .int .i64 s.errAt, bv, .pointer (some ⟨rb, 0, none⟩)]
/-- A reader that Open made, at block rb, of the bytes bs, standing at s. S: the blocks that may be written. -/
structure Rd (S : List Nat) (w : World) (rb : Nat) (bv : Value) (bs : List UInt8) (s : RdS) : Prop where
  mem : rb ∈ S
  lt : ∀ b, b ∈ S → b < w.heap.size
  loc : Loc w rb (rdCells rb bv s) 28
  sl : Sl S w 1 bv bs.length (bs.map B)
  gl : Gl S w
  le : s.at_ ≤ bs.length
  small : bs.length ≤ 1099511627776

theorem Rd.step {S : List Nat} {w w' : World} {rb : Nat} {bv : Value} {bs : List UInt8} {s s' : RdS} (h : Rd S w rb bv bs s) (hf : Fr [rb] w w') (hl : Loc w' rb (rdCells rb bv s') 28) (hle : s'.at_ ≤ bs.length) : Rd S w' rb bv bs s' :=
  have hs : ∀ b, b < w.heap.size → b ∈ [rb] → b ∈ S := fun b _ hb => by simp at hb; subst hb; exact h.mem
  ⟨h.mem, fun b hb => Nat.lt_of_lt_of_le (h.lt b hb) hf.size, hl, h.sl.fr hf hs, h.gl.fr hf hs, hle, h.small⟩
/-- Other blocks of S have been written, others have come. -/
theorem Rd.fr {S S' : List Nat} {w w' : World} {rb : Nat} {bv : Value} {bs : List UInt8} {s : RdS} (h : Rd S w rb bv bs s) (hf : Fr S' w w') (hs : ∀ b, b < w.heap.size → b ∈ S' → b ∈ S) (hn : rb ∉ S') : Rd S w' rb bv bs s :=
  ⟨h.mem, fun b hb => Nat.lt_of_lt_of_le (h.lt b hb) hf.size, h.loc.fr hf hn, h.sl.fr hf hs, h.gl.fr hf hs, h.le, h.small⟩
theorem Rd.alloc {S : List Nat} {w : World} {rb : Nat} {bv : Value} {bs : List UInt8} {s : RdS} (h : Rd S w rb bv bs s) (o : Obj) : Rd S (w.alloc o) rb bv bs s := h.fr ((Fr.refl [] w).alloc o) (by simp) (by simp)
theorem Rd.drew {S : List Nat} {w : World} {rb : Nat} {bv : Value} {bs : List UInt8} {s : RdS} (h : Rd S w rb bv bs s) : Rd S w.drew rb bv bs s := h.fr (Fr.refl [] w).drew (by simp) (by simp)
theorem Rd.drewN {S : List Nat} {w : World} {rb : Nat} {bv : Value} {bs : List UInt8} {s : RdS} (h : Rd S w rb bv bs s) (n : Nat) : Rd S (w.drewN n) rb bv bs s := h.fr ((Fr.refl [] w).drewN n) (by simp) (by simp)
/-- With more blocks that may be written: new ones. -/
theorem Rd.more {S S' : List Nat} {w w' : World} {rb : Nat} {bv : Value} {bs : List UInt8} {s : RdS} (h : Rd S w rb bv bs s) (hf : Fr [] w w') (hs : ∀ b, b ∈ S' → b ∈ S ∨ w.heap.size ≤ b) (hlt : ∀ b, b ∈ S' → b < w'.heap.size) (hm : rb ∈ S') : Rd S' w' rb bv bs s :=
  have hh : ∀ b, b < w.heap.size → b ∈ S' → b ∈ S := fun b hb hm => (hs b hm).elim id (fun h => by omega)
  ⟨hm, hlt, h.loc.fr hf (by simp), (h.sl.sub hh).fr hf (by simp), (h.gl.sub hh).fr hf (by simp), h.le, h.small⟩
theorem Rd.less {S S' : List Nat} {w : World} {rb : Nat} {bv : Value} {bs : List UInt8} {s : RdS} (h : Rd S w rb bv bs s) (hs : ∀ b, b ∈ S' → b ∈ S) (hm : rb ∈ S') : Rd S' w rb bv bs s :=
  ⟨hm, fun b hb => h.lt b (hs b hb), h.loc, h.sl.sub fun b _ hb => hs b hb, h.gl.sub fun b _ hb => hs b hb, h.le, h.small⟩

/-- A new block that will be written. -/
theorem Rd.loc1 {S : List Nat} {w : World} {rb : Nat} {bv : Value} {bs : List UInt8} {s : RdS} (h : Rd S w rb bv bs s) (o : Obj) : Rd (w.heap.size :: S) (w.alloc o) rb bv bs s :=
  h.more ((Fr.refl [] w).alloc o) (fun b hb => by
    rcases List.mem_cons.1 hb with rfl | hb
    · exact .inr (Nat.le_refl _)
    · exact .inl hb) (fun b hb => by
    rcases List.mem_cons.1 hb with rfl | hb
    · simp
    · have := h.lt b hb; simp; omega) (List.mem_cons_of_mem _ h.mem)
theorem Rd.setLoc {S : List Nat} {w : World} {rb : Nat} {bv : Value} {bs : List UInt8} {s : RdS} (h : Rd S w rb bv bs s) {lb : Nat} (hm : lb ∈ S) (hn : lb ≠ rb) (o : Nat) (v : Value) : Rd S (w.setCell ⟨lb, o, none⟩ v) rb bv bs s :=
  h.fr (S' := [lb]) ((Fr.refl _ _).setCell (by simp) _) (fun b _ hb => by simp at hb; subst hb; exact hm) (by simpa using fun h => hn h.symm)
theorem Rd.un1 {S : List Nat} {w : World} {rb lb : Nat} {bv : Value} {bs : List UInt8} {s : RdS} (h : Rd (lb :: S) w rb bv bs s) (hm : rb ∈ S) : Rd S w rb bv bs s := h.less (fun b hb => List.mem_cons_of_mem _ hb) hm

/-- Two pointers that are one: of Readers. -/
theorem eql_rd (a : Addr) (w : World) : (binOp .eql 23 (.pointer (some a)) (.pointer (some a))).run Tryd.prog w = .ok (.bool true) w :=
  run_eql_ptr_same (te := 28) (j := (Tryd.prog.info? 28).get (by kernel_rfl)) w a (by kernel_rfl) (by kernel_rfl)
attribute [go_sem] eql_rd


set_option maxRecDepth 100000 in
set_option maxHeartbeats 400000 in
theorem rd_made {S : List Nat} {w : World} {rb : Nat} {bv : Value} {bs : List UInt8} {s : RdS} (h : Rd S w rb bv bs s) :
    Calls Tryd.prog 65 #[.pointer (some ⟨rb, 0, none⟩)] w fun e w' => e = .returned (.bool true) ∧ w = w' := by
  have hC := h.loc.cell; have hF := h.loc.frz; simp only [rdCells] at hC
  go_enter Tryd.func65, Tryd.ntmps65
  go_wp2
  go_ret
  exact ⟨rfl, rfl⟩
set_option maxRecDepth 100000 in
set_option maxHeartbeats 400000 in
theorem rd_reads {S : List Nat} {w : World} {rb : Nat} {bv : Value} {bs : List UInt8} {s : RdS} (h : Rd S w rb bv bs s) :
    Calls Tryd.prog 45 #[.pointer (some ⟨rb, 0, none⟩)] w fun e w' => e = .returned (.bool (s.err == 0)) ∧ w = w' := by
  have hC := h.loc.cell; have hF := h.loc.frz; simp only [rdCells] at hC
  go_enter Tryd.func45, Tryd.ntmps45
  go_wp2_with (go_at_call 65; refine (rd_made (by assumption)).mono ?_; rintro e w' ⟨rfl, rfl⟩)
  go_ret
  exact ⟨rfl, rfl⟩
set_option maxRecDepth 100000 in
set_option maxHeartbeats 400000 in
theorem rd_at {S : List Nat} {w : World} {rb : Nat} {bv : Value} {bs : List UInt8} {s : RdS} (h : Rd S w rb bv bs s) :
    Calls Tryd.prog 22 #[.pointer (some ⟨rb, 0, none⟩)] w fun e w' => e = .returned (.int .i64 s.at_) ∧ w = w' := by
  have hC := h.loc.cell; have hF := h.loc.frz; simp only [rdCells] at hC
  go_enter Tryd.func22, Tryd.ntmps22
  go_wp2_with (go_at_call 65; refine (rd_made (by assumption)).mono ?_; rintro e w' ⟨rfl, rfl⟩)
  go_ret
  exact ⟨rfl, rfl⟩

def DrewN (w w' : World) : Prop := ∃ n, w' = w.drewN n
set_option maxRecDepth 100000 in
set_option maxHeartbeats 400000 in
theorem rd_left {S : List Nat} {w : World} {rb : Nat} {bv : Value} {bs : List UInt8} {s : RdS} (h : Rd S w rb bv bs s) :
    Calls Tryd.prog 23 #[.pointer (some ⟨rb, 0, none⟩)] w fun e w' => e = .returned (.int .i64 ((bs.length : Int) - s.at_)) ∧ DrewN w w' := by
  have hC := h.loc.cell; have hF := h.loc.frz; simp only [rdCells] at hC
  have hle := h.le
  have hsm := h.small
  obtain ⟨a, cap, hbv, _⟩ := h.sl.2.2
  subst hbv
  go_enter Tryd.func23, Tryd.ntmps23
  go_wp2_with (go_at_call 65; refine (rd_made (by assumption)).mono ?_; rintro e w' ⟨rfl, rfl⟩)
  go_quiet (fail)
  go_wp2
  go_ret
  exact ⟨rfl, _, rfl⟩
set_option maxRecDepth 100000 in
set_option maxHeartbeats 400000 in
theorem rd_err {S : List Nat} {w : World} {rb : Nat} {bv : Value} {bs : List UInt8} {s : RdS} (h : Rd S w rb bv bs s) :
    Calls Tryd.prog 24 #[.pointer (some ⟨rb, 0, none⟩)] w fun e w' => e = .returned (.tuple #[.int .i64 s.err, .int .i64 s.errAt]) ∧ DrewN w w' := by
  have hC := h.loc.cell; have hF := h.loc.frz; simp only [rdCells] at hC
  go_enter Tryd.func24, Tryd.ntmps24
  go_wp2_with (go_at_call 65; refine (rd_made (by assumption)).mono ?_; rintro e w' ⟨rfl, rfl⟩)
  go_quiet (fail)
  go_wp2
  go_ret2
  exact ⟨rfl, _, rfl⟩

set_option maxRecDepth 100000 in
set_option maxHeartbeats 400000 in
theorem rd_fail {S : List Nat} {w : World} {rb : Nat} {bv : Value} {bs : List UInt8} {s : RdS} (h : Rd S w rb bv bs s) (e0 a0 : Int) :
    Calls Tryd.prog 11 #[.pointer (some ⟨rb, 0, none⟩), .int .i64 e0, .int .i64 a0] w fun e w' => e = .returned (.tuple #[]) ∧ Rd S w' rb bv bs (s.fail e0 a0) ∧ Fr [rb] w w' := by
  have hC := h.loc.cell; have hF := h.loc.frz; simp only [rdCells] at hC
  by_cases h1 : s.err = 0
  · have g1 : (s.err == 0) = true := by simp [h1]
    by_cases h2 : e0 = 0
    · have g2 : (e0 == 0) = true := by simp [h2]
      have g3 : (e0 != 0) = false := by simp [h2]
      have hh : s.fail e0 a0 = s := by simp [RdS.fail, h2]
      have HH := Lib.hid hh
      clear h1 h2 hh
      go_enter Tryd.func11, Tryd.ntmps11
      go_wp2_with (go_at_call 45; refine (rd_reads (by assumption)).mono ?_; rintro e w' ⟨rfl, rfl⟩)
      go_end0
      exact ⟨rfl, by rw [HH.out]; exact h, Fr.refl _ _⟩
    · have g2 : (e0 == 0) = false := by simp [h2]
      have g3 : (e0 != 0) = true := by simp [h2]
      have hh : s.fail e0 a0 = { s with err := e0, errAt := a0 } := by simp [RdS.fail, h1, h2]
      have HH := Lib.hid hh
      clear h1 h2 hh
      go_enter Tryd.func11, Tryd.ntmps11
      go_wp2_with (go_at_call 45; refine (rd_reads (by assumption)).mono ?_; rintro e w' ⟨rfl, rfl⟩)
      go_end0
      have hf : Fr [rb] w ((w.setCell ⟨rb, 1, none⟩ (.int .i64 e0)).setCell ⟨rb, 2, none⟩ (.int .i64 a0)) := ((Fr.refl _ _).setCell (by simp) _).setCell (by simp) _
      refine ⟨rfl, ?_, hf⟩
      rw [HH.out]
      exact h.step hf ((h.loc.set 1 _).set 2 _) h.le
  · have g1 : (s.err == 0) = false := by simp [h1]
    have hh : s.fail e0 a0 = s := by simp [RdS.fail, h1]
    have HH := Lib.hid hh
    clear h1 hh
    go_enter Tryd.func11, Tryd.ntmps11
    go_wp2_with (go_at_call 45; refine (rd_reads (by assumption)).mono ?_; rintro e w' ⟨rfl, rfl⟩)
    go_end0
    exact ⟨rfl, by rw [HH.out]; exact h, Fr.refl _ _⟩

theorem fail_at (s : RdS) (e a : Int) : (s.fail e a).at_ = s.at_ := by unfold RdS.fail; split <;> rfl

set_option maxRecDepth 100000 in
set_option maxHeartbeats 400000 in
theorem rd_refuse {S : List Nat} {w : World} {rb : Nat} {bv : Value} {bs : List UInt8} {s : RdS} (h : Rd S w rb bv bs s) (e0 : Int) (a0 : Nat) (ha : a0 ≤ bs.length) :
    Calls Tryd.prog 55 #[.pointer (some ⟨rb, 0, none⟩), .int .i64 e0, .int .i64 a0] w fun e w' => e = .returned (.tuple #[]) ∧ Rd S w' rb bv bs (s.refuse e0 a0) ∧ Fr [rb] w w' := by
  go_enter Tryd.func55, Tryd.ntmps55
  go_wp2_with (go_at_call 11; refine (rd_fail (by assumption) _ _).mono ?_; rintro e w1 ⟨rfl, hR1, hF1⟩; have hC1 := hR1.loc.cell; have hG1 := hR1.loc.frz; simp only [rdCells] at hC1)
  go_end0
  have hf : Fr [rb] w (w1.setCell ⟨rb, 0, none⟩ (.int .i64 a0)) := hF1.setCell (by simp) _
  exact ⟨rfl, h.step hf (hR1.loc.set 0 _) ha, hf⟩

end Go.Proofs.YtokneepfknepaaaDoor
