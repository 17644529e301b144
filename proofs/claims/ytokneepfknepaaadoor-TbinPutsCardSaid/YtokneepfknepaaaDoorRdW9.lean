/- The walks of layer 6, the ninth part: composite types. -/
import Derived.Test.YtokneepfknepaaaDoorRdW8
set_option linter.unusedSimpArgs false
set_option linter.unusedVariables false
namespace Go.Proofs.YtokneepfknepaaaDoor
open Go.RowKit

theorem Sl.shape {S : List Nat} {w : World} {k n : Nat} {v : Value} {cs : List Value} (h : Sl S w k v n cs) : ∃ a cap, v = .slice a n cap := by
  obtain ⟨_, _, a, cap, rfl, _⟩ := h
  exact ⟨a, cap, rfl⟩
theorem Sl.out1 {S : List Nat} {w w' : World} {lb k n : Nat} {v : Value} {cs : List Value} (h : Sl (lb :: S) w k v n cs) (hf : Fr [lb] w w') : Sl S w' k v n cs :=
  (h.fr hf (by intro b _ hb; simp at hb; simp [hb])).sub fun b _ hb => List.mem_cons_of_mem _ hb
theorem Sl.rd {S : List Nat} {w w' : World} {rb k n : Nat} {v : Value} {cs : List Value} (h : Sl S w k v n cs) (hf : Fr [rb] w w') (hm : rb ∈ S) : Sl S w' k v n cs :=
  h.fr hf (by intro b _ hb; simp at hb; subst hb; exact hm)
theorem Sl.one {S : List Nat} {w : World} {k n : Nat} {v : Value} {cs : List Value} (h : Sl S w k v n cs) : v.oneCell' = true := by
  obtain ⟨_, _, a, cap, rfl, _⟩ := h
  rfl

theorem sl_made {S : List Nat} {w : World} {e : TypeId} {k : Nat} {cs : List Value} (g : Nat) (hg : w.heap.size = g) (hl : cs.length = k) (h2 : ∀ u ∈ cs, u.oneCell' = true) (hS : ∀ b, b ∈ S → b < w.heap.size) :
    Sl S (w.alloc (.cells cs.toArray e)) k (.slice (some ⟨g, 0, none⟩) 1 1) 1 cs := by
  subst hg
  refine (Own.made e k 1 cs hS (by omega) h2 (by decide)).sl (S' := S) ?_
  intro b hb hm
  simp [Value.blk] at hb
  have := hS b hm
  omega

/-- The three lists of a composite type, and the supers of a sub type. -/
def CompR (S : List Nat) (w : World) (c : CompT) (pv rv fv : Value) : Prop :=
  Sl S w 4 pv c.params.length (c.params.flatMap valC) ∧ Sl S w 4 rv c.results.length (c.results.flatMap valC) ∧ Sl S w 6 fv c.fields.length (c.fields.flatMap fieldC)
def SubR (S : List Nat) (w : World) (t : SubT) (hv pv rv fv : Value) : Prop :=
  Sl S w 2 hv t.supers.length (t.supers.flatMap heapC) ∧ CompR S w t.comp pv rv fv
def SubsR (S : List Nat) (w : World) : List SubT → List Value → Prop
  | [], cs => cs = []
  | t :: ts, cs => ∃ hv pv rv fv rest, cs = .bool t.final_ :: hv :: .int .i64 t.comp.kind :: pv :: rv :: fv :: rest ∧ SubR S w t hv pv rv fv ∧ SubsR S w ts rest
theorem CompR.fr {S S' : List Nat} {w w' : World} {c : CompT} {pv rv fv : Value} (h : CompR S w c pv rv fv) (hf : Fr S' w w') (hs : ∀ b, b < w.heap.size → b ∈ S' → b ∈ S) : CompR S w' c pv rv fv :=
  ⟨h.1.fr hf hs, h.2.1.fr hf hs, h.2.2.fr hf hs⟩
theorem CompR.sub {S S' : List Nat} {w : World} {c : CompT} {pv rv fv : Value} (h : CompR S w c pv rv fv) (hs : ∀ b, b < w.heap.size → b ∈ S' → b ∈ S) : CompR S' w c pv rv fv :=
  ⟨h.1.sub hs, h.2.1.sub hs, h.2.2.sub hs⟩
theorem SubR.fr {S S' : List Nat} {w w' : World} {t : SubT} {hv pv rv fv : Value} (h : SubR S w t hv pv rv fv) (hf : Fr S' w w') (hs : ∀ b, b < w.heap.size → b ∈ S' → b ∈ S) : SubR S w' t hv pv rv fv :=
  ⟨h.1.fr hf hs, h.2.fr hf hs⟩
theorem SubR.sub {S S' : List Nat} {w : World} {t : SubT} {hv pv rv fv : Value} (h : SubR S w t hv pv rv fv) (hs : ∀ b, b < w.heap.size → b ∈ S' → b ∈ S) : SubR S' w t hv pv rv fv :=
  ⟨h.1.sub hs, h.2.sub hs⟩
theorem SubsR.fr {S S' : List Nat} {w w' : World} (hf : Fr S' w w') (hs : ∀ b, b < w.heap.size → b ∈ S' → b ∈ S) : ∀ {ts : List SubT} {cs : List Value}, SubsR S w ts cs → SubsR S w' ts cs
  | [], _, h => h
  | _ :: _, _, ⟨hv, pv, rv, fv, rest, e, h1, h2⟩ => ⟨hv, pv, rv, fv, rest, e, h1.fr hf hs, SubsR.fr hf hs h2⟩
theorem SubsR.sub {S S' : List Nat} {w : World} (hs : ∀ b, b < w.heap.size → b ∈ S' → b ∈ S) : ∀ {ts : List SubT} {cs : List Value}, SubsR S w ts cs → SubsR S' w ts cs
  | [], _, h => h
  | _ :: _, _, ⟨hv, pv, rv, fv, rest, e, h1, h2⟩ => ⟨hv, pv, rv, fv, rest, e, h1.sub hs, SubsR.sub hs h2⟩
theorem SubsR.snoc {S : List Nat} {w : World} {t : SubT} {hv pv rv fv : Value} (ht : SubR S w t hv pv rv fv) : ∀ {ts : List SubT} {cs : List Value}, SubsR S w ts cs →
    SubsR S w (ts ++ [t]) (cs ++ [.bool t.final_, hv, .int .i64 t.comp.kind, pv, rv, fv])
  | [], _, h => by
    have h : _ = [] := h
    subst h
    exact ⟨hv, pv, rv, fv, [], rfl, ht, rfl⟩
  | _ :: _, _, ⟨hv', pv', rv', fv', rest, e, h1, h2⟩ => by
    subst e
    exact ⟨hv', pv', rv', fv', rest ++ _, rfl, h1, SubsR.snoc ht h2⟩

set_option maxRecDepth 100000 in
set_option maxHeartbeats 400000 in
theorem rd_vals {S : List Nat} {w : World} {rb : Nat} {bv : Value} {bs : List UInt8} {s : RdS} (h : Rd S w rb bv bs s) :
    Calls Tryd.prog 20 #[.pointer (some ⟨rb, 0, none⟩)] w fun e w' => ∃ v, e = .returned v ∧ Sl S w' 4 v (rVals bs s).1.length ((rVals bs s).1.flatMap valC) ∧ Rd S w' rb bv bs (rVals bs s).2 ∧ Fr [rb] w w' := by
  have hmf : ∀ (fn : Fn) (first cap : Array Value) (w : World), (Instr.makeFunc fn first cap).run Tryd.prog w = .ok (.func fn first cap) w := fun _ _ _ _ => rfl
  go_enter Tryd.func20, Tryd.ntmps20
  go_wp2_with (go_at_call 61; refine (list_val h).mono ?_; rintro e w2 ⟨v2, rfl, hS2, hR2, hF2⟩)
  go_ret
  exact ⟨v2, rfl, hS2, hR2, hF2⟩

theorem und_comp : Tryd.prog.underlying 58 = some ((Tryd.prog.underlying 58).get (by kernel_rfl)) := by kernel_rfl
theorem size_comp : (Tryd.prog.info? 58).map (·.size) = some 4 := by kernel_rfl

set_option maxRecDepth 100000 in
set_option maxHeartbeats 1600000 in
theorem rd_comp {S : List Nat} {w : World} {rb : Nat} {bv : Value} {bs : List UInt8} {s : RdS} (h : Rd S w rb bv bs s) :
    Calls Tryd.prog 102 #[.pointer (some ⟨rb, 0, none⟩)] w fun e w' => ∃ pv rv fv, e = .returned (.agg #[.int .i64 (rComp bs s).1.kind, pv, rv, fv]) ∧ CompR S w' (rComp bs s).1 pv rv fv ∧ Rd S w' rb bv bs (rComp bs s).2 ∧ Fr [rb] w w' := by
  have hmf : ∀ (fn : Fn) (first cap : Array Value) (w : World), (Instr.makeFunc fn first cap).run Tryd.prog w = .ok (.func fn first cap) w := fun _ _ _ _ => rfl
  have hle := h.le
  have hrb := h.loc.lt
  have hR := h.loc1 (.cells #[.int .i64 0, .slice none 0 0, .slice none 0 0, .slice none 0 0] 58)
  have hL : Loc (w.alloc (.cells #[.int .i64 0, .slice none 0 0, .slice none 0 0, .slice none 0 0] 58)) w.heap.size [.int .i64 0, .slice none 0 0, .slice none 0 0, .slice none 0 0] 58 := Loc.new _ _ _
  have f0 : Fr [rb] w (w.alloc (.cells #[.int .i64 0, .slice none 0 0, .slice none 0 0, .slice none 0 0] 58)) := (Fr.refl _ _).alloc _
  have hm1 := hR.mem
  by_cases q96 : (rByte bs s).1 = 96
  · skip
    have g96 : ((((rByte bs s).1 : Nat) : Int) == 96) = true := by simp; omega
    have hp : rComp bs s = (⟨1, (rVals bs (rByte bs s).2).1, (rVals bs (rVals bs (rByte bs s).2).2).1, []⟩, (rVals bs (rVals bs (rByte bs s).2).2).2) := by unfold rComp; rw [if_pos q96]
    rw [hp]
    clear hp q96
    go_enter Tryd.func102, Tryd.ntmps102
    go_wp2_with first | (go_at_call 22; refine (rd_at hR).mono ?_; rintro e w' ⟨rfl, rfl⟩) | ((go_at_call 12; refine (rd_byte hR).mono ?_; rintro e w1 ⟨rfl, hR1, hF1⟩); have hL1 := hL.fr hF1 (by simp; omega); have f1 := f0.trans hF1; have hLC1 := hL1.cell; have hLF1 := hL1.frz; have hLT1 := hL1.lt) | ((go_at_call 20; refine (rd_vals hR1).mono ?_; rintro e w2 ⟨v2, rfl, hS2, hR2, hF2⟩; obtain ⟨a2, c2, rfl⟩ := hS2.shape); have hL2 := hL1.fr hF2 (by simp; omega); have f2 := f1.trans hF2; have hLC2 := hL2.cell; have hLF2 := hL2.frz; have hLT2 := hL2.lt) | ((go_at_call 20; refine (rd_vals hR2).mono ?_; rintro e w3 ⟨v3, rfl, hS3, hR3, hF3⟩; obtain ⟨a3, c3, rfl⟩ := hS3.shape); have hL3 := hL2.fr hF3 (by simp; omega); have f3 := f2.trans hF3; have hLC3 := hL3.cell; have hLF3 := hL3.frz; have hLT3 := hL3.lt)
    refine ret_cell rfl rfl ((((hL3.set 0 _).set 1 _).set 2 _).set 3 _) und_comp rfl size_comp rfl ⟨_, _, _, rfl, ⟨?_, ?_, ?_⟩, ?_, ?_⟩
    · exact (hS2.rd hF3 hm1).out1 (by repeat (first | (with_reducible exact Fr.refl _ _) | (with_reducible assumption) | (with_reducible apply Fr.alloc) | (with_reducible apply Fr.drew) | (with_reducible apply Fr.drewN) | (with_reducible refine Fr.setCell ?_ (by first | (left; simp; done) | (right; simp; done) | (right; simp; omega)) _)))
    · exact hS3.out1 (by repeat (first | (with_reducible exact Fr.refl _ _) | (with_reducible assumption) | (with_reducible apply Fr.alloc) | (with_reducible apply Fr.drew) | (with_reducible apply Fr.drewN) | (with_reducible refine Fr.setCell ?_ (by first | (left; simp; done) | (right; simp; done) | (right; simp; omega)) _)))
    · exact Sl.nil _ _ _
    · refine Rd.un1 (lb := w.heap.size) ?_ h.mem
      repeat (first | (with_reducible assumption) | (with_reducible refine Rd.setLoc ?_ (by simp) (by omega) _ _) | (with_reducible apply Rd.alloc) | (with_reducible apply Rd.drewN))
    · repeat (first | (with_reducible exact Fr.refl _ _) | (with_reducible assumption) | (with_reducible apply Fr.alloc) | (with_reducible apply Fr.drew) | (with_reducible apply Fr.drewN) | (with_reducible refine Fr.setCell ?_ (by first | (left; simp; done) | (right; simp; done) | (right; simp; omega)) _))
  · by_cases q95 : (rByte bs s).1 = 95
    · skip
      have g96 : ((((rByte bs s).1 : Nat) : Int) == 96) = false := by simp; omega
      have g95 : ((((rByte bs s).1 : Nat) : Int) == 95) = true := by simp; omega
      have hp : rComp bs s = (⟨2, [], [], (rList bs (rField bs) (rByte bs s).2).1⟩, (rList bs (rField bs) (rByte bs s).2).2) := by unfold rComp; rw [if_neg q96, if_pos q95]
      rw [hp]
      clear hp q96 q95
      go_enter Tryd.func102, Tryd.ntmps102
      go_wp2_with first | (go_at_call 22; refine (rd_at hR).mono ?_; rintro e w' ⟨rfl, rfl⟩) | ((go_at_call 12; refine (rd_byte hR).mono ?_; rintro e w1 ⟨rfl, hR1, hF1⟩); have hL1 := hL.fr hF1 (by simp; omega); have f1 := f0.trans hF1; have hLC1 := hL1.cell; have hLF1 := hL1.frz; have hLT1 := hL1.lt) | ((go_at_call 139; refine (list_field hR1).mono ?_; rintro e w2 ⟨v2, rfl, hS2, hR2, hF2⟩; obtain ⟨a2, c2, rfl⟩ := hS2.shape); have hL2 := hL1.fr hF2 (by simp; omega); have f2 := f1.trans hF2; have hLC2 := hL2.cell; have hLF2 := hL2.frz; have hLT2 := hL2.lt)
      refine ret_cell rfl rfl ((((hL2.set 0 _).set 1 _).set 2 _).set 3 _) und_comp rfl size_comp rfl ⟨_, _, _, rfl, ⟨?_, ?_, ?_⟩, ?_, ?_⟩
      · exact Sl.nil _ _ _
      · exact Sl.nil _ _ _
      · exact hS2.out1 (by repeat (first | (with_reducible exact Fr.refl _ _) | (with_reducible assumption) | (with_reducible apply Fr.alloc) | (with_reducible apply Fr.drew) | (with_reducible apply Fr.drewN) | (with_reducible refine Fr.setCell ?_ (by first | (left; simp; done) | (right; simp; done) | (right; simp; omega)) _)))
      · refine Rd.un1 (lb := w.heap.size) ?_ h.mem
        repeat (first | (with_reducible assumption) | (with_reducible refine Rd.setLoc ?_ (by simp) (by omega) _ _) | (with_reducible apply Rd.alloc) | (with_reducible apply Rd.drewN))
      · repeat (first | (with_reducible exact Fr.refl _ _) | (with_reducible assumption) | (with_reducible apply Fr.alloc) | (with_reducible apply Fr.drew) | (with_reducible apply Fr.drewN) | (with_reducible refine Fr.setCell ?_ (by first | (left; simp; done) | (right; simp; done) | (right; simp; omega)) _))
    · by_cases q94 : (rByte bs s).1 = 94
      · skip
        have g96 : ((((rByte bs s).1 : Nat) : Int) == 96) = false := by simp; omega
        have g95 : ((((rByte bs s).1 : Nat) : Int) == 95) = false := by simp; omega
        have g94 : ((((rByte bs s).1 : Nat) : Int) == 94) = true := by simp; omega
        have hp : rComp bs s = (⟨3, [], [], [(rField bs (rByte bs s).2).1]⟩, (rField bs (rByte bs s).2).2) := by unfold rComp; rw [if_neg q96, if_neg q95, if_pos q94]
        rw [hp]
        clear hp q96 q95 q94
        go_enter Tryd.func102, Tryd.ntmps102
        go_wp2_with first | (go_at_call 22; refine (rd_at hR).mono ?_; rintro e w' ⟨rfl, rfl⟩) | ((go_at_call 12; refine (rd_byte hR).mono ?_; rintro e w1 ⟨rfl, hR1, hF1⟩); have hL1 := hL.fr hF1 (by simp; omega); have f1 := f0.trans hF1; have hLC1 := hL1.cell; have hLF1 := hL1.frz; have hLT1 := hL1.lt) | ((go_at_call 140; refine (rd_field hR1).mono ?_; rintro e w2 ⟨rfl, hR2, hF2⟩); have hL2 := hL1.fr hF2 (by simp; omega); have f2 := f1.trans hF2; have hLC2 := hL2.cell; have hLF2 := hL2.frz; have hLT2 := hL2.lt)
        refine ret_cell rfl rfl (((((hL2.set 0 _).set 1 _).set 2 _).set 3 _).alloc _) und_comp rfl size_comp rfl ⟨_, _, _, rfl, ⟨?_, ?_, ?_⟩, ?_, ?_⟩
        · exact Sl.nil _ _ _
        · exact Sl.nil _ _ _
        · have hsz := f2.size
          refine sl_made (e := 155) (cs := fieldC (rField bs (rByte bs s).2).1) w2.heap.size (by simp) rfl ?_ ?_
          · intro u hu; simp [fieldC] at hu; rcases hu with rfl | rfl | rfl | rfl | rfl | rfl <;> rfl
          · intro b hb
            have h1 := h.lt b hb
            simp only [World.size_setCell]
            omega
        · refine Rd.un1 (lb := w.heap.size) ?_ h.mem
          repeat (first | (with_reducible assumption) | (with_reducible refine Rd.setLoc ?_ (by simp) (by omega) _ _) | (with_reducible apply Rd.alloc) | (with_reducible apply Rd.drewN))
        · repeat (first | (with_reducible exact Fr.refl _ _) | (with_reducible assumption) | (with_reducible apply Fr.alloc) | (with_reducible apply Fr.drew) | (with_reducible apply Fr.drewN) | (with_reducible refine Fr.setCell ?_ (by first | (left; simp; done) | (right; simp; done) | (right; simp; omega)) _))
      · skip
        have g96 : ((((rByte bs s).1 : Nat) : Int) == 96) = false := by simp; omega
        have g95 : ((((rByte bs s).1 : Nat) : Int) == 95) = false := by simp; omega
        have g94 : ((((rByte bs s).1 : Nat) : Int) == 94) = false := by simp; omega
        have hp : rComp bs s = (CompT.zero, (rByte bs s).2.form s.at_) := by unfold rComp; rw [if_neg q96, if_neg q95, if_neg q94]
        rw [hp]
        clear hp q96 q95 q94
        go_enter Tryd.func102, Tryd.ntmps102
        go_wp2_with first | (go_at_call 22; refine (rd_at hR).mono ?_; rintro e w' ⟨rfl, rfl⟩) | ((go_at_call 12; refine (rd_byte hR).mono ?_; rintro e w1 ⟨rfl, hR1, hF1⟩); have hL1 := hL.fr hF1 (by simp; omega); have f1 := f0.trans hF1; have hLC1 := hL1.cell; have hLF1 := hL1.frz; have hLT1 := hL1.lt) | ((go_at_call 60; refine (rd_form hR1 _ hle).mono ?_; rintro e w2 ⟨rfl, hR2, hF2⟩); have hL2 := hL1.fr hF2 (by simp; omega); have f2 := f1.trans hF2; have hLC2 := hL2.cell; have hLF2 := hL2.frz; have hLT2 := hL2.lt)
        refine ret_cell rfl rfl ((((hL2.set 0 _).set 1 _).set 2 _).set 3 _) und_comp rfl size_comp rfl ⟨_, _, _, rfl, ⟨?_, ?_, ?_⟩, ?_, ?_⟩
        · exact Sl.nil _ _ _
        · exact Sl.nil _ _ _
        · exact Sl.nil _ _ _
        · refine Rd.un1 (lb := w.heap.size) ?_ h.mem
          repeat (first | (with_reducible assumption) | (with_reducible refine Rd.setLoc ?_ (by simp) (by omega) _ _) | (with_reducible apply Rd.alloc) | (with_reducible apply Rd.drewN))
        · repeat (first | (with_reducible exact Fr.refl _ _) | (with_reducible assumption) | (with_reducible apply Fr.alloc) | (with_reducible apply Fr.drew) | (with_reducible apply Fr.drewN) | (with_reducible refine Fr.setCell ?_ (by first | (left; simp; done) | (right; simp; done) | (right; simp; omega)) _))

end Go.Proofs.YtokneepfknepaaaDoor
