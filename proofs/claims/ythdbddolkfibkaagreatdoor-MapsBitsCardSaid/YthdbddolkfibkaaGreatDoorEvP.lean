
/- A reckoner for whole calls on known inputs, part 13b: what a drawn region's reckoning says. -/
import Derived.Test.YthdbddolkfibkaaGreatDoorEvD
set_option linter.unusedSimpArgs false
set_option linter.unusedVariables false
namespace Go.Proofs.YthdbddolkfibkaaGreatDoor
open Go.RowKit
section
variable {P : Program} {T : Tab} {n0 : Nat} {F : CallF} {N : Nat} {ops : List Oper} {Q : Exit → Act → World → Prop}
/-- New things apart. -/
def PW (rs : List NewR) : Prop := ∀ r, r ∈ rs → ∀ r', r' ∈ rs → r.u = r'.u ∨ r.g = r'.g → r = r'
/-- What holds along a stretch. -/
structure Mid (P : Program) (T : Tab) (n0 : Nat) (F : CallF) (N : Nat) (ops : List Oper) (news : List NewR) (E0 : Emb) (h0 : Tr (List CV)) (nx0 : Nat) (w0 : World) (L : Array Bool) (env : Tr CV) (s : HS) (chk : Chk) (fs : Facts) (Ur : List NewR) (B : Nat → Nat) (E : Emb) (a : Act) (w : World) : Prop where
  st : EStep E0 h0 nx0 w0 E s.h s.nx w
  G : GlE T E
  hn : E.n0 = n0
  A : AR E N env a
  I : EnvIn N env
  cl : Closed ops.toArray L
  C : ChkR P E N ops.toArray L chk fs
  ci : ChkIn P T n0 F s chk
  ur : ∀ r, r ∈ Ur → r ∈ news ∧ UF P ops.toArray r E a
  dn : ∀ r, r ∈ news → r ∈ Ur ∨ PD w0.heap.size r (B r.g) E a w
  inj : ∀ r, r ∈ news → ∀ r', r' ∈ news → r ∉ Ur → r' ∉ Ur → B r.g = B r'.g → r = r'
  eo : ∀ r, r ∈ news → ∀ d, r.dst = some d → env.get d = none
  od : ∀ r, r ∈ news → ∃ x, ops[r.u]? = some x ∧ x.dst = r.dst ∧ ∀ d, r.dst = some d → d < N
theorem seg_go (hT : TabOk P T) (hF : CallOk P T n0 F) (hsel : Region.noSelect ops.toArray = true) (hQ : ∀ c a w, ¬ Q (.panic c) a w) {news : List NewR} (hpw : PW news) {E0 : Emb} {h0 : Tr (List CV)} {nx0 : Nat} {w0 : World} {Ua : List Nat} (hUa : ∀ r, r ∈ news → r.u ∈ Ua) {tgt : Array Bool} {env1 : Tr CV} {s1 : HS} {chk1 : Chk} {rest : Nat}
    (K : ∀ fs' B E a w, Mid P T n0 F N ops news E0 h0 nx0 w0 tgt env1 s1 chk1 fs' [] B E a w → wpAnyJ P ops.toArray Q (AllD ops.toArray fs') rest tgt a w) :
    ∀ (n : Nat) (lm : List Nat) (Ur : List NewR) (L : Array Bool) (env : Tr CV) (s : HS) (chk : Chk) (fs : Facts) (B : Nat → Nat) (E : Emb) (a : Act) (w : World), segOk ops Ua tgt n L lm (Ur.map (·.u)) = true → runMain P T n0 F N ops lm env s chk = some (env1, s1, chk1) →
      Mid P T n0 F N ops news E0 h0 nx0 w0 L env s chk fs Ur B E a w → wpAnyJ P ops.toArray Q (AllD ops.toArray fs) (n + rest) L a w := by
  intro n
  induction n with
  | zero =>
    intro lm Ur L env s chk fs B E a w hs hr M
    unfold segOk at hs
    simp only [Bool.and_eq_true, List.isEmpty_iff, List.map_eq_nil_iff, decide_eq_true_eq] at hs
    obtain ⟨rfl, rfl, rfl⟩ := hs
    simp only [runMain, Option.some.injEq, Prod.mk.injEq] at hr
    obtain ⟨rfl, rfl, rfl⟩ := hr
    rw [Nat.zero_add]
    exact K fs B E a w M
  | succ n ih =>
    intro lm Ur L env s chk fs B E a w hs hr M
    rw [Nat.add_right_comm]
    -- a new thing comes up
    have hU : ∀ r, r ∈ Ur → r.u ∈ Region.ready .any ops.toArray L → apAll ops Ua r.u = true → segOk ops Ua tgt n (L.setIfInBounds r.u true) lm (dropU r.u (Ur.map (·.u))) = true →
        wpOp P ops.toArray Q r.u (fun a' w' => AllD ops.toArray fs (L.setIfInBounds r.u true) w' ∧ wpAnyJ P ops.toArray Q (AllD ops.toArray fs) (n + rest) (L.setIfInBounds r.u true) a' w') a w := by
      intro r hrU hrd hap hseg
      obtain ⟨hrn, o, ho, hdst, hwant, hnew⟩ := M.ur r hrU
      obtain ⟨obj, hrun, hobj⟩ := hnew w
      have ho' : ops[r.u]? = some o := by simpa using ho
      unfold wpOp
      simp only [ho, hwant, if_true]
      left
      unfold Oper.wp
      rw [hrun]
      show _ ∧ _
      have S1 := EStep.skip M.st.wr obj
      rw [map_dropU] at hseg
      have hmem : ∀ r', r' ∈ (Ur.filter fun x => !Nat.beq x.u r.u) ↔ r' ∈ Ur ∧ r'.u ≠ r.u := fun r' => by
        rw [List.mem_filter]
        refine and_congr_right fun _ => ?_
        rw [Bool.not_eq_true', ← Bool.not_eq_true, Nat.beq_eq]
      have M' : Mid P T n0 F N ops news E0 h0 nx0 w0 (L.setIfInBounds r.u true) env s chk fs (Ur.filter fun x => !Nat.beq x.u r.u) (fun g => if g = r.g then w.heap.size else B g) E (a.put o.dst (newVal r.k w.heap.size obj)) (w.alloc obj) := by
        refine ⟨M.st.trans S1, M.G, M.hn, M.A.skip (fun d hd => M.eo r hrn d (by rw [← hdst]; exact hd)) _, M.I, M.cl.step hrd, M.C.mono _, M.ci, fun r' hr' => ?_, fun r' hr' => ?_, fun x hx y hy nx ny hxy => ?_, M.eo, M.od⟩
        · obtain ⟨h1, h2⟩ := (hmem r').1 hr'
          obtain ⟨k1, k2⟩ := M.ur r' h1
          exact ⟨k1, k2.put hsel ho' (apAll_ok hap (hUa r' k1) h2) _⟩
        · by_cases e : r' = r
          · right
            subst e
            have hb := M.st.sz
            refine ⟨by rw [if_pos rfl]; exact hb, by rw [if_pos rfl, size_alloc']; omega, ⟨obj, by rw [if_pos rfl]; exact alloc_new w obj, hobj, fun d hd => ?_⟩, fun g hg e => ?_⟩
            · rw [if_pos rfl]
              rw [hdst, hd]
              obtain ⟨_, _, _, hlt⟩ := M.od r' hrn
              have hlt := hlt d hd
              simp [Act.put, Array.getD_eq_getD_getElem?, M.A.size, hlt]
            · rw [if_pos rfl] at e
              have := (M.st.wr.lt g hg).2
              omega
          · rcases M.dn r' hr' with q | q
            · left
              exact (hmem r').2 ⟨q, fun h => e (hpw r' hr' r hrn (.inl h))⟩
            · right
              have hg : r'.g ≠ r.g := fun h => e (hpw r' hr' r hrn (.inr h))
              rw [if_neg hg]
              obtain ⟨x, hx, hxd, _⟩ := M.od r' hr'
              have hu : r'.u ≠ r.u := fun h => e (hpw r' hr' r hrn (.inl h))
              refine (q.step S1).put (fun d hd => ?_) _
              exact apart_dst hx ho' (apAll_ok hap (hUa r' hr') hu) d (by rw [hxd]; exact hd)
        · by_cases ex : x.g = r.g
          · have ex' := hpw x hx r hrn (.inr ex)
            by_cases ey : y.g = r.g
            · rw [ex', hpw y hy r hrn (.inr ey)]
            · exfalso
              rw [if_pos ex, if_neg ey] at hxy
              rcases M.dn y hy with q | q
              · exact ny ((hmem y).2 ⟨q, fun h => ey (by rw [hpw y hy r hrn (.inl h)])⟩)
              · have := q.2.1
                omega
          · by_cases ey : y.g = r.g
            · exfalso
              rw [if_neg ex, if_pos ey] at hxy
              rcases M.dn x hx with q | q
              · exact nx ((hmem x).2 ⟨q, fun h => ex (by rw [hpw x hx r hrn (.inl h)])⟩)
              · have := q.2.1
                omega
            · rw [if_neg ex, if_neg ey] at hxy
              exact M.inj x hx y hy (fun h => nx ((hmem x).2 ⟨h, fun h => ex (by rw [hpw x hx r hrn (.inl h)])⟩)) (fun h => ny ((hmem y).2 ⟨h, fun h => ey (by rw [hpw y hy r hrn (.inl h)])⟩)) hxy
      exact ⟨allD_of hT M'.G M'.hn M'.st.wr M'.C M'.ci, ih lm _ _ _ _ _ _ _ _ _ _ hseg hr M'⟩
    unfold segOk at hs
    cases lm with
    | nil =>
      simp only [Bool.and_eq_true] at hs
      obtain ⟨hs1, hs2⟩ := hs
      obtain ⟨r1, r2⟩ := readyIs_ok hs1
      refine ⟨fun h => absurd h r1, fun j hj => ?_⟩
      have hju := r2 j hj
      obtain ⟨r, hrU, rfl⟩ := List.mem_map.1 hju
      have := List.all_eq_true.1 hs2 _ hju
      simp only [Bool.and_eq_true] at this
      exact hU r hrU hj this.1 this.2
    | cons i lm =>
      simp only at hs
      simp only [runMain] at hr
      split at hr
      rotate_left
      · cases hr
      rename_i env' s' chk' hone
      unfold oneStep at hone
      split at hone
      rotate_left
      · cases hone
      rename_i o ho
      have ho' : ops.toArray[i]? = some o := by simpa using ho
      rw [ho] at hs
      simp only [Option.map_some] at hs
      cases hp : pureOp o.op with
      | true =>
        rw [hp] at hs hone
        simp only [Bool.and_eq_true, List.contains_iff_mem] at hs
        obtain ⟨hfree, hrd, hap, hseg⟩ := hs
        have heo : ∀ r, r ∈ news → ∀ d, r.dst = some d → o.dst ≠ some d := fun r hrn d hd => by
          obtain ⟨x, hx, hxd, _⟩ := M.od r hrn
          exact apart_dst hx ho (apMain_ok hap (hUa r hrn)) d (by rw [hxd]; exact hd)
        split at hone
        · rename_i hw
          have hw' := cWanted_ok hw M.A M.I
          split at hone
          · rename_i c s2 hc
            split at hone
            · rename_i env2 hd
              simp only [Option.some.injEq, Prod.mk.injEq] at hone
              obtain ⟨rfl, rfl, rfl⟩ := hone
              obtain ⟨rfl, v, v1, v2⟩ := cOp_run hT M.G M.hn M.A M.st.wr hc hp
              obtain ⟨A1, I1⟩ := dput_ok hd M.A M.I v2
              refine wpAnyJ_take (f := fun w => (execOp a.eval o).run P w = .ok (.value v) w) (v := v) ho' hp hsel M.cl hfree hrd hQ (.inl ⟨hw', fun w hw => hw⟩) v1 (allD_of hT M.G M.hn M.st.wr M.C M.ci) ?_
              refine ih lm Ur _ _ _ _ _ B E _ w hseg hr ⟨M.st, M.G, M.hn, A1, I1, M.cl.step hrd, .cons M.A v2 (M.C.mono _), ?_, ?_, ?_, M.inj, ?_, M.od⟩
              · intro p hpm
                rcases List.mem_cons.1 hpm with e | e
                · rw [e]; exact ⟨hp, _, hc⟩
                · exact M.ci p e
              · intro r hrU
                obtain ⟨k1, k2⟩ := M.ur r hrU
                refine ⟨k1, k2.put hsel ho (apMain_ok hap (hUa r k1)) v⟩
              · intro r hrn
                exact (M.dn r hrn).imp id fun q => q.put (heo r hrn) v
              · intro r hrn d hdd
                rw [dput_get hd (heo r hrn d hdd)]
                exact M.eo r hrn d hdd
            · cases hone
          · cases hone
        · rename_i hw
          have hw' := cWanted_ok hw M.A M.I
          split at hone
          · rename_i env2 hd
            simp only [Option.some.injEq, Prod.mk.injEq] at hone
            obtain ⟨rfl, rfl, rfl⟩ := hone
            obtain ⟨A1, I1⟩ := dput_ok hd M.A M.I (VR.undef (E := E))
            refine wpAnyJ_take (f := fun _ => True) (v := undef) ho' hp hsel M.cl hfree hrd hQ (.inr ⟨hw', rfl⟩) trivial (allD_of hT M.G M.hn M.st.wr M.C M.ci) ?_
            refine ih lm Ur _ _ _ _ _ B E _ w hseg hr ⟨M.st, M.G, M.hn, A1, I1, M.cl.step hrd, .triv (M.C.mono _), M.ci, ?_, ?_, M.inj, ?_, M.od⟩
            · intro r hrU
              obtain ⟨k1, k2⟩ := M.ur r hrU
              refine ⟨k1, k2.put hsel ho (apMain_ok hap (hUa r k1)) _⟩
            · intro r hrn
              exact (M.dn r hrn).imp id fun q => q.put (heo r hrn) _
            · intro r hrn d hdd
              rw [dput_get hd (heo r hrn d hdd)]
              exact M.eo r hrn d hdd
          · cases hone
        · cases hone
      | false =>
        rw [hp] at hs hone
        simp only [Bool.and_eq_true] at hs
        obtain ⟨hrs, hap, hseg, hUs⟩ := hs
        obtain ⟨r1, r2⟩ := readyIs_ok hrs
        have heo : ∀ r, r ∈ news → ∀ d, r.dst = some d → o.dst ≠ some d := fun r hrn d hd => by
          obtain ⟨x, hx, hxd, _⟩ := M.od r hrn
          exact apart_dst hx ho (apMain_ok hap (hUa r hrn)) d (by rw [hxd]; exact hd)
        refine ⟨fun h => absurd h r1, fun j hj => ?_⟩
        rcases List.mem_cons.1 (r2 j hj) with rfl | hju
        · have hL := ready_set hj
          unfold wpOp
          split at hone
          · rename_i hw
            have hw' := cWanted_ok hw M.A M.I
            simp only [ho', hw', if_true]
            split at hone
            · rename_i c s2 hc
              split at hone
              · rename_i env2 hd
                simp only at hone
                split at hone
                · rename_i chk2 hck
                  simp only [Option.some.injEq, Prod.mk.injEq] at hone
                  obtain ⟨rfl, rfl, rfl⟩ := hone
                  left
                  refine cOp_ok hT hF M.G M.hn M.A M.st.wr hc fun E1 w1 u S1 hu => ?_
                  obtain ⟨A1, I1⟩ := dput_ok hd (M.A.le S1.le) M.I hu
                  obtain ⟨C1, ci1⟩ := chkStep_ok ho hp hL ((M.C.le S1.le).mono j) hck
                  have M' : Mid P T n0 F N ops news E0 h0 nx0 w0 (L.setIfInBounds j true) env2 s2 chk2 fs Ur B E1 (a.put o.dst u) w1 := by
                    refine ⟨M.st.trans S1, M.G.le S1.le, S1.le.n0.trans M.hn, A1, I1, M.cl.step hj, C1, ci1, fun r hrU => ?_, fun r hrn => ?_, M.inj, fun r hrn d hdd => ?_, M.od⟩
                    · obtain ⟨k1, k2⟩ := M.ur r hrU
                      refine ⟨k1, (k2.le S1.le).put hsel ho (apMain_ok hap (hUa r k1)) _⟩
                    · exact (M.dn r hrn).imp id fun q => (q.step S1).put (heo r hrn) _
                    · rw [dput_get hd (heo r hrn d hdd)]
                      exact M.eo r hrn d hdd
                  exact ⟨allD_of hT M'.G M'.hn M'.st.wr M'.C M'.ci, ih lm Ur _ _ _ _ _ _ _ _ _ hseg hr M'⟩
                · cases hone
              · cases hone
            · cases hone
          · rename_i hw
            have hw' := cWanted_ok hw M.A M.I
            simp only [ho', hw', Bool.false_eq_true, if_false]
            split at hone
            · rename_i env2 hd
              simp only [Option.some.injEq, Prod.mk.injEq] at hone
              obtain ⟨rfl, rfl, rfl⟩ := hone
              obtain ⟨A1, I1⟩ := dput_ok hd M.A M.I (VR.undef (E := E))
              have M' : Mid P T n0 F N ops news E0 h0 nx0 w0 (L.setIfInBounds j true) env2 s chk fs Ur B E (a.put o.dst undef) w := by
                refine ⟨M.st, M.G, M.hn, A1, I1, M.cl.step hj, M.C.mono j, M.ci, fun r hrU => ?_, fun r hrn => ?_, M.inj, fun r hrn d hdd => ?_, M.od⟩
                · obtain ⟨k1, k2⟩ := M.ur r hrU
                  refine ⟨k1, k2.put hsel ho (apMain_ok hap (hUa r k1)) _⟩
                · exact (M.dn r hrn).imp id fun q => q.put (heo r hrn) _
                · rw [dput_get hd (heo r hrn d hdd)]
                  exact M.eo r hrn d hdd
              exact ⟨allD_of hT M'.G M'.hn M'.st.wr M'.C M'.ci, ih lm Ur _ _ _ _ _ _ _ _ _ hseg hr M'⟩
            · cases hone
          · cases hone
        · obtain ⟨r, hrU, rfl⟩ := List.mem_map.1 hju
          have := List.all_eq_true.1 hUs _ hju
          simp only [Bool.and_eq_true] at this
          exact hU r hrU hj this.1 (by simpa only [runMain] using this.2)
end
end Go.Proofs.YthdbddolkfibkaaGreatDoor
