
/- A reckoner for whole calls on known inputs, part 13c: a drawn region, whole. -/
import Derived.Test.YthdbddolkfibkaaGreatDoorEvP
set_option linter.unusedSimpArgs false
set_option linter.unusedVariables false
namespace Go.Proofs.YthdbddolkfibkaaGreatDoor
open Go.RowKit
section
variable {P : Program} {T : Tab} {n0 : Nat} {F : CallF} {N : Nat} {ops : List Oper} {Q : Exit → Act → World → Prop}
theorem delDsts_ok : ∀ {U : List Nat} {env env' : Tr CV}, delDsts N ops U env = some env' → (∀ t c, env'.get t = some c → env.get t = some c) ∧ dfOf env' N = dfOf env N ∧ ∀ u, u ∈ U → ∀ x, ops[u]? = some x → ∀ d, x.dst = some d → env'.get d = none
  | [], env, env', h => by
    injection h with h
    subst h
    exact ⟨fun _ _ a => a, rfl, fun u hu => by cases hu⟩
  | u :: us, env, env', h => by
    unfold delDsts at h
    split at h
    · rename_i env1 o h1 ho
      obtain ⟨k1, k3, k2⟩ := delDsts_ok h1
      split at h
      · rename_i d hd
        split at h
        · rename_i hb hbN
          injection h with h
          subst h
          have hb := Nat.le_of_ble_eq_true hb
          have hbN := Nat.le_of_ble_eq_true hbN
          have hg : ∀ t, (env1.put none TD d).get t = if t = d then none else env1.get t := fun t => Tr.get_put _ TD env1 d t (Nat.lt_of_lt_of_le (Nat.lt_of_succ_le hb) (by decide))
          refine ⟨fun t c ht => ?_, by rw [dfOf_put (Nat.ne_of_lt hbN) (Nat.lt_of_succ_le hb)]; exact k3, fun v hv x hx e he => ?_⟩
          · rw [hg] at ht
            split at ht
            · cases ht
            · exact k1 t c ht
          · rw [hg]
            split
            · rfl
            · rename_i hne
              rcases List.mem_cons.1 hv with q | q
              · subst q
                rw [ho] at hx
                injection hx with hx
                subst hx
                rw [hd] at he
                injection he with he
                exact absurd he.symm hne
              · exact k2 v q x hx e he
        · cases h
      · rename_i hd
        injection h with h
        subst h
        refine ⟨k1, k3, fun v hv x hx e he => ?_⟩
        rcases List.mem_cons.1 hv with q | q
        · subst q
          rw [ho] at hx
          injection hx with hx
          subst hx
          rw [hd] at he
          cases he
        · exact k2 v q x hx e he
    · cases h
theorem forkAll_ok (hT : TabOk P T) {E : Emb} {env : Tr CV} {a : Act} (G : GlE T E) (A : AR E N env a) (I : EnvIn N env) : ∀ {us : List Nat} {g : Nat} {news : List NewR}, forkAll T ops env us g = some news →
    news.map (·.u) = us ∧ (∀ r, r ∈ news → g ≤ r.g ∧ r.g < g + 4 * news.length ∧ r.g % 4 = g % 4) ∧ news.Pairwise (fun r r' => r.g ≠ r'.g) ∧ ∀ r, r ∈ news → UF P ops.toArray r E a ∧ ∃ x, ops[r.u]? = some x ∧ x.dst = r.dst
  | [], g, news, h => by
    injection h with h
    subst h
    exact ⟨rfl, fun r hr => (by cases hr), .nil, fun r hr => (by cases hr)⟩
  | u :: us, g, news, h => by
    unfold forkAll at h
    split at h
    · rename_i o ho
      split at h
      · rename_i cs k l hw hc hl
        injection h with h
        subst h
        obtain ⟨k1, k2, k3, k4⟩ := forkAll_ok hT G A I hl
        have hw := cWanted_ok hw A I
        have hn := cNew_ok hT G A hc
        refine ⟨by rw [List.map_cons, k1], fun r hr => ?_, .cons (fun r hr => ?_) k3, fun r hr => ?_⟩
        · rcases List.mem_cons.1 hr with e | e
          · subst e
            refine ⟨Nat.le_refl _, ?_, rfl⟩
            show g < _
            simp only [List.length_cons]
            omega
          · have := k2 r e
            simp only [List.length_cons]
            omega
        · have := k2 r hr
          show g ≠ r.g
          omega
        · rcases List.mem_cons.1 hr with e | e
          · subst e
            exact ⟨⟨o, by simpa using ho, rfl, hw, hn⟩, o, ho, rfl⟩
          · exact k4 r e
      · cases h
    · cases h
theorem pw_of : ∀ {us : List Nat} {news : List NewR}, nodupB us = true → news.map (·.u) = us → news.Pairwise (fun r r' => r.g ≠ r'.g) → PW news
  | _, [], _, _, _ => fun r hr => by cases hr
  | [], r :: rs, _, h, _ => by cases h
  | u :: us, r0 :: rs, hn, hm, hg => by
    simp only [List.map_cons, List.cons.injEq] at hm
    obtain ⟨rfl, hm⟩ := hm
    simp only [nodupB, Bool.and_eq_true, Bool.not_eq_true'] at hn
    obtain ⟨hn1, hn2⟩ := hn
    cases hg with
    | cons hg1 hg2 =>
    have ih := pw_of hn2 hm hg2
    have hnot : ∀ r, r ∈ rs → r.u ≠ r0.u := fun r hr e => by
      have hmem : r.u ∈ us := by rw [← hm]; exact List.mem_map.2 ⟨r, hr, rfl⟩
      have : (us.any fun x => Nat.beq x r0.u) = true := List.any_eq_true.2 ⟨r.u, hmem, by rw [e]; simp⟩
      rw [hn1] at this
      cases this
    intro r hr r' hr' h
    rcases List.mem_cons.1 hr with e | e <;> rcases List.mem_cons.1 hr' with e' | e'
    · rw [e, e']
    · exfalso
      subst e
      exact h.elim (fun q => hnot r' e' q.symm) (hg1 r' e')
    · exfalso
      subst e'
      exact h.elim (fun q => hnot r e q) (fun q => hg1 r e q.symm)
    · exact ih r e r' e' h
theorem relAll_dst : ∀ {rs : List NewR} {env env2 : Tr CV} {h h2 : Tr (List CV)}, relAll N rs env h = some (env2, h2) → ∀ r, r ∈ rs → ∀ d, r.dst = some d → d < N
  | [], _, _, _, _, _ => fun r hr => by cases hr
  | r0 :: rs, env, env2, h, h2, e => by
    unfold relAll at e
    split at e
    · rename_i env1 hd hb
      intro r hr d hdd
      rcases List.mem_cons.1 hr with q | q
      · subst q
        rw [hdd] at hd
        simp only [dput] at hd
        split at hd
        · rename_i q1 q2
          exact Nat.lt_of_succ_le (Nat.le_of_ble_eq_true q1)
        · cases hd
      · exact relAll_dst e r q d hdd
    · cases e
theorem rel_ok {E0 : Emb} {h0 : Tr (List CV)} {nx0 nx : Nat} {w0 w : World} {a : Act} {B : Nat → Nat} : ∀ {rs : List NewR} {env env2 : Tr CV} {h h2 : Tr (List CV)} {E : Emb}, relAll N rs env h = some (env2, h2) → EStep E0 h0 nx0 w0 E h nx w →
    (∀ r, r ∈ rs → nx0 ≤ r.g ∧ r.g < nx ∧ r.g % 4 = 0 ∧ ¬ E.on r.g ∧ PD w0.heap.size r (B r.g) E a w) → rs.Pairwise (fun r r' => r.g ≠ r'.g ∧ B r.g ≠ B r'.g) → AR E N env a → EnvIn N env → ∃ E2, EStep E0 h0 nx0 w0 E2 h2 nx w ∧ AR E2 N env2 a ∧ EnvIn N env2 ∧ E.le E2
  | [], env, env2, h, h2, E, e, S, _, _, A, I => by
    simp only [relAll, Option.some.injEq, Prod.mk.injEq] at e
    obtain ⟨rfl, rfl⟩ := e
    exact ⟨E, S, A, I, .refl E⟩
  | r :: rs, env, env2, h, h2, E, e, S, H, hp, A, I => by
    unfold relAll at e
    split at e
    · rename_i env1 hd hb
      have hb := Nat.lt_of_succ_le (Nat.le_of_ble_eq_true hb)
      obtain ⟨c1, c2, cm, c3, c4, c5, ⟨obj, c6, c7, c8⟩, c9⟩ := H r List.mem_cons_self
      obtain ⟨S1, V1, le1⟩ := S.adopt c3 c1 c2 hb cm c4 c5 c6 c7 c9
      cases hp with
      | cons hp1 hp2 =>
      have A1 : AR (E.ext r.g (B r.g) 0 (objCap obj)) N env1 a ∧ EnvIn N env1 := by
        unfold dput at hd
        split at hd
        · injection hd with hd
          subst hd
          exact ⟨A.le le1, I⟩
        · rename_i t hdst
          split at hd
          · rename_i q1 q2
            injection hd with hd
            subst hd
            have q1 := Nat.le_of_ble_eq_true q1
            have q2 := Nat.lt_of_succ_le (Nat.le_of_ble_eq_true q2)
            refine ⟨(A.le le1).same q1 q2 (by rw [c8 t hdst]; exact V1), fun x y hxy => ?_⟩
            unfold eput at hxy
            rw [Tr.get_put _ TD env t x (by show t < 2 ^ 40 - 1; unfold keyMax at q2; omega)] at hxy
            split at hxy
            · rename_i e
              rw [e]; exact .inl q1
            · exact I x y hxy
          · cases hd
      obtain ⟨E2, S2, A2, I2, le2⟩ := rel_ok e S1 (fun r' hr' => by
        obtain ⟨d1, d2, dm, d3, d4, d5, ⟨obj', d6, d7, d8⟩, d9⟩ := H r' (List.mem_cons_of_mem _ hr')
        obtain ⟨n1, n2⟩ := hp1 r' hr'
        refine ⟨d1, d2, dm, fun hon => hon.elim (fun q => n1 q.symm) d3, d4, d5, ⟨obj', d6, d7.le le1, d8⟩, fun x hx => ?_⟩
        by_cases q : x = r.g
        · simp only [Emb.ext, if_pos q]
          exact n2
        · simp only [Emb.ext, if_neg q]
          exact d9 x (hx.resolve_left q)) hp2 A1.1 A1.2
      exact ⟨E2, S2, A2, I2, le1.trans le2⟩
    · cases e
theorem seg_ok (hT : TabOk P T) (hF : CallOk P T n0 F) (hsel : Region.noSelect ops.toArray = true) (hQ : ∀ c a w, ¬ Q (.panic c) a w) {U lm : List Nat} {L tgt : Array Bool} {env env' : Tr CV} {s s' : HS} {chk chk' : Chk} {fs : Facts} {E : Emb} {a : Act} {w : World} {rest : Nat}
    (hnd : nodupB U = true) (hs : segOk ops U tgt (lm.length + U.length) L lm U = true) (h : segStep P T n0 F N ops U lm env s chk = some (env', s', chk')) (G : GlE T E) (hn : E.n0 = n0) (A : AR E N env a) (I : EnvIn N env) (W : WR E s.h s.nx w) (cl : Closed ops.toArray L) (C : ChkR P E N ops.toArray L chk fs) (ci : ChkIn P T n0 F s chk)
    (k : ∀ fs' E' w' a', EStep E s.h s.nx w E' s'.h s'.nx w' → AR E' N env' a' → EnvIn N env' → Closed ops.toArray tgt → ChkR P E' N ops.toArray tgt chk' fs' → ChkIn P T n0 F s' chk' → wpAnyJ P ops.toArray Q (AllD ops.toArray fs') rest tgt a' w') :
    wpAnyJ P ops.toArray Q (AllD ops.toArray fs) (lm.length + U.length + rest) L a w := by
  unfold segStep at h
  split at h
  · refine seg_go hT hF hsel hQ (news := []) (fun r hr => by cases hr) (E0 := E) (h0 := s.h) (nx0 := s.nx) (w0 := w) (fun r hr => by cases hr) ?_ _ lm [] L env s chk fs (fun _ => 0) E a w hs h
      ⟨.refl W, G, hn, A, I, cl, C, ci, fun r hr => by (cases hr), fun r hr => by (cases hr), fun r hr => by (cases hr), fun r hr => by (cases hr), fun r hr => by (cases hr)⟩
    intro fs' B E' a' w' M
    exact k fs' E' w' a' M.st M.A M.I M.cl M.C M.ci
  · split at h
    · cases h
    · rename_i envD hD
      split at h
      · cases h
      · rename_i news hnews
        split at h
        · cases h
        · cases h
        · rename_i env1 s1 chk1 hck0 hrun
          split at h
          · cases h
          · rename_i env2 h2 hrel
            split at h
            · rename_i hck
              simp only [Option.some.injEq, Prod.mk.injEq] at h
              obtain ⟨rfl, rfl, rfl⟩ := h
              obtain ⟨d1, d3, d2⟩ := delDsts_ok hD
              have AD : AR E N envD a := ⟨A.size, by rw [d3]; exact A.df, fun t c hc => A.get t c (d1 t c hc)⟩
              have ID : EnvIn N envD := fun t c hc => I t c (d1 t c hc)
              obtain ⟨f1, f2, f3, f4⟩ := forkAll_ok hT G AD ID hnews
              have hpw := pw_of hnd f1 f3
              have hdst := relAll_dst hrel
              have hno := noOf_ge s.nx 0
              have hW : WR E s.h (noOf s.nx 0 + 4 * news.length) w := W.nx (by omega)
              have hUa : ∀ r, r ∈ news → r.u ∈ U := fun r hr => by
                rw [← f1]
                exact List.mem_map.2 ⟨r, hr, rfl⟩
              rw [show segOk ops U tgt (lm.length + U.length) L lm U = segOk ops U tgt (lm.length + U.length) L lm (news.map (·.u)) by rw [f1]] at hs
              refine seg_go hT hF hsel hQ hpw (E0 := E) (h0 := s.h) (nx0 := noOf s.nx 0 + 4 * news.length) (w0 := w) hUa ?_ _ lm news L envD ⟨s.h, noOf s.nx 0 + 4 * news.length⟩ chk fs (fun _ => 0) E a w hs hrun
                ⟨.refl hW, G, hn, AD, ID, cl, C, ?_, fun r hr => ⟨hr, (f4 r hr).1⟩, fun r hr => .inl hr, fun r hr r' hr' n1 => absurd hr n1, fun r hr d hd => ?_, fun r hr => ?_⟩
              · intro fs' B E' a' w' M
                have S0 := M.st.lower (nx0 := s.nx) (by omega)
                have hnx : noOf s.nx 0 + 4 * news.length ≤ s1.nx := M.st.nxle
                obtain ⟨E2, S2, A2, I2, le2⟩ := rel_ok (B := B) hrel S0 (fun r hr => by
                  have hg := f2 r hr
                  refine ⟨by omega, by omega, by rw [hg.2.2, noOf_mod _ _ (by omega)], (M.st.ph r.g hg.2.1 (fun hon => ?_)).1, ?_⟩
                  · have := (W.lt r.g hon).1
                    omega
                  · rcases M.dn r hr with q | q
                    · cases q
                    · exact q) (f3.imp_of_mem fun {r r'} hr hr' hne => ⟨hne, fun hb => hne (by rw [M.inj r hr r' hr' (by simp) (by simp) hb])⟩) M.A M.I
                exact k fs' E2 w' a' S2 A2 I2 M.cl (M.C.le le2) (chkAll_ok hck)
              · exact chkAll_ok hck0
              · obtain ⟨x, hx, hxd⟩ := (f4 r hr).2
                exact d2 r.u (hUa r hr) x hx d (by rw [hxd]; exact hd)
              · obtain ⟨x, hx, hxd⟩ := (f4 r hr).2
                exact ⟨x, hx, hxd, hdst r hr⟩
            · cases h
theorem drawGo_ok (hT : TabOk P T) (hF : CallOk P T n0 F) (hsel : Region.noSelect ops.toArray = true) (hQ : ∀ c a w, ¬ Q (.panic c) a w) :
    ∀ (l : List (List Nat × List Nat)) {L : Array Bool} {env env' : Tr CV} {s s' : HS} {chk : Chk} {fs : Facts} {E : Emb} {a : Act} {w : World}, simOk ops L l = true → drawGo P T n0 F N ops l env s chk = some (env', s') → GlE T E → E.n0 = n0 → AR E N env a → EnvIn N env → WR E s.h s.nx w → Closed ops.toArray L → ChkR P E N ops.toArray L chk fs → ChkIn P T n0 F s chk →
    (∀ E' w' a', EStep E s.h s.nx w E' s'.h s'.nx w' → AR E' N env' a' → EnvIn N env' → Q .normal a' w') → wpAnyJ P ops.toArray Q (AllD ops.toArray fs) (segLen l) L a w
  | [], L, env, env', s, s', chk, fs, E, a, w, hs, h, G, hn, A, I, W, cl, C, ci, k => by
    simp only [simOk, List.isEmpty_iff] at hs
    simp only [drawGo, Option.some.injEq, Prod.mk.injEq] at h
    obtain ⟨rfl, rfl⟩ := h
    exact wpAnyJ_done hs (k E w a (EStep.refl W) A I) _
  | (U, lm) :: l, L, env, env', s, s', chk, fs, E, a, w, hs, h, G, hn, A, I, W, cl, C, ci, k => by
    simp only [simOk, Bool.and_eq_true] at hs
    obtain ⟨hs1, hs2, hs3⟩ := hs
    unfold drawGo at h
    split at h
    · rename_i env1 s1 chk1 hseg
      exact seg_ok hT hF hsel hQ hs1 hs2 hseg G hn A I W cl C ci fun fs' E1 w1 a1 S1 A1 I1 cl1 C1 ci1 => drawGo_ok hT hF hsel hQ l hs3 h (G.le S1.le) (S1.le.n0.trans hn) A1 I1 S1.wr cl1 C1 ci1 fun E' w' a' S' A' I' => k E' w' a' (S1.trans S') A' I'
    · cases h
theorem closed0 (ops : Array Oper) (n : Nat) : Closed ops (Array.replicate n false) := fun k o _ h => by
  rcases Nat.lt_or_ge k n with q | q
  · simp [q] at h
  · simp [Nat.not_lt.2 q] at h
theorem drawD_ok (hT : TabOk P T) (hF : CallOk P T n0 F) (N : Nat) : DrawOk P T n0 N (drawD P T n0 F N) := by
  intro id ops env s env' s' h E a w Q G hn A I W k
  unfold drawD at h
  split at h
  · rename_i l hl
    unfold schedOk at hl
    simp only at hl
    split at hl
    · rename_i hb
      injection hl with hl
      simp only [Bool.and_eq_true] at hb
      obtain ⟨⟨hb1, hb2⟩, hb3⟩ := hb
      rw [hl] at hb1 hb3
      have hlen := Nat.eq_of_beq_eq_true hb1
      have W' := (EStep.drew W).wr
      refine wp_mono (Q := fun e a w => e = .normal ∧ Q .normal a w) (wp_region_J (S := AllD ops.toArray []) hT.mixed ?_) (fun e a w hq => by rw [hq.1]; exact hq.2)
      have := drawGo_ok hT hF (Q := fun e a w => e = .normal ∧ Q .normal a w) hb2 (fun c a w hq => by cases hq.1) l hb3 h G hn A I W' (closed0 _ _) .nil (fun p hp => by cases hp) fun E' w' a' S' A' I' => ⟨rfl, k E' w' a' ((EStep.drew W).trans S') A' I'⟩
      rw [hlen] at this
      simpa using this
    · cases hl
  · cases h
end
end Go.Proofs.YthdbddolkfibkaaGreatDoor
