/- append at a step of a region that draws its order, on a slice of bytes of the call's own. -/
import Derived.Test.YtokneepfknepaaaDoorPutW9
import Derived.Deep.RegionHeld3
import Derived.RegionTactic
set_option linter.unusedSimpArgs false
set_option linter.unusedVariables false
namespace Go.Proofs.YtokneepfknepaaaDoor
open Go.RowKit

theorem step_app_u8 {w : World} {ops : Array Oper} {o : Oper} {a : Act} {K : Act → World → Prop} {Q : Exit → Act → World → Prop} {E : Prop} (hgd : o.guard = none) (s x : Operand) (tx : TypeId)
    (ho : o.op = .call { callee := .builtin .append, args := #[s, x], argTypes := #[26, tx] })
    (v : Value) (n : Nat) (xs : List Value) (hs : a.eval s = v) (hown : Own [] w 5 1 v n xs) (xv : Value) (m : Nat) (news : List Value) (hx : a.eval x = xv) (hsrc : Src Tryd.prog 1 tx xv m news w)
    (hb : n + m ≤ 140737488355328)
    (h : ∀ v' w', Own [] w' 5 1 v' (n + m) (xs ++ news) → Fr (Value.blk v) w w' → (Value.blk v' = Value.blk v ∨ Value.blk v' = [w.heap.size]) → K (a.put o.dst v') w') :
    if Region.wanted o (yielded ops a.tmps) = true then Oper.wp Tryd.prog o a w K Q else E := by
  have hw : Region.wanted o (yielded ops a.tmps) = true := by simp [Region.wanted, hgd]
  rw [if_pos hw]
  obtain ⟨i0, hi, hz0, hz1, hz2⟩ := info_parts info_u8
  obtain ⟨v', w', h1, h2, h3, h4⟩ := run_app (P := Tryd.prog) (S := []) w 26 tx o.type 5 i0 _ 1 1 und_bytes hi hz0 hz1 hz2 rfl (by decide) (by simp) hown hsrc (by omega) (by unfold maxLen; omega)
  unfold Oper.wp execOp
  simp only [ho, resolve, invoke, builtin, Sem.run_bind, Sem.run_pure, Result.andThen_ok, List.map_toArray, List.map_cons, List.map_nil, hs, hx, h1]
  exact h _ _ h2 h3 h4
theorem Own.drew {S : List Nat} {w : World} {e : TypeId} {k n : Nat} {v : Value} {xs : List Value} (h : Own S w e k v n xs) : Own S w.drew e k v n xs := h.fr (Fr.refl [] w).drew (by simp)
theorem Out.drew {w : World} {v : Value} {xs : List UInt8} (h : Out w v xs) : Out w.drew v xs := Own.drew h
theorem src_drew {P : Program} {tx e' : TypeId} {g : Nat} {w : World} (hk : P.underlying tx = some (.slice e')) (hg : w.heap.size = g) (u : Value) (e : TypeId) (c : Nat) (h1 : u.oneCell' = true) : Src P 1 tx (.slice (some ⟨g, 0, none⟩) 1 c) 1 [u] (w.alloc (.cells #[u] e)).drew := by
  subst hg
  exact src1 hk (show (w.alloc (.cells #[u] e)).cell? ⟨w.heap.size, 0, none⟩ = some u by simp) h1
theorem Sl.ap {w w' : World} {v v' sv : Value} {k n : Nat} {cs : List Value} (h : Sl (Value.blk v) w k sv n cs) (hA : Ap w v w' v') : Sl (Value.blk v') w' k sv n cs := by
  obtain ⟨h1, h2, a, cap, h3, h4, h5, hN, h6⟩ := h
  refine ⟨h1, h2, a, cap, h3, h4, h5, hN, ?_⟩
  rcases h6 with h6 | ⟨b, off, e, hn, hb, hc⟩
  · exact .inl h6
  · refine .inr ⟨b, off, e, fun hm => ?_, Nat.lt_of_lt_of_le hb hA.1.size, fun j hj => ?_⟩
    · rcases hA.2 b hm with h | h
      · exact hn h
      · omega
    · rw [hA.1.cell hb hn]; exact hc j hj
theorem Loc.ap {w w' : World} {v v' : Value} {b : Nat} {c : List Value} {T : TypeId} (h : Loc w b c T) (hA : Ap w v w' v') (hn : b ∉ Value.blk v) : Loc w' b c T := h.fr hA.1 hn
theorem Ap.not {w w' : World} {v v' : Value} (hA : Ap w v w' v') {b : Nat} (hb : b < w.heap.size) (hn : b ∉ Value.blk v) : b ∉ Value.blk v' := fun hm => (hA.2 b hm).elim hn (fun h => by omega)
theorem Out.not {w : World} {v : Value} {xs : List UInt8} (h : Out w v xs) : w.heap.size ∉ Value.blk v := fun hm => by have := (Own.blk_lt h _ hm).1; omega
/-- What the numbers of a type hold. -/
structure SubT.ok (t : SubT) : Prop where
  sup : ∀ h, h ∈ t.supers → 0 ≤ h.n ∧ h.n < 9223372036854775808
  par : ∀ x, x ∈ t.comp.params → x.heap.ok
  res : ∀ x, x ∈ t.comp.results → x.heap.ok
  fld : ∀ x, x ∈ t.comp.fields → x.val.heap.ok
def SubT.len (t : SubT) : Nat := t.supers.length + t.comp.params.length + t.comp.results.length + t.comp.fields.length
end Go.Proofs.YtokneepfknepaaaDoor
