/- A call's own memory as one fact: bytes are appended. -/
import Derived.Test.YtokneepfknepaaaDoorSt
import Derived.Deep.DeepCutAuto
set_option linter.unusedSimpArgs false
set_option linter.unusedVariables false
namespace Go.Proofs.YtokneepfknepaaaDoor
open Go.RowKit

theorem St.call0 {S : List Nat} {w0 w w' : World} {G D : List Res} (h : St S w0 w G) (k : St [] w w' D) : St S w0 w' (D ++ G) := h.call k (by simp)
theorem st_go {w w' : World} {D : List Res} {P : Prop} (k : St [] w w' D) (h : ∃ S w0 G, St S w0 w G ∧ (St S w0 w' (D ++ G) → P)) : P := by
  obtain ⟨S, w0, G, h1, h2⟩ := h
  exact h2 (h1.call0 k)
theorem St.fr0 {S : List Nat} {w0 w w' : World} {G : List Res} (h : St S w0 w G) (k : Fr [] w w') : St S w0 w' G := h.step0 k

theorem size_drew (w : World) : w.drew.heap.size = w.heap.size := rfl
theorem size_drewN (w : World) (n : Nat) : (w.drewN n).heap.size = w.heap.size := rfl
theorem St.eqv {S : List Nat} {w0 w : World} {G : List Res} {v : Value} {X X' : List UInt8} (h : St S w0 w (.own 5 1 v X.length (X.map B) :: G)) (e : X = X') : St S w0 w (.own 5 1 v X'.length (X'.map B) :: G) := e ▸ h
/-- The shape of a slice of the call's own. -/
theorem St.shape {S : List Nat} {w0 w : World} {G G' : List Res} {e : TypeId} {k n : Nat} {v : Value} {xs : List Value} (h : St S w0 w G) (p : Pick G (.own e k v n xs) G') : ∃ a c, v = .slice a n c := by
  obtain ⟨a, c, h, _, _⟩ := Own.shape (h.own p)
  exact ⟨a, c, h⟩
/-- Where the bytes of a slice come from. -/
inductive SrcOf (G : List Res) (w : World) : Value → List UInt8 → Prop
  | own {v : Value} {Y : List UInt8} {G' : List Res} : Pick G (.own 5 1 v Y.length (Y.map B)) G' → SrcOf G w v Y
  | lit {g c : Nat} {k : Int} {T : TypeId} {G' : List Res} : Pick G (.loc g [.int .u8 k] T) G' → (h : 0 ≤ k ∧ k < 256) → SrcOf G w (.slice (some ⟨g, 0, none⟩) 1 c) [UInt8.ofNat k.toNat]
  | arg {v : Value} {Y : List UInt8} : Sl [] w 1 v Y.length (Y.map B) → SrcOf G w v Y
theorem B_int {k : Int} (h : 0 ≤ k ∧ k < 256) : B (UInt8.ofNat k.toNat) = .int .u8 k := by
  unfold B
  rw [UInt8.toNat_ofNat_of_lt' (by show k.toNat < 256; omega)]
  congr 1
  omega
theorem SrcOf.src {S : List Nat} {w0 w : World} {G : List Res} (h : St S w0 w G) {v : Value} {Y : List UInt8} (k : SrcOf G w v Y) : Src Tryd.prog 1 26 v Y.length (Y.map B) w := by
  cases k with
  | own p => exact (Own.sl (h.own p) (S' := []) (by simp)).src und_bytes
  | @lit g c k T G' p hk =>
    have hl := h.loc p
    have hc : w.cell? ⟨g, 0, none⟩ = some (.int .u8 k) := by rw [hl.cell]; rfl
    show Src Tryd.prog 1 26 (.slice (some ⟨g, 0, none⟩) 1 c) 1 [B (UInt8.ofNat k.toNat)] w
    rw [B_int hk]
    exact src1 und_bytes hc rfl
  | arg hs => exact hs.src und_bytes

/-- Bytes that may be appended to. -/
inductive Dst (G : List Res) : Value → List UInt8 → List Res → Prop
  | own {v : Value} {X : List UInt8} {G' : List Res} : Pick G (.own 5 1 v X.length (X.map B)) G' → Dst G v X G'
  | lit {g : Nat} {k : Int} {G' : List Res} : Pick G (.loc g [.int .u8 k] 5) G' → (h : 0 ≤ k ∧ k < 256) → Dst G (.slice (some ⟨g, 0, none⟩) 1 1) [UInt8.ofNat k.toNat] G'
  | nil {c : Nat} : (h : c = 0) → Dst G (.slice none 0 c) [] G
theorem St.dst {S : List Nat} {w0 w : World} {G G' : List Res} (h : St S w0 w G) {v : Value} {X : List UInt8} (d : Dst G v X G') : St S w0 w (.own 5 1 v X.length (X.map B) :: G') := by
  cases d with
  | own p => exact h.pick p
  | @lit g k _ p hk =>
    have h1 := h.pick p
    have hl := h1.head
    have ha := List.pairwise_cons.1 h1.apart
    refine h1.tail.put ?_ (fun b hb => h1.new (.loc g [.int .u8 k] 5) List.mem_cons_self b (by simpa [Res.blk, Value.blk] using hb)) (fun b hb s hs => ha.1 s hs b (by simpa [Res.blk, Value.blk] using hb))
    show Own [] w 5 1 (.slice (some ⟨g, 0, none⟩) 1 1) 1 [B (UInt8.ofNat k.toNat)]
    rw [B_int hk]
    exact ⟨rfl, by simp [Value.oneCell'], .inr ⟨g, 1, #[.int .u8 k], rfl, by simp, hl, Nat.le_refl _, by decide, rfl, rfl⟩⟩
  | nil hc =>
    subst hc
    exact h.put (Out.nil _) (fun b hb => by cases hb) (fun b hb => by cases hb)
theorem st_app {w : World} {ops : Array Oper} {rest : List Oper} {o : Oper} {a : Act} {Q : Exit → Act → World → Prop} {s x : Operand} {v xv : Value} (hgd : o.guard = none)
    (ho : o.op = .call { callee := .builtin .append, args := #[s, x], argTypes := #[26, 26] }) (hs : a.eval s = v) (hx : a.eval x = xv)
    (h : ∃ S w0 G G' X Y, St S w0 w G ∧ Dst G v X G' ∧ SrcOf G w xv Y ∧ X.length + Y.length ≤ 140737488355328 ∧
      ∀ v' w', St S w0 w' (.own 5 1 v' (X ++ Y).length ((X ++ Y).map B) :: G') → wpList Tryd.prog ops Q rest (a.put o.dst v') w') :
    wpList Tryd.prog ops Q (o :: rest) a w := by
  obtain ⟨S, w0, G, G', X, Y, hst, hp, hsrc, hb, h⟩ := h
  refine app_u8 hgd s x 26 ho v X.length (X.map B) hs ((hst.dst hp).head) xv Y.length (Y.map B) hx (hsrc.src hst) hb fun v' w' ho' hf hb' => ?_
  have hst' := (hst.dst hp).app hf ho' hb'
  have e1 : X.length + Y.length = (X ++ Y).length := by simp
  have e2 : X.map B ++ Y.map B = (X ++ Y).map B := by simp
  rw [e1, e2] at hst'
  exact h v' w' hst'
theorem step_st {w : World} {ops : Array Oper} {o : Oper} {a : Act} {K : Act → World → Prop} {Q : Exit → Act → World → Prop} {E : Prop} {s x : Operand} {v xv : Value} (hgd : o.guard = none)
    (ho : o.op = .call { callee := .builtin .append, args := #[s, x], argTypes := #[26, 26] }) (hs : a.eval s = v) (hx : a.eval x = xv)
    (h : ∃ S w0 G G' X Y, St S w0 w G ∧ Dst G v X G' ∧ SrcOf G w xv Y ∧ X.length + Y.length ≤ 140737488355328 ∧
      ∀ v' w', St S w0 w' (.own 5 1 v' (X ++ Y).length ((X ++ Y).map B) :: G') → K (a.put o.dst v') w') :
    if Region.wanted o (yielded ops a.tmps) = true then Oper.wp Tryd.prog o a w K Q else E := by
  obtain ⟨S, w0, G, G', X, Y, hst, hp, hsrc, hb, h⟩ := h
  refine step_app_u8 hgd s x 26 ho v X.length (X.map B) hs ((hst.dst hp).head) xv Y.length (Y.map B) hx (hsrc.src hst) hb fun v' w' ho' hf hb' => ?_
  have hst' := (hst.dst hp).app hf ho' hb'
  have e1 : X.length + Y.length = (X ++ Y).length := by simp
  have e2 : X.map B ++ Y.map B = (X ++ Y).map B := by simp
  rw [e1, e2] at hst'
  exact h v' w' hst'
end Go.Proofs.YtokneepfknepaaaDoor
