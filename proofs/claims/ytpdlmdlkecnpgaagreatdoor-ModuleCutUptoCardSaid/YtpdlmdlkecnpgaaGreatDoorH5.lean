/- Texts: RdW9 OpenW PutW PutW2 PutW3 PutW4. -/
import Derived.Test.YtpdlmdlkecnpgaaGreatDoorH0
import Derived.Test.YtpdlmdlkecnpgaaGreatDoorH4
import Derived.Lib.SliceRun
set_option linter.unusedSimpArgs false
set_option linter.unusedVariables false
namespace Go.Proofs.YtpdlmdlkecnpgaaGreatDoor
open Go.RowKit
theorem Sl.shape {S:List Nat} {w:World} {k n:Nat} {v:Value} {cs:List Value} (h:Sl S w k v n cs):∃a cap,v= .slice a n cap:=by
 obtain⟨_,_,a,cap,rfl,_⟩:=h
 exact⟨a,cap,rfl⟩
theorem Sl.out1 {S:List Nat} {w w':World} {lb k n:Nat} {v:Value} {cs:List Value} (h:Sl (lb::S) w k v n cs) (hf:Fr [lb] w w'):Sl S w' k v n cs:=
 (h.fr hf (by intro b _ hb;simp at hb;simp[hb])).sub fun b _ hb=>List.mem_cons_of_mem _ hb
theorem Sl.rd {S:List Nat} {w w':World} {rb k n:Nat} {v:Value} {cs:List Value} (h:Sl S w k v n cs) (hf:Fr [rb] w w') (hm:rb∈S):Sl S w' k v n cs:=
 h.fr hf (by intro b _ hb;simp at hb;subst hb;exact hm)
theorem Sl.one {S:List Nat} {w:World} {k n:Nat} {v:Value} {cs:List Value} (h:Sl S w k v n cs):v.oneCell'=true:=by
 obtain⟨_,_,a,cap,rfl,_⟩:=h
 rfl
theorem Gk {S:List Nat} {w:World} {e:TypeId} {k:Nat} {cs:List Value} (g:Nat) (hg:w.heap.size=g) (hl:cs.length=k) (h2:∀u∈cs,u.oneCell'=true) (hS:∀b,b∈S→b<w.heap.size):
 Sl S (w.alloc (.cells cs.toArray e)) k (.slice (some ⟨g,0,none⟩) 1 1) 1 cs:=by
 subst hg
 refine(bf.made e k 1 cs hS (by omega) h2 (by decide)).sl (S':=S) ?_
 intro b hb hm
 simp[Value.blk]at hb
 have:=hS b hm
 omega
def oO (S:List Nat) (w:World) (c:iW) (pv rv fv:Value):Prop:=
 Sl S w 4 pv c.params.length (c.params.flatMap cj)∧Sl S w 4 rv c.results.length (c.results.flatMap cj)∧Sl S w 6 fv c.fields.length (c.fields.flatMap fG)
def kb (S:List Nat) (w:World) (t:bu) (hv pv rv fv:Value):Prop:=
 Sl S w 2 hv t.supers.length (t.supers.flatMap ju)∧oO S w t.comp pv rv fv
def di (S:List Nat) (w:World):List bu→List Value→Prop
 | [],cs=>cs= []
 |t::ts,cs=>∃hv pv rv fv rest,cs= .bool t.final_::hv:: .int .i64 t.comp.kind::pv::rv::fv::rest∧kb S w t hv pv rv fv∧di S w ts rest
theorem oO.fr {S S':List Nat} {w w':World} {c:iW} {pv rv fv:Value} (h:oO S w c pv rv fv) (hf:Fr S' w w') (hs:∀b,b<w.heap.size→b∈S'→b∈S):oO S w' c pv rv fv:=
 ⟨h.1.fr hf hs,h.2.1.fr hf hs,h.2.2.fr hf hs⟩
theorem oO.sub {S S':List Nat} {w:World} {c:iW} {pv rv fv:Value} (h:oO S w c pv rv fv) (hs:∀b,b<w.heap.size→b∈S'→b∈S):oO S' w c pv rv fv:=
 ⟨h.1.sub hs,h.2.1.sub hs,h.2.2.sub hs⟩
theorem kb.fr {S S':List Nat} {w w':World} {t:bu} {hv pv rv fv:Value} (h:kb S w t hv pv rv fv) (hf:Fr S' w w') (hs:∀b,b<w.heap.size→b∈S'→b∈S):kb S w' t hv pv rv fv:=
 ⟨h.1.fr hf hs,h.2.fr hf hs⟩
theorem kb.sub {S S':List Nat} {w:World} {t:bu} {hv pv rv fv:Value} (h:kb S w t hv pv rv fv) (hs:∀b,b<w.heap.size→b∈S'→b∈S):kb S' w t hv pv rv fv:=
 ⟨h.1.sub hs,h.2.sub hs⟩
theorem di.fr {S S':List Nat} {w w':World} (hf:Fr S' w w') (hs:∀b,b<w.heap.size→b∈S'→b∈S):∀{ts:List bu} {cs:List Value},di S w ts cs→di S w' ts cs
 | [],_,h=>h
 | _:: _,_,⟨hv,pv,rv,fv,rest,e,h1,h2⟩=>⟨hv,pv,rv,fv,rest,e,h1.fr hf hs,di.fr hf hs h2⟩
theorem di.sub {S S':List Nat} {w:World} (hs:∀b,b<w.heap.size→b∈S'→b∈S):∀{ts:List bu} {cs:List Value},di S w ts cs→di S' w ts cs
 | [],_,h=>h
 | _:: _,_,⟨hv,pv,rv,fv,rest,e,h1,h2⟩=>⟨hv,pv,rv,fv,rest,e,h1.sub hs,di.sub hs h2⟩
theorem di.snoc {S:List Nat} {w:World} {t:bu} {hv pv rv fv:Value} (ht:kb S w t hv pv rv fv):∀{ts:List bu} {cs:List Value},di S w ts cs→
 di S w (ts++ [t]) (cs++ [.bool t.final_,hv,.int .i64 t.comp.kind,pv,rv,fv])
 | [],_,h=>by
  have h: _= []:=h
  subst h
  exact⟨hv,pv,rv,fv,[],rfl,ht,rfl⟩
 | _:: _,_,⟨hv',pv',rv',fv',rest,e,h1,h2⟩=>by
  subst e
  exact⟨hv',pv',rv',fv',rest++ _,rfl,h1,di.snoc ht h2⟩
set_option maxRecDepth 100000
set_option maxHeartbeats 400000
theorem Fu {S w rb bv bs s} (h:Rd S w rb bv bs s):
 Calls Tryz.prog 267 #[.pointer (some ⟨rb,0,none⟩)] w fun e w'=>∃v,e= .returned v∧Sl S w' 4 v (eT bs s).1.length ((eT bs s).1.flatMap cj)∧Rd S w' rb bv bs (eT bs s).2∧Fr [rb] w w':=by
 have hmf:∀(fn:Fn) (first cap:Array Value) (w:World),(Instr.makeFunc fn first cap).run Tryz.prog w= .ok (.func fn first cap) w:=fun _ _ _ _=>rfl
 go_enter Tryz.func267,Tryz.ntmps267
 go_wp2_with (go_at_call 284;refine(N8 h).mono ?_;rintro e w2 ⟨v2,rfl,hS2,hR2,hF2⟩)
 go_ret
 exact⟨v2,rfl,hS2,hR2,hF2⟩
theorem rX:Tryz.prog.underlying 134=some ((Tryz.prog.underlying 134).get (by kernel_rfl)):=by kernel_rfl
theorem pV:(Tryz.prog.info? 134).map (·.size)=some 4:=by kernel_rfl
set_option maxHeartbeats 1600000
theorem uQ {S w rb bv bs s} (h:Rd S w rb bv bs s):
 Calls Tryz.prog 252 #[.pointer (some ⟨rb,0,none⟩)] w fun e w'=>∃pv rv fv,e= .returned (.agg #[.int .i64 (et bs s).1.kind,pv,rv,fv])∧oO S w' (et bs s).1 pv rv fv∧Rd S w' rb bv bs (et bs s).2∧Fr [rb] w w':=by
 have hmf:∀(fn:Fn) (first cap:Array Value) (w:World),(Instr.makeFunc fn first cap).run Tryz.prog w= .ok (.func fn first cap) w:=fun _ _ _ _=>rfl
 have hle:=h.le
 have hrb:=h.loc.lt
 have hR:=h.loc1 (.cells #[.int .i64 0,.slice none 0 0,.slice none 0 0,.slice none 0 0] 134)
 have hL:bB (w.alloc (.cells #[.int .i64 0,.slice none 0 0,.slice none 0 0,.slice none 0 0] 134)) w.heap.size [.int .i64 0,.slice none 0 0,.slice none 0 0,.slice none 0 0] 134:=bB.new _ _ _
 have f0:Fr [rb] w (w.alloc (.cells #[.int .i64 0,.slice none 0 0,.slice none 0 0,.slice none 0 0] 134)):=(Fr.refl _ _).alloc _
 have hm1:=hR.mem
 by_cases q96:(ai bs s).1=96
 ·skip
  have g96:((((ai bs s).1:Nat):Int)==96)=true:=by simp;omega
  have hp:et bs s=(⟨1,(eT bs (ai bs s).2).1,(eT bs (eT bs (ai bs s).2).2).1,[]⟩,(eT bs (eT bs (ai bs s).2).2).2):=by unfold et;rw[if_pos q96]
  rw[hp]
  clear hp q96
  go_enter Tryz.func252,Tryz.ntmps252
  go_wp2_with first|(go_at_call 175;refine(d5 hR).mono ?_;rintro e w' ⟨rfl,rfl⟩)|((go_at_call 210;refine(fd hR).mono ?_;rintro e w1 ⟨rfl,hR1,hF1⟩);have hL1:=hL.fr hF1 (by simp;omega);have f1:=f0.trans hF1;have hLC1:=hL1.cell;have hLF1:=hL1.frz;have hLT1:=hL1.lt)|((go_at_call 267;refine(Fu hR1).mono ?_;rintro e w2 ⟨v2,rfl,hS2,hR2,hF2⟩;obtain⟨a2,c2,rfl⟩:=hS2.shape);have hL2:=hL1.fr hF2 (by simp;omega);have f2:=f1.trans hF2;have hLC2:=hL2.cell;have hLF2:=hL2.frz;have hLT2:=hL2.lt)|((go_at_call 267;refine(Fu hR2).mono ?_;rintro e w3 ⟨v3,rfl,hS3,hR3,hF3⟩;obtain⟨a3,c3,rfl⟩:=hS3.shape);have hL3:=hL2.fr hF3 (by simp;omega);have f3:=f2.trans hF3;have hLC3:=hL3.cell;have hLF3:=hL3.frz;have hLT3:=hL3.lt)
  refine eK rfl rfl ((((hL3.set 0 _).set 1 _).set 2 _).set 3 _) rX rfl pV rfl ⟨_,_,_,rfl,⟨?_,?_,?_⟩,?_,?_⟩
  ·exact(hS2.rd hF3 hm1).out1 (by exact cF)
  ·exact hS3.out1 (by exact cF)
  ·exact Sl.nil _ _ _
  ·exact tf
  ·exact cF
 ·by_cases q95:(ai bs s).1=95
  ·skip
   have g96:((((ai bs s).1:Nat):Int)==96)=false:=by simp;omega
   have g95:((((ai bs s).1:Nat):Int)==95)=true:=by simp;omega
   have hp:et bs s=(⟨2,[],[],(bX bs (bE bs) (ai bs s).2).1⟩,(bX bs (bE bs) (ai bs s).2).2):=by unfold et;rw[if_neg q96,if_pos q95]
   rw[hp]
   clear hp q96 q95
   go_enter Tryz.func252,Tryz.ntmps252
   go_wp2_with first|(go_at_call 175;refine(d5 hR).mono ?_;rintro e w' ⟨rfl,rfl⟩)|((go_at_call 210;refine(fd hR).mono ?_;rintro e w1 ⟨rfl,hR1,hF1⟩);have hL1:=hL.fr hF1 (by simp;omega);have f1:=f0.trans hF1;have hLC1:=hL1.cell;have hLF1:=hL1.frz;have hLT1:=hL1.lt)|((go_at_call 268;refine(Ei hR1).mono ?_;rintro e w2 ⟨v2,rfl,hS2,hR2,hF2⟩;obtain⟨a2,c2,rfl⟩:=hS2.shape);have hL2:=hL1.fr hF2 (by simp;omega);have f2:=f1.trans hF2;have hLC2:=hL2.cell;have hLF2:=hL2.frz;have hLT2:=hL2.lt)
   refine eK rfl rfl ((((hL2.set 0 _).set 1 _).set 2 _).set 3 _) rX rfl pV rfl ⟨_,_,_,rfl,⟨?_,?_,?_⟩,?_,?_⟩
   ·exact Sl.nil _ _ _
   ·exact Sl.nil _ _ _
   ·exact hS2.out1 (by exact cF)
   ·exact tf
   ·exact cF
  ·by_cases q94:(ai bs s).1=94
   ·skip
    have g96:((((ai bs s).1:Nat):Int)==96)=false:=by simp;omega
    have g95:((((ai bs s).1:Nat):Int)==95)=false:=by simp;omega
    have g94:((((ai bs s).1:Nat):Int)==94)=true:=by simp;omega
    have hp:et bs s=(⟨3,[],[],[(bE bs (ai bs s).2).1]⟩,(bE bs (ai bs s).2).2):=by unfold et;rw[if_neg q96,if_neg q95,if_pos q94]
    rw[hp]
    clear hp q96 q95 q94
    go_enter Tryz.func252,Tryz.ntmps252
    go_wp2_with first|(go_at_call 175;refine(d5 hR).mono ?_;rintro e w' ⟨rfl,rfl⟩)|((go_at_call 210;refine(fd hR).mono ?_;rintro e w1 ⟨rfl,hR1,hF1⟩);have hL1:=hL.fr hF1 (by simp;omega);have f1:=f0.trans hF1;have hLC1:=hL1.cell;have hLF1:=hL1.frz;have hLT1:=hL1.lt)|((go_at_call 269;refine(Bj hR1).mono ?_;rintro e w2 ⟨rfl,hR2,hF2⟩);have hL2:=hL1.fr hF2 (by simp;omega);have f2:=f1.trans hF2;have hLC2:=hL2.cell;have hLF2:=hL2.frz;have hLT2:=hL2.lt)
    refine eK rfl rfl (((((hL2.set 0 _).set 1 _).set 2 _).set 3 _).alloc _) rX rfl pV rfl ⟨_,_,_,rfl,⟨?_,?_,?_⟩,?_,?_⟩
    ·exact Sl.nil _ _ _
    ·exact Sl.nil _ _ _
    ·have hsz:=f2.size
     refine Gk (e:=208) (cs:=fG (bE bs (ai bs s).2).1) w2.heap.size (by simp) rfl ?_ ?_
     ·intro u hu;simp[fG]at hu;rcases hu with rfl|rfl|rfl|rfl|rfl|rfl<;>rfl
     ·intro b hb
      have h1:=h.lt b hb
      simp only[World.size_setCell]
      omega
    ·exact tf
    ·exact cF
   ·skip
    have g96:((((ai bs s).1:Nat):Int)==96)=false:=by simp;omega
    have g95:((((ai bs s).1:Nat):Int)==95)=false:=by simp;omega
    have g94:((((ai bs s).1:Nat):Int)==94)=false:=by simp;omega
    have hp:et bs s=(iW.zero,(ai bs s).2.form s.at_):=by unfold et;rw[if_neg q96,if_neg q95,if_neg q94]
    rw[hp]
    clear hp q96 q95 q94
    go_enter Tryz.func252,Tryz.ntmps252
    go_wp2_with first|(go_at_call 175;refine(d5 hR).mono ?_;rintro e w' ⟨rfl,rfl⟩)|((go_at_call 210;refine(fd hR).mono ?_;rintro e w1 ⟨rfl,hR1,hF1⟩);have hL1:=hL.fr hF1 (by simp;omega);have f1:=f0.trans hF1;have hLC1:=hL1.cell;have hLF1:=hL1.frz;have hLT1:=hL1.lt)|((go_at_call 270;refine(qX hR1 _ hle).mono ?_;rintro e w2 ⟨rfl,hR2,hF2⟩);have hL2:=hL1.fr hF2 (by simp;omega);have f2:=f1.trans hF2;have hLC2:=hL2.cell;have hLF2:=hL2.frz;have hLT2:=hL2.lt)
    refine eK rfl rfl ((((hL2.set 0 _).set 1 _).set 2 _).set 3 _) rX rfl pV rfl ⟨_,_,_,rfl,⟨?_,?_,?_⟩,?_,?_⟩
    ·exact Sl.nil _ _ _
    ·exact Sl.nil _ _ _
    ·exact Sl.nil _ _ _
    ·exact tf
    ·exact cF
theorem kC {S:List Nat} {w:World} {bv:Value} {bs:List UInt8} (h:Sl S w 1 bv bs.length (bs.map B)) (hl:bs.length≤1099511627776):
 Calls Tryz.prog 136 #[bv] w fun e w'=>∃v,e= .returned v∧bf [] w' 5 1 v bs.length (bs.map B)∧jS w v∧Fr [] w w':=by
 have hs:=h
 have hq:=fun(w:World) (a:Option Addr) (n c:Nat)=>Go.Lib.run_eql_slice_nil (P:=Tryz.prog) w 34 5 a n c 0 0 aB
 obtain⟨_,_,a,cap,rfl,hcap,hmax,hN,hdat⟩:=h
 cases a with
 |none=>
  have hn:bs.length=0:=by have:=hN rfl;omega
  have hbs:bs= []:=List.length_eq_zero_iff.1 hn
  subst hbs
  go_enter Tryz.func136,Tryz.ntmps136
  go_wp2
  go_ret
  exact⟨_,rfl,bf.nil _ _ _ _,jS.nil _,Fr.refl _ _⟩
 |some a=>
  have hq1:=fun(w:World) (n c:Nat)=>hq w (some a) n c
  simp only[Option.isNone_some]at hq1
  go_enter Tryz.func136,Tryz.ntmps136
  have hO:bf [] (w.alloc (.cells #[] 5)) 5 1 (.slice (some ⟨w.heap.size,0,none⟩) 0 0) 0 []:=bf.made (S:= []) 5 1 0 [] (by simp) rfl (by simp) (by decide)
  have hs2:=hs.fr ((Fr.refl [] w).alloc (.cells #[] 5)) (by simp)
  have hb:0+bs.length≤140737488355328:=by omega
  go_wp2_with (at_builtin;refine dF rfl (.tmp 5) (.tmp 6) _ rfl _ 0 [] rfl hO _ bs.length (bs.map B) rfl (hs2.src aB) hb ?_;intro v' w3 hown hf hb3)
  go_ret
  have hnew:jS w (.slice (some ⟨w.heap.size,0,none⟩) 0 0):=by intro b hb;simp[Value.blk]at hb;omega
  refine⟨v',rfl,by simpa using hown,hnew.app hb3 (by simp),(((Fr.refl [] w).alloc _).app hf hnew)⟩
theorem MB {S:List Nat} {w:World} {bv:Value} {bs:List UInt8} (h:Sl S w 1 bv bs.length (bs.map B)) (hg:Gl [] w) (hl:bs.length≤1099511627776):
 Calls Tryz.prog 104 #[bv] w fun e w'=>∃rb v,e= .returned (.pointer (some ⟨rb,0,none⟩))∧Rd [rb] w' rb v bs ah∧w.heap.size≤rb∧Fr [] w w':=by
 go_enter Tryz.func104,Tryz.ntmps104
 go_wp2_with (go_at_call 136;refine(kC h hl).mono ?_;rintro e w2 ⟨v2,rfl,hO2,hN2,hF2⟩;obtain⟨a2,c2,rfl,_⟩:=hO2.shape)
 go_ret
 have hsl:Sl [w2.heap.size] w2 1 (.slice a2 bs.length c2) bs.length (bs.map B):=hO2.sl (by
  intro b hb hm
  have:=(hO2.blk_lt b hb).1
  simp at hm
  omega)
 refine⟨w2.heap.size,_,rfl,⟨by simp,by simp,bB.new w2 (bW w2.heap.size (.slice a2 bs.length c2) ah) _,hsl.fr ((Fr.refl [] _).alloc _) (by simp),?_,by simp[ah],hl⟩,hF2.size,hF2.alloc _⟩
 have hg2:=hg.fr hF2 (by simp)
 refine Gl.fr (S:= [w2.heap.size]) (S':= []) ⟨hg2.lt,?_,hg2.cell⟩ ((Fr.refl [] _).alloc _) (by simp)
 have:=hg2.lt
 simp
 omega
theorem Sl.drewN {S:List Nat} {w:World} {k n:Nat} {v:Value} {cs:List Value} (h:Sl S w k v n cs) (m:Nat):Sl S (w.drewN m) k v n cs:=h.fr ((Fr.refl [] w).drewN m) (by simp)
theorem Gl.drewN {S:List Nat} {w:World} (h:Gl S w) (m:Nat):Gl S (w.drewN m):=h.fr ((Fr.refl [] w).drewN m) (by simp)
theorem Gl.alloc {S:List Nat} {w:World} (h:Gl S w) (o:Obj):Gl S (w.alloc o):=h.fr ((Fr.refl [] w).alloc o) (by simp)
def cX (w:World) (v:Value) (xs:List UInt8):Prop:=bf [] w 5 1 v xs.length (xs.map B)
def Ap (w:World) (v:Value) (w':World) (v':Value):Prop:=Fr (Value.blk v) w w'∧∀b,b∈Value.blk v'→b∈Value.blk v∨w.heap.size≤b
theorem Ap.refl (w:World) (v:Value):Ap w v w v:=⟨Fr.refl _ _,fun _ h=> .inl h⟩
theorem Ap.trans {w w1 w2:World} {v v1 v2:Value} (h:Ap w v w1 v1) (k:Ap w1 v1 w2 v2):Ap w v w2 v2:=
 ⟨h.1.then k.1 h.2,fun b hb=>(k.2 b hb).elim (fun hb=>h.2 b hb) (fun hs=> .inr (Nat.le_trans h.1.size hs))⟩
theorem Ap.of {w w':World} {v v':Value} (hf:Fr (Value.blk v) w w') (hb:Value.blk v'=Value.blk v∨Value.blk v'= [w.heap.size]):Ap w v w' v':=
 ⟨hf,fun b hm=>by
  rcases hb with hb|hb
  ·rw[hb]at hm;exact .inl hm
  ·rw[hb]at hm;simp at hm;exact .inr (by omega)⟩
theorem Ap.fr0 {w w1:World} {v:Value} (hf:Fr [] w w1):Ap w v w1 v:=⟨hf.mono (by simp),fun _ h=> .inl h⟩
theorem Ap.alloc {w w1:World} {v v1:Value} (h:Ap w v w1 v1) (o:Obj):Ap w v (w1.alloc o) v1:=⟨h.1.alloc o,h.2⟩
theorem Gl.ap {w w':World} {v v':Value} (hg:Gl (Value.blk v) w) (h:Ap w v w' v'):Gl (Value.blk v') w':=
 ⟨Nat.lt_of_lt_of_le hg.lt h.1.size,fun hm=>(h.2 _ hm).elim hg.not (fun hs=>by have:=hg.lt;omega),fun o ho=>by rw[h.1.cell hg.lt hg.not];exact hg.cell o ho⟩
theorem cX.fr0 {w w':World} {v:Value} {xs:List UInt8} (h:cX w v xs) (hf:Fr [] w w'):cX w' v xs:=bf.fr h hf (by simp)
theorem cX.alloc {w:World} {v:Value} {xs:List UInt8} (h:cX w v xs) (o:Obj):cX (w.alloc o) v xs:=bf.alloc h o
theorem cX.nil (w:World):cX w (.slice none 0 0) []:=bf.nil _ _ _ _
theorem cX.app {w:World} {v:Value} {xs ys:List UInt8} (h:bf [] w 5 1 v (xs.length+ys.length) (xs.map B++ys.map B)):cX w v (xs++ys):=by
 unfold cX
 simpa using h
theorem cX.app1 {w:World} {v:Value} {xs:List UInt8} {c:UInt8} (h:bf [] w 5 1 v (xs.length+1) (xs.map B++ [B c])):cX w v (xs++ [c]):=by
 unfold cX
 simpa using h
def hb (k:Int) (n:Nat):List UInt8:=((List.range n).filter fun i=>dB.getD i 0==k).map fun i=>UInt8.ofNat (105+i)
theorem PH (k:Int) (n:Nat):hb k (n+1)=hb k n++(if dB.getD n 0==k then [UInt8.ofNat (105+n)]else []):=by
 unfold hb
 rw[List.range_succ,List.filter_append,List.map_append]
 congr 1
 by_cases h:(dB.getD n 0==k)=true
 ·rw[List.filter_cons,if_pos h,if_pos h];rfl
 ·rw[List.filter_cons,if_neg h,if_neg h];rfl
theorem Ms (k:Int) (n:Nat):(hb k n).length≤n:=by
 unfold hb
 rw[List.length_map]
 exact Nat.le_trans (List.length_filter_le _ _) (by simp)
theorem mv {w:World} (v:Value) (hg:Gl (Value.blk v) w) (xs:List UInt8) (h:aC) (ho:cX w v xs) (hn1: -9223372036854775808≤h.n) (hn2:h.n<9223372036854775808) (hx:xs.length≤70368744177664):
 Calls Tryz.prog 195 #[v,fe h] w fun e w'=>∃v',e= .returned v'∧cX w' v' (xs++d8 h)∧Ap w v w' v':=by
 obtain⟨va,vc,rfl,_⟩:=bf.shape ho
 unfold fe
 by_cases h13:h.kind=13
 ·have hp:d8 h=eN h.n:=by unfold d8;rw[if_pos h13]
  have g13:(h.kind==13)=true:=by simp[h13]
  have hlen:=i8 h.n hn1 hn2
  have hb1:xs.length+(eN h.n).length≤140737488355328:=by omega
  rw[hp]
  clear hp h13 hlen
  go_enter Tryz.func195,Tryz.ntmps195
  go_wp2_with first|(go_at_call 243;refine(CB h.n _ hn1 hn2).mono ?_;rintro e w2 ⟨v2,rfl,ho2,hN2,hF2⟩;have hoo:=bf.fr (cX.alloc ho _) hF2 (by simp);have hs2:=ho2.sl (S':= []) (by simp))|(at_builtin;refine dF rfl (.tmp 10) (.tmp 13) _ rfl _ _ _ rfl hoo _ _ _ rfl (hs2.src aB) hb1 ?_;intro v' w3 hown3 hf3 hb3)
  go_ret
  exact⟨v',rfl,cX.app hown3,(Ap.fr0 (((Fr.refl [] _).alloc _).trans hF2)).trans (Ap.of hf3 hb3)⟩
 ·have hp:d8 h=hb h.kind 12:=by unfold d8;rw[if_neg h13];rfl
  have g13:(h.kind==13)=false:=by simp[h13]
  have hL:bB (w.alloc (.cells #[.int .i64 h.kind,.int .i64 h.n] 59)) w.heap.size [.int .i64 h.kind,.int .i64 h.n] 59:=bB.new _ _ _
  have hblk:w.heap.size∉Value.blk (.slice va xs.length vc):=fun hm=>by have:=(bf.blk_lt ho _ hm).1;omega
  rw[hp]
  clear hp h13
  have hc:=hg.cell;have hgl:=hg.lt;have c0:=hc 0 (by decide);have c1:=hc 1 (by decide);have c2:=hc 2 (by decide);have c3:=hc 3 (by decide);have c4:=hc 4 (by decide);have c5:=hc 5 (by decide);have c6:=hc 6 (by decide);have c7:=hc 7 (by decide);have c8:=hc 8 (by decide);have c9:=hc 9 (by decide);have c10:=hc 10 (by decide);have c11:=hc 11 (by decide);simp only[show dB.getD 0 0=11 from rfl,show dB.getD 1 0=5 from rfl,show dB.getD 2 0=4 from rfl,show dB.getD 3 0=3 from rfl,show dB.getD 4 0=2 from rfl,show dB.getD 5 0=1 from rfl,show dB.getD 6 0=9 from rfl,show dB.getD 7 0=7 from rfl,show dB.getD 8 0=6 from rfl,show dB.getD 9 0=10 from rfl,show dB.getD 10 0=8 from rfl,show dB.getD 11 0=12 from rfl]at c0 c1 c2 c3 c4 c5 c6 c7 c8 c9 c10 c11;clear hc
  have hidx:∀(w:World) (k:Nat),k<12→(Instr.index 317 (.agg #[.int .i64 11,.int .i64 5,.int .i64 4,.int .i64 3,.int .i64 2,.int .i64 1,.int .i64 9,.int .i64 7,.int .i64 6,.int .i64 10,.int .i64 8,.int .i64 12]) (.int .i64 k)).run Tryz.prog w= .ok (.int .i64 (dB.getD k 0)) w:=by
   intro w k hk
   have:k=0∨k=1∨k=2∨k=3∨k=4∨k=5∨k=6∨k=7∨k=8∨k=9∨k=10∨k=11:=by omega
   rcases this with rfl|rfl|rfl|rfl|rfl|rfl|rfl|rfl|rfl|rfl|rfl|rfl<;>first|rfl|kernel_rfl|simp[go_sem]
  go_enter Tryz.func195,Tryz.ntmps195
  go_wp2
  go_loopw [0,16] (fun v n wr=>∃(k:Nat),n= .int .i64 k∧k≤12∧cX wr v (xs++hb h.kind k)∧Ap (w.alloc (.cells #[.int .i64 h.kind,.int .i64 h.n] 59)) (.slice va xs.length vc) wr v) (fun _ n _=>(12-intOf n).toNat)
  case atStart=>exact⟨0,rfl,by omega,by simpa [hb]using cX.alloc ho _,Ap.refl _ _⟩
  case round=>
   obtain⟨k,rfl,hk12,ho1,ha1⟩:=hrel
   have hL1:=hL.fr ha1.1 hblk
   have hlen:=Ms h.kind k
   have hLC1:=hL1.cell;have hLF1:=hL1.frz;have hLT1:=hL1.lt
   have ho1l:=ho1
   have hb1:(xs++hb h.kind k).length+1≤140737488355328:=by simp;omega
   by_cases hk:k<12
   ·have hs:=PH h.kind k
    have hi:=hidx wr k hk
    have hkb:(k:Int)<12:=by omega
    clear hidx
    generalize dB.getD k 0=q at hs hi
    by_cases hq:q=h.kind
    ·rw[if_pos (by simpa using hq)]at hs
     have hqb:(q==h.kind)=true:=by simpa using hq
     clear hq
     go_wp2_with (at_builtin;refine dF rfl (.tmp 24) (.tmp 28) _ rfl _ _ _ rfl (cX.alloc ho1 _) _ _ _ rfl (sq aB _ _ _ _ rfl) hb1 ?_;intro v' w3 hown3 hf3 hb3)
     have hB:Value.int .u8 (105+(k:Int))=B (UInt8.ofNat (105+k)):=by rw[pU _ (by omega)];simp
     rw[hB]at hown3
     go_roundw
     case rel=>
      refine⟨k+1,by go_num,by omega,?_,?_⟩
      ·rw[hs,←List.append_assoc];exact cX.app1 hown3
      ·exact(ha1.alloc _).trans (Ap.of hf3 hb3)
     case measure=>simp[intOf];omega
    ·rw[if_neg (by simpa using hq)]at hs
     have hqb:(q==h.kind)=false:=by simpa using hq
     clear hq
     go_wp2
     go_roundw
     case rel=>exact⟨k+1,by go_num,by omega,by rw[hs,List.append_nil];exact ho1,ha1⟩
     case measure=>simp[intOf];omega
   ·have hk2:k=12:=by omega
    subst hk2
    clear hidx
    go_wp2
    go_ret
    exact⟨_,rfl,ho1,(Ap.fr0 ((Fr.refl [] _).alloc _)).trans ha1⟩
theorem jo {P:Program} {tx e':TypeId} {g:Nat} {w:World} (hk:P.underlying tx=some (.slice e')) (hg:w.heap.size=g) (u:Value) (e:TypeId) (c:Nat) (h1:u.oneCell'=true):Src P 1 tx (.slice (some ⟨g,0,none⟩) 1 c) 1 [u] (w.alloc (.cells #[u] e)):=by
 subst hg
 exact sq hk w u e c h1
theorem mT (h:aC) (h1: -9223372036854775808≤h.n) (h2:h.n<9223372036854775808):(d8 h).length≤12:=by
 unfold d8
 split
 ·have:=i8 h.n h1 h2;omega
 ·exact Ms h.kind 12
def aC.ok (h:aC):Prop:=(-9223372036854775808≤h.kind∧h.kind<9223372036854775808)∧(-9223372036854775808≤h.n∧h.n<9223372036854775808)
theorem ny {w:World} (v:Value) (hg:Gl (Value.blk v) w) (xs:List UInt8) (t:aF) (ho:cX w v xs) (hk:t.heap.ok) (hx:xs.length+16≤70368744177664):
 Calls Tryz.prog 133 #[v,qu t] w fun e w'=>∃v',e= .returned v'∧cX w' v' (xs++bZ t)∧Ap w v w' v':=by
 have hsz:=fun o=>World.size_alloc w o
 have hhk:=hk
 obtain⟨_,hn1,hn2⟩:=hk
 obtain⟨tk,tn,th⟩:=t
 unfold qu
 dsimp only at hn1 hn2⊢
 have hoo:=fun o=>(cX.alloc ho o)
 have hb1:xs.length+1≤140737488355328:=by omega
 by_cases q1:tk=1
 ·skip
  have hp:bZ ⟨tk,tn,th⟩= [127]:=by unfold bZ;rw[if_pos q1]
  rw[hp]
  clear hp
  have g1:(tk==1)=true:=by simp[q1]
  clear q1
  go_enter Tryz.func133,Tryz.ntmps133
  go_wp2_with (at_builtin;refine dF rfl (.tmp 9) (.tmp 10) _ rfl _ _ _ rfl (cX.alloc (hoo _) _) _ _ _ rfl (jo aB (hsz _) _ _ _ rfl) hb1 ?_;intro v' w3 hown3 hf3 hb3)
  go_ret
  exact⟨v',rfl,cX.app1 (c:=127) hown3,(Ap.fr0 (((Fr.refl [] _).alloc _).alloc _)).trans (Ap.of hf3 hb3)⟩
 ·by_cases q2:tk=2
  ·skip
   have hp:bZ ⟨tk,tn,th⟩= [126]:=by unfold bZ;rw[if_neg q1,if_pos q2]
   rw[hp]
   clear hp
   have g1:(tk==1)=false:=by simp[q1]
   have g2:(tk==2)=true:=by simp[q2]
   clear q1 q2
   go_enter Tryz.func133,Tryz.ntmps133
   go_wp2_with (at_builtin;refine dF rfl (.tmp 16) (.tmp 17) _ rfl _ _ _ rfl (cX.alloc (hoo _) _) _ _ _ rfl (jo aB (hsz _) _ _ _ rfl) hb1 ?_;intro v' w3 hown3 hf3 hb3)
   go_ret
   exact⟨v',rfl,cX.app1 (c:=126) hown3,(Ap.fr0 (((Fr.refl [] _).alloc _).alloc _)).trans (Ap.of hf3 hb3)⟩
  ·skip
   have hL:bB (w.alloc (.cells #[.int .i64 tk,.bool tn,.int .i64 th.kind,.int .i64 th.n] 61)) w.heap.size [.int .i64 tk,.bool tn,.int .i64 th.kind,.int .i64 th.n] 61:=bB.new _ _ _
   have hblk:w.heap.size∉Value.blk v:=fun hm=>by have:=(bf.blk_lt ho _ hm).1;omega
   cases tn
   ·skip
    have hp:bZ ⟨tk,false,th⟩=100::d8 th:=by unfold bZ;rw[if_neg q1,if_neg q2,if_pos rfl]
    rw[hp]
    clear hp
    have g1:(tk==1)=false:=by simp[q1]
    have g2:(tk==2)=false:=by simp[q2]
    clear q1 q2
    go_enter Tryz.func133,Tryz.ntmps133
    go_wp2_with first|((at_builtin;refine dF rfl (.tmp 23) (.tmp 24) _ rfl _ _ _ rfl (cX.alloc (hoo _) _) _ _ _ rfl (jo aB (hsz _) _ _ _ rfl) hb1 ?_;intro v' w3 hown3 hf3 hb3);have ho3:=cX.app1 (c:=100) hown3;have hA3:=((Ap.fr0 (v:=v) (((Fr.refl [] w).alloc _).alloc _)).trans (Ap.of hf3 hb3));have hg3:=hg.ap hA3;have hL3:=(hL.alloc _).fr hf3 hblk;have hLC3:=hL3.cell;have hLF3:=hL3.frz;have hLT3:=hL3.lt)|(go_at_call 195;refine(mv _ hg3 _ th ho3 hn1 hn2 (by simp;omega)).mono ?_;rintro e w4 ⟨v4,rfl,ho4,hA4⟩)
    go_ret
    exact⟨v4,rfl,by simpa using ho4,hA3.trans hA4⟩
   ·skip
    by_cases q4:th.kind=13
    ·skip
     have hp:bZ ⟨tk,true,th⟩=99::d8 th:=by unfold bZ;rw[if_neg q1,if_neg q2,if_neg (by simp),if_pos q4]
     rw[hp]
     clear hp
     have g1:(tk==1)=false:=by simp[q1]
     have g2:(tk==2)=false:=by simp[q2]
     have g4:(th.kind==13)=true:=by simp[q4]
     clear q1 q2 q4
     go_enter Tryz.func133,Tryz.ntmps133
     go_wp2_with first|((at_builtin;refine dF rfl (.tmp 31) (.tmp 32) _ rfl _ _ _ rfl (cX.alloc (hoo _) _) _ _ _ rfl (jo aB (hsz _) _ _ _ rfl) hb1 ?_;intro v' w3 hown3 hf3 hb3);have ho3:=cX.app1 (c:=99) hown3;have hA3:=((Ap.fr0 (v:=v) (((Fr.refl [] w).alloc _).alloc _)).trans (Ap.of hf3 hb3));have hg3:=hg.ap hA3;have hL3:=(hL.alloc _).fr hf3 hblk;have hLC3:=hL3.cell;have hLF3:=hL3.frz;have hLT3:=hL3.lt)|(go_at_call 195;refine(mv _ hg3 _ th ho3 hn1 hn2 (by simp;omega)).mono ?_;rintro e w4 ⟨v4,rfl,ho4,hA4⟩)
     go_ret
     exact⟨v4,rfl,by simpa using ho4,hA3.trans hA4⟩
    ·skip
     have hp:bZ ⟨tk,true,th⟩=d8 th:=by unfold bZ;rw[if_neg q1,if_neg q2,if_neg (by simp),if_neg q4]
     rw[hp]
     clear hp
     have g4:(th.kind==13)=false:=by simp[q4]
     have g1:(tk==1)=false:=by simp[q1]
     have g2:(tk==2)=false:=by simp[q2]
     clear q1 q2 q4
     go_enter Tryz.func133,Tryz.ntmps133
     have hA3:=fun o=>Ap.fr0 (v:=v) ((Fr.refl [] w).alloc o)
     go_wp2_with (go_at_call 195;refine(mv _ (hg.ap (hA3 _)) _ th (hoo _) hn1 hn2 (by omega)).mono ?_;rintro e w4 ⟨v4,rfl,ho4,hA4⟩)
     go_ret
     exact⟨v4,rfl,ho4,(hA3 _).trans hA4⟩
theorem GL (w:World) (h:aC):Calls Tryz.prog 182 #[fe h] w fun e w'=>e= .returned (.bool (jd h))∧Fr [] w w':=by
 obtain⟨k,n⟩:=h
 unfold fe jd
 dsimp only
 by_cases a:1≤k
 ·by_cases b:k≤12
  ·by_cases c:n=0
   ·rw[show decide (1≤k∧k≤12∧n=0)=true by simp;omega]
    have g:(n==0)=true:=by simpa using c
    clear c
    exact Pz
   ·rw[show decide (1≤k∧k≤12∧n=0)=false by simp;omega]
    have g:(n==0)=false:=by simpa using c
    clear c
    exact Pz
  ·rw[show decide (1≤k∧k≤12∧n=0)=false by simp;omega]
   exact Pz
 ·rw[show decide (1≤k∧k≤12∧n=0)=false by simp;omega]
  exact Pz
theorem tB (w:World) (h:aC):Calls Tryz.prog 115 #[fe h] w fun e w'=>e= .returned (.bool (bQ h))∧Fr [] w w':=by
 obtain⟨k,n⟩:=h
 unfold fe bQ
 dsimp only
 by_cases a:k=13
 ·have g:(k==13)=true:=by simpa using a
  by_cases b:0≤n
  ·by_cases c:n≤4294967295
   ·rw[show decide (k=13∧0≤n∧n≤4294967295)=true by simp;omega]
    clear a
    exact Pz
   ·rw[show decide (k=13∧0≤n∧n≤4294967295)=false by simp;omega]
    clear a
    exact Pz
  ·rw[show decide (k=13∧0≤n∧n≤4294967295)=false by simp;omega]
   clear a
   exact Pz
 ·rw[show decide (k=13∧0≤n∧n≤4294967295)=false by simp;omega]
  have g:(k==13)=false:=by simpa using a
  clear a
  exact Pz
theorem cK (w:World) (t:aF):Calls Tryz.prog 117 #[qu t] w fun e w'=>e= .returned (.bool (aj t))∧Fr [] w w':=by
 obtain⟨k,nl,⟨hk,hn⟩⟩:=t
 unfold qu
 dsimp only
 by_cases q1:k=1
 ·subst q1
  exact UB
 ·by_cases q2:k=2
  ·subst q2
   exact UB
  ·have g1:(k==1)=false:=by simpa using q1
   have g2:(k==2)=false:=by simpa using q2
   by_cases q3:k=3
   ·subst q3
    cases hq:jd ⟨hk,hn⟩
    ·have hL:bB (w.alloc (.cells #[.int .i64 3,.bool nl,.int .i64 hk,.int .i64 hn] 61)) w.heap.size [.int .i64 3,.bool nl,.int .i64 hk,.int .i64 hn] 61:=bB.new _ _ _
     have hp:aj ⟨3,nl,⟨hk,hn⟩⟩=bQ ⟨hk,hn⟩:=by simp[aj,hq]
     rw[hp]
     go_enter Tryz.func117,Tryz.ntmps117
     go_wp2_with first|(go_at_call 182;refine(GL _ ⟨hk,hn⟩).mono ?_;rintro e w2 ⟨rfl,hF2⟩;rw[hq];have hL2:=hL.fr hF2 (by simp);have hLC2:=hL2.cell;have hLF2:=hL2.frz;have hLT2:=hL2.lt)|(go_at_call 115;refine(tB _ ⟨hk,hn⟩).mono ?_;rintro e w3 ⟨rfl,hF3⟩)
     have f2:=((Fr.refl [] w).alloc (.cells #[.int .i64 3,.bool nl,.int .i64 hk,.int .i64 hn] 61)).trans hF2
     go_ret
     exact⟨rfl,f2.trans hF3⟩
    ·have hp:aj ⟨3,nl,⟨hk,hn⟩⟩=true:=by simp[aj,hq]
     rw[hp]
     go_enter Tryz.func117,Tryz.ntmps117
     go_wp2_with (go_at_call 182;refine(GL _ ⟨hk,hn⟩).mono ?_;rintro e w2 ⟨rfl,hF2⟩;rw[hq])
     exact TY
   ·have g3:(k==3)=false:=by simpa using q3
    have hp:aj ⟨k,nl,⟨hk,hn⟩⟩=false:=by simp[aj,q1,q2,q3]
    rw[hp]
    clear q1 q2 q3 hp
    exact Pz
theorem yI (w:World) (h:aC):Calls Tryz.prog 265 #[fe h] w fun e w'=>e= .returned (.bool (aj ⟨3,false,h⟩))∧Fr [] w w':=by
 obtain⟨k,n⟩:=h
 unfold fe
 dsimp only
 go_enter Tryz.func265,Tryz.ntmps265
 exact UG
theorem Cl {w:World} (hg:Gl [] w) (h:aC) (hk:h.ok):
 Calls Tryz.prog 245 #[fe h] w fun e w'=>∃v',e= .returned v'∧cX w' v' (if aj ⟨3,false,h⟩then d8 h else [])∧jS w v'∧Fr [] w w':=by
 have hL:bB (w.alloc (.cells #[.int .i64 h.kind,.int .i64 h.n] 59)) w.heap.size [.int .i64 h.kind,.int .i64 h.n] 59:=bB.new _ _ _
 have hg1:=fun o=>hg.fr ((Fr.refl [] w).alloc o) (by simp)
 have f1:=(Fr.refl [] w).alloc (.cells #[.int .i64 h.kind,.int .i64 h.n] 59)
 obtain⟨_,hn1,hn2⟩:=hk
 cases hp:aj ⟨3,false,h⟩
 ·unfold fe
  go_enter Tryz.func245,Tryz.ntmps245
  go_wp2_with (go_at_call 265;refine(yI _ h).mono ?_;rintro e w2 ⟨rfl,hF2⟩;rw[hp])
  go_ret
  exact⟨_,rfl,cX.nil _,jS.nil _,((Fr.refl [] w).alloc _).trans hF2⟩
 ·unfold fe
  go_enter Tryz.func245,Tryz.ntmps245
  go_wp2_with first|(go_at_call 265;refine(yI _ h).mono ?_;rintro e w2 ⟨rfl,hF2⟩;rw[hp];have hL2:=hL.fr hF2 (by simp);have hg2:=(hg1 _).fr hF2 (by simp);have hLC2:=hL2.cell;have hLF2:=hL2.frz;have hLT2:=hL2.lt)|(go_at_call 195;refine(mv (.slice none 0 0) hg2 [] h (cX.nil _) hn1 hn2 (Nat.zero_le _)).mono ?_;rintro e w4 ⟨v4,rfl,ho4,hA4⟩)
  exact UW
theorem DH {w:World} (hg:Gl [] w) (t:aF) (hk:t.heap.ok):
 Calls Tryz.prog 97 #[qu t] w fun e w'=>∃v',e= .returned v'∧cX w' v' (if aj t then bZ t else [])∧jS w v'∧Fr [] w w':=by
 have hL:bB (w.alloc (.cells #[.int .i64 t.kind,.bool t.null,.int .i64 t.heap.kind,.int .i64 t.heap.n] 61)) w.heap.size [.int .i64 t.kind,.bool t.null,.int .i64 t.heap.kind,.int .i64 t.heap.n] 61:=bB.new _ _ _
 have hg1:=fun o=>hg.fr ((Fr.refl [] w).alloc o) (by simp)
 have f1:=(Fr.refl [] w).alloc (.cells #[.int .i64 t.kind,.bool t.null,.int .i64 t.heap.kind,.int .i64 t.heap.n] 61)
 have hx:([]:List UInt8).length+16≤70368744177664:=by simp
 cases hp:aj t
 ·unfold qu
  go_enter Tryz.func97,Tryz.ntmps97
  go_wp2_with (go_at_call 117;refine(cK _ t).mono ?_;rintro e w2 ⟨rfl,hF2⟩;rw[hp])
  go_ret
  exact⟨_,rfl,cX.nil _,jS.nil _,((Fr.refl [] w).alloc _).trans hF2⟩
 ·unfold qu
  go_enter Tryz.func97,Tryz.ntmps97
  go_wp2_with first|(go_at_call 117;refine(cK _ t).mono ?_;rintro e w2 ⟨rfl,hF2⟩;rw[hp];have hL2:=hL.fr hF2 (by simp);have hg2:=(hg1 _).fr hF2 (by simp);have hLC2:=hL2.cell;have hLF2:=hL2.frz;have hLT2:=hL2.lt)|(go_at_call 133;refine(ny (.slice none 0 0) hg2 [] t (cX.nil _) hk hx).mono ?_;rintro e w4 ⟨v4,rfl,ho4,hA4⟩)
  exact UW
theorem oG (w:World) (f:ey):Calls Tryz.prog 119 #[nI f] w fun e w'=>e= .returned (.bool (bM f))∧Fr [] w w':=by
 obtain⟨fp,⟨tk,tn,⟨hk,hn⟩⟩,fm⟩:=f
 unfold nI
 dsimp only
 by_cases q0:fp=0
 ·subst q0
  rw[show bM ⟨0,⟨tk,tn,⟨hk,hn⟩⟩,fm⟩=aj ⟨tk,tn,⟨hk,hn⟩⟩ by simp[bM]]
  go_enter Tryz.func119,Tryz.ntmps119
  go_wp2_with (go_at_call 117;refine(cK _ ⟨tk,tn,⟨hk,hn⟩⟩).mono ?_;rintro e w2 ⟨rfl,hF2⟩)
  exact TY
 ·by_cases q8:fp=8
  ·subst q8
   exact Wa
  ·by_cases q16:fp=16
   ·subst q16
    exact Wa
   ·have g0:(fp==0)=false:=by simpa using q0
    have g8:(fp==8)=false:=by simpa using q8
    have g16:(fp==16)=false:=by simpa using q16
    rw[show bM ⟨fp,⟨tk,tn,⟨hk,hn⟩⟩,fm⟩=false by simp[bM,q0,q8,q16]]
    clear q0 q8 q16
    exact Pz
theorem zS {w:World} (v:Value) (xs:List UInt8) (h:aC) (ho:cX w v xs) (h0:0≤h.n) (h1:h.n<9223372036854775808) (hx:xs.length+16≤70368744177664):
 Calls Tryz.prog 188 #[v,fe h] w fun e w'=>∃v',e= .returned v'∧cX w' v' (xs++aZ h)∧Ap w v w' v':=by
 obtain⟨k,n⟩:=h
 obtain⟨N,rfl⟩:∃N:Nat,n=N:=⟨n.toNat,by simp only at h0;omega⟩
 simp only at h1
 have hN:N<18446744073709551616:=by omega
 have hlen:=bG N hN
 have hb1:xs.length+(aI N).length≤140737488355328:=by omega
 have hp:aZ ⟨k,(N:Int)⟩=aI N:=by simp[aZ]
 rw[hp]
 clear hp hlen
 unfold fe
 dsimp only
 have hoo:=fun o=>cX.alloc ho o
 have f1:=fun o=>Ap.fr0 (v:=v) ((Fr.refl [] w).alloc o)
 go_enter Tryz.func188,Tryz.ntmps188
 go_wp2_with first|(go_at_call 85;refine(mZ N _ hN).mono ?_;rintro e w2 ⟨v2,rfl,ho2,hN2,hF2⟩;have hs2:=ho2.sl (S':= []) (by simp);have hoo2:=bf.fr (hoo _) hF2 (by simp))|(at_builtin;refine dF rfl (.tmp 5) (.tmp 9) _ rfl _ _ _ rfl hoo2 _ _ _ rfl (hs2.src aB) hb1 ?_;intro v' w3 hown3 hf3 hb3)
 go_ret
 exact⟨v',rfl,cX.app hown3,((f1 _).trans (Ap.fr0 hF2)).trans (Ap.of hf3 hb3)⟩
end Go.Proofs.YtpdlmdlkecnpgaaGreatDoor
