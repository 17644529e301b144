/- Texts: RdWA. -/
import Derived.Test.YtpdlmdlkecnpgaaGreatDoorH0
import Derived.Test.YtpdlmdlkecnpgaaGreatDoorH5
set_option linter.unusedSimpArgs false
set_option linter.unusedVariables false
namespace Go.Proofs.YtpdlmdlkecnpgaaGreatDoor
open Go.RowKit
theorem zx:Tryz.prog.underlying 136=some ((Tryz.prog.underlying 136).get (by kernel_rfl)):=by kernel_rfl
theorem xG:(Tryz.prog.info? 136).map (·.size)=some 6:=by kernel_rfl
set_option maxRecDepth 100000
set_option maxHeartbeats 400000
theorem tU {S w rb bv bs s} (h:Rd S w rb bv bs s) (he:s.err=0) (fb:Bool) (k:Int) (a1:Option Addr) (n1 c1:Nat) (a2:Option Addr) (n2 c2:Nat) (a3:Option Addr) (n3 c3:Nat) (a4:Option Addr) (n4 c4:Nat):
 Calls Tryz.prog 253 #[.pointer (some ⟨rb,0,none⟩),.agg #[.bool fb,.slice a1 n1 c1,.int .i64 k,.slice a2 n2 c2,.slice a3 n3 c3,.slice a4 n4 c4]] w fun e w'=>
  e= .returned (.agg #[.bool fb,.slice a1 n1 c1,.int .i64 k,.slice a2 n2 c2,.slice a3 n3 c3,.slice a4 n4 c4])∧Fr [] w w':=by
 have hR:=fun o1 o2=>(h.alloc o1).alloc o2
 have g1:(s.err==0)=true:=by simp[he]
 clear he
 go_enter Tryz.func253,Tryz.ntmps253
 go_wp2_with (go_at_call 228;refine(be (hR _ _)).mono ?_;rintro e w' ⟨rfl,rfl⟩)
 refine bodyPost_ret (v:= .agg #[.bool fb,.slice a1 n1 c1,.int .i64 k,.slice a2 n2 c2,.slice a3 n3 c3,.slice a4 n4 c4]) (by simp[results,Tryz.results253,go_sem]) rfl ⟨rfl,?_⟩
 repeat(first|(with_reducible exact Fr.refl _ _)|(with_reducible assumption)|(with_reducible apply Fr.alloc)|(with_reducible apply Fr.drew)|(with_reducible apply Fr.drewN)|(with_reducible refine Fr.setCell ?_ (by first|(left;simp;done)|(right;simp;done)|(right;simp;omega)) _))
theorem BX {S w rb bv bs s} (h:Rd S w rb bv bs s) (he:s.err≠0) (fb:Bool) (k:Int) (a1:Option Addr) (n1 c1:Nat) (a2:Option Addr) (n2 c2:Nat) (a3:Option Addr) (n3 c3:Nat) (a4:Option Addr) (n4 c4:Nat):
 Calls Tryz.prog 253 #[.pointer (some ⟨rb,0,none⟩),.agg #[.bool fb,.slice a1 n1 c1,.int .i64 k,.slice a2 n2 c2,.slice a3 n3 c3,.slice a4 n4 c4]] w fun e w'=>
  e= .returned (.agg #[.bool false,.slice none 0 0,.int .i64 0,.slice none 0 0,.slice none 0 0,.slice none 0 0])∧Fr [] w w':=by
 have hR:=fun o1 o2=>(h.alloc o1).alloc o2
 have g1:(s.err==0)=false:=by simp[he]
 clear he
 go_enter Tryz.func253,Tryz.ntmps253
 go_wp2_with (go_at_call 228;refine(be (hR _ _)).mono ?_;rintro e w' ⟨rfl,rfl⟩)
 refine bodyPost_ret (v:= .agg #[.bool false,.slice none 0 0,.int .i64 0,.slice none 0 0,.slice none 0 0,.slice none 0 0]) (by simp[results,Tryz.results253,go_sem]) rfl ⟨rfl,?_⟩
 repeat(first|(with_reducible exact Fr.refl _ _)|(with_reducible assumption)|(with_reducible apply Fr.alloc)|(with_reducible apply Fr.drew)|(with_reducible apply Fr.drewN)|(with_reducible refine Fr.setCell ?_ (by first|(left;simp;done)|(right;simp;done)|(right;simp;omega)) _))
theorem Sl.out2 {S:List Nat} {w w':World} {rb l1 l2 k n:Nat} {v:Value} {cs:List Value} (h:Sl (l1::l2::S) w k v n cs) (hf:Fr [rb,l1,l2] w w') (hm:rb∈S):Sl S w' k v n cs:=
 (h.fr hf (by intro b _ hb;simp at hb;rcases hb with rfl|rfl|rfl<;>simp[hm])).sub fun b _ hb=>List.mem_cons_of_mem _ (List.mem_cons_of_mem _ hb)
theorem oO.out2 {S:List Nat} {w w':World} {rb l1 l2:Nat} {c:iW} {pv rv fv:Value} (h:oO (l1::l2::S) w c pv rv fv) (hf:Fr [rb,l1,l2] w w') (hm:rb∈S):oO S w' c pv rv fv:=
 ⟨h.1.out2 hf hm,h.2.1.out2 hf hm,h.2.2.out2 hf hm⟩
theorem kb.zero (S:List Nat) (w:World):kb S w bu.zero (.slice none 0 0) (.slice none 0 0) (.slice none 0 0) (.slice none 0 0):=⟨Sl.nil _ _ _,Sl.nil _ _ _,Sl.nil _ _ _,Sl.nil _ _ _⟩
set_option maxHeartbeats 3200000
theorem Dp {S w rb bv bs s} (h:Rd S w rb bv bs s):
 Calls Tryz.prog 202 #[.pointer (some ⟨rb,0,none⟩)] w fun e w'=>∃hv pv rv fv,e= .returned (.agg #[.bool (dc bs s).1.final_,hv,.int .i64 (dc bs s).1.comp.kind,pv,rv,fv])∧kb S w' (dc bs s).1 hv pv rv fv∧Rd S w' rb bv bs (dc bs s).2∧Fr [rb] w w':=by
 have hmf:∀(fn:Fn) (first cap:Array Value) (w:World),(Instr.makeFunc fn first cap).run Tryz.prog w= .ok (.func fn first cap) w:=fun _ _ _ _=>rfl
 have hle:=h.le
 have hsm:=h.small
 have hrb:=h.loc.lt
 have hcl:=rh bs s
 have hR:=(h.loc1 (.cells #[.bool false,.slice none 0 0,.int .i64 0,.slice none 0 0,.slice none 0 0,.slice none 0 0] 136)).loc1 (.cells #[.bool true,.slice none 0 0,.int .i64 0,.slice none 0 0,.slice none 0 0,.slice none 0 0] 136)
 rw[World.size_alloc]at hR
 have hA:bB ((w.alloc (.cells #[.bool false,.slice none 0 0,.int .i64 0,.slice none 0 0,.slice none 0 0,.slice none 0 0] 136)).alloc (.cells #[.bool true,.slice none 0 0,.int .i64 0,.slice none 0 0,.slice none 0 0,.slice none 0 0] 136)) w.heap.size [.bool false,.slice none 0 0,.int .i64 0,.slice none 0 0,.slice none 0 0,.slice none 0 0] 136:=(bB.new _ _ _).alloc _
 have hB:bB ((w.alloc (.cells #[.bool false,.slice none 0 0,.int .i64 0,.slice none 0 0,.slice none 0 0,.slice none 0 0] 136)).alloc (.cells #[.bool true,.slice none 0 0,.int .i64 0,.slice none 0 0,.slice none 0 0,.slice none 0 0] 136)) (w.heap.size+1) [.bool true,.slice none 0 0,.int .i64 0,.slice none 0 0,.slice none 0 0,.slice none 0 0] 136:=by
  have h1:=bB.new (w.alloc (.cells #[.bool false,.slice none 0 0,.int .i64 0,.slice none 0 0,.slice none 0 0,.slice none 0 0] 136)) [.bool true,.slice none 0 0,.int .i64 0,.slice none 0 0,.slice none 0 0,.slice none 0 0] 136
  rw[World.size_alloc]at h1
  exact h1
 have f0:Fr [rb] w ((w.alloc (.cells #[.bool false,.slice none 0 0,.int .i64 0,.slice none 0 0,.slice none 0 0,.slice none 0 0] 136)).alloc (.cells #[.bool true,.slice none 0 0,.int .i64 0,.slice none 0 0,.slice none 0 0,.slice none 0 0] 136)):=((Fr.refl _ _).alloc _).alloc _
 by_cases q80:bF bs s=80
 ·skip
  have g80:(((bF bs s:Nat):Int)==80)=true:=by simp;omega
  have g79:(((bF bs s:Nat):Int)==79)=false:=by simp;omega
  have hq:(bF bs s==79)=false:=by simp;omega
  have hh:iG bs s=((false,(bX bs (bR bs) s.next).1),(bX bs (bR bs) s.next).2):=by unfold iG;rw[if_pos (by omega),hq]
  have hlt:=(fJ (s:=s) (bs:=bs) (by omega)).2.1
  by_cases he:(et bs (bX bs (bR bs) s.next).2).2.err=0
  ·have hs:dc bs s=(⟨false,(bX bs (bR bs) s.next).1,(et bs (bX bs (bR bs) s.next).2).1⟩,(et bs (bX bs (bR bs) s.next).2).2):=by unfold dc;rw[hh];simp only[ax.told,if_pos he]
   exact Ws
  ·exact Wb
 ·by_cases q79:bF bs s=79
  ·skip
   have g80:(((bF bs s:Nat):Int)==80)=false:=by simp;omega
   have g79:(((bF bs s:Nat):Int)==79)=true:=by simp;omega
   have hq:(bF bs s==79)=true:=by simp;omega
   have hh:iG bs s=((true,(bX bs (bR bs) s.next).1),(bX bs (bR bs) s.next).2):=by unfold iG;rw[if_pos (by omega),hq]
   have hlt:=(fJ (s:=s) (bs:=bs) (by omega)).2.1
   by_cases he:(et bs (bX bs (bR bs) s.next).2).2.err=0
   ·have hs:dc bs s=(⟨true,(bX bs (bR bs) s.next).1,(et bs (bX bs (bR bs) s.next).2).1⟩,(et bs (bX bs (bR bs) s.next).2).2):=by unfold dc;rw[hh];simp only[ax.told,if_pos he]
    exact Ws
   ·exact Wb
  ·skip
   have g80:(((bF bs s:Nat):Int)==80)=false:=by simp;omega
   have g79:(((bF bs s:Nat):Int)==79)=false:=by simp;omega
   have hh:iG bs s=((true,[]),s):=by unfold iG;rw[if_neg (by omega)]
   by_cases he:(et bs s).2.err=0
   ·have hs:dc bs s=(⟨true,[],(et bs s).1⟩,(et bs s).2):=by unfold dc;rw[hh];simp only[ax.told,if_pos he]
    rw[hs]
    clear hh hs
    go_enter Tryz.func202,Tryz.ntmps202
    go_wp2_with first|(go_at_call 200;refine(eO hR).mono ?_;rintro e w' ⟨rfl,nq,rfl⟩)|fail
    have hBd:=hB.drewN nq
    have hAd:=hA.drewN nq
    go_wp2_with first|((go_at_call 252;refine(uQ (hR.drewN nq)).mono ?_;rintro e w3 ⟨p3,r3,v3,rfl,hC3,hR3,hF3⟩;obtain⟨pa,pc,rfl⟩:=hC3.1.shape;obtain⟨ra,rc,rfl⟩:=hC3.2.1.shape;obtain⟨fa,fc,rfl⟩:=hC3.2.2.shape);have hB3:=hBd.fr hF3 (by simp;omega);have hA3:=hAd.fr hF3 (by simp;omega);have hLC3:=hB3.cell;have hLF3:=hB3.frz;have hLT3:=hB3.lt)|fail
    have f3:Fr [rb] w w3:=Fr.trans (by exact cF) hF3
    have hR3X:=fun v2 v3 v4 v5=>((((hR3.setLoc (lb:=w.heap.size+1) (by simp) (by omega) 2 v2).setLoc (lb:=w.heap.size+1) (by simp) (by omega) 3 v3).setLoc (lb:=w.heap.size+1) (by simp) (by omega) 4 v4).setLoc (lb:=w.heap.size+1) (by simp) (by omega) 5 v5)
    have hB3X:=fun v2 v3 v4 v5=>((((hB3.set 2 v2).set 3 v3).set 4 v4).set 5 v5)
    have hA3X:=fun v2 v3 v4 v5=>((((hA3.set' (p:=⟨w.heap.size+1,2,none⟩) (by simp) v2).set' (p:=⟨w.heap.size+1,3,none⟩) (by simp) v3).set' (p:=⟨w.heap.size+1,4,none⟩) (by simp) v4).set' (p:=⟨w.heap.size+1,5,none⟩) (by simp) v5)
    go_wp2_with ((go_at_call 253;refine(tU (hR3X _ _ _ _) he _ _ _ _ _ _ _ _ _ _ _ _ _ _).mono ?_;rintro e w4 ⟨rfl,hF4⟩);have hA4:=(hA3X _ _ _ _).fr hF4 (by simp);have hR4:=(hR3X _ _ _ _).fr hF4 (by simp) (by simp);have hLC4:=hA4.cell;have hLF4:=hA4.frz;have hLT4:=hA4.lt)
    have f4:Fr [rb] w w4:=Fr.trans (by exact cF) (hF4.mono (by simp))
    have j4:Fr [rb,w.heap.size+1,w.heap.size] w3 w4:=Fr.trans (by exact cF) (hF4.mono (by simp))
    refine eK rfl rfl ((((((hA4.set 0 _).set 1 _).set 2 _).set 3 _).set 4 _).set 5 _) zx rfl xG rfl ⟨_,_,_,_,rfl,⟨?_,?_⟩,?_,?_⟩
    ·exact Sl.nil _ _ _
    ·exact hC3.out2 (by exact cF) h.mem
    ·exact HD
    ·exact cF
   ·have hs:dc bs s=(bu.zero,(et bs s).2):=by unfold dc;rw[hh];simp only[ax.told,if_neg he]
    rw[hs]
    clear hh hs
    go_enter Tryz.func202,Tryz.ntmps202
    go_wp2_with first|(go_at_call 200;refine(eO hR).mono ?_;rintro e w' ⟨rfl,nq,rfl⟩)|fail
    have hBd:=hB.drewN nq
    have hAd:=hA.drewN nq
    go_wp2_with first|((go_at_call 252;refine(uQ (hR.drewN nq)).mono ?_;rintro e w3 ⟨p3,r3,v3,rfl,hC3,hR3,hF3⟩;obtain⟨pa,pc,rfl⟩:=hC3.1.shape;obtain⟨ra,rc,rfl⟩:=hC3.2.1.shape;obtain⟨fa,fc,rfl⟩:=hC3.2.2.shape);have hB3:=hBd.fr hF3 (by simp;omega);have hA3:=hAd.fr hF3 (by simp;omega);have hLC3:=hB3.cell;have hLF3:=hB3.frz;have hLT3:=hB3.lt)|fail
    exact V8
end Go.Proofs.YtpdlmdlkecnpgaaGreatDoor
