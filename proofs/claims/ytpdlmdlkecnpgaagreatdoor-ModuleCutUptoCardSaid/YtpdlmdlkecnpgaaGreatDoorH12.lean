/- Texts: RdWC IbEx Aux2 RtK ModR Conv NameW NameW2 MdEx IbinN. -/
import Derived.Test.YtpdlmdlkecnpgaaGreatDoorH0
import Derived.Test.YtpdlmdlkecnpgaaGreatDoorH8
import Derived.Test.YtpdlmdlkecnpgaaGreatDoorH11
import Derived.Test.YtpdlmdlkecnpgaaGreatDoorH9
import Derived.Test.YtpdlmdlkecnpgaaGreatDoorH10
import Derived.ProofKit
import Derived.Test.YtpdlmdlkecnpgaaGreatDoorH7
import Derived.Laws.IdiomStrings
import Derived.Test.YtpdlmdlkecnpgaaGreatDoorH5
import Derived.Laws.Runes
import Derived.Laws.RangeAny
import Derived.Laws.Strings3
set_option linter.unusedSimpArgs false
set_option linter.unusedVariables false
namespace Go.Proofs.YtpdlmdlkecnpgaaGreatDoor
open Go.RowKit
set_option maxRecDepth 100000
set_option maxHeartbeats 1600000
theorem TD {S w rb bv bs s} (h:Rd S w rb bv bs s):
 Calls Tryz.prog 139 #[.pointer (some ⟨rb,0,none⟩)] w fun e w'=>∃v cs,e= .returned v∧Sl S w' 6 v (gy bs s).1.length cs∧di S w' (gy bs s).1 cs∧Rd S w' rb bv bs (gy bs s).2∧Fr [rb] w w':=by
 have hmf:∀(fn:Fn) (first cap:Array Value) (w:World),(Instr.makeFunc fn first cap).run Tryz.prog w= .ok (.func fn first cap) w:=fun _ _ _ _=>rfl
 have hle:=h.le
 have hsm:=h.small
 have hrb:=h.loc.lt
 have hcl:=rh bs s
 have hR:=h
 by_cases q78:bF bs s=78
 ·have hlt:=(fJ (s:=s) (bs:=bs) (by omega)).2.1
  have g78:(((bF bs s:Nat):Int)==78)=true:=by simp;omega
  have hp:gy bs s=bX bs (dc bs) s.next:=by unfold gy;rw[if_pos q78]
  rw[hp]
  clear hp q78
  go_enter Tryz.func139,Tryz.ntmps139
  go_wp2_with first|((go_at_call 200;refine(eO hR).mono ?_;rintro e w' ⟨rfl,nq,rfl⟩);have hR0:=hR.drewN nq;have hC0:=hR0.loc.cell;have hG0:=hR0.loc.frz;have hT0:=hR0.loc.lt;simp only[bW]at hC0)|fail
  have hE:=mm (hR.drewN nq) hlt
  go_wp2_with (go_at_call 201;refine(Lx hE).mono ?_;rintro e w2 ⟨v2,cs2,rfl,hS2,hB2,hR2,hF2⟩)
  have f2:Fr [rb] w w2:=Fr.trans (by exact cF) hF2
  go_ret
  exact⟨v2,cs2,rfl,hS2,hB2,hR2,f2⟩
 ·have g78:(((bF bs s:Nat):Int)==78)=false:=by simp;omega
  have hp:gy bs s=((dc bs s).2.told [] [(dc bs s).1],(dc bs s).2):=by unfold gy;rw[if_neg q78]
  rw[hp]
  clear hp q78
  by_cases he:(dc bs s).2.err=0
  ·go_enter Tryz.func139,Tryz.ntmps139
   go_wp2_with first|(go_at_call 200;refine(eO hR).mono ?_;rintro e w' ⟨rfl,nq,rfl⟩)|((go_at_call 202;refine(Dp (hR.drewN nq)).mono ?_;rintro e w2 ⟨h2,p2,r2,v2,rfl,hC2,hR2,hF2⟩;obtain⟨ha,hc,rfl⟩:=hC2.1.shape;obtain⟨pa,pc,rfl⟩:=hC2.2.1.shape;obtain⟨ra,rc,rfl⟩:=hC2.2.2.1.shape;obtain⟨fa,fc,rfl⟩:=hC2.2.2.2.shape);have hR2o:=fun o=>hR2.alloc o)|(go_at_call 203;refine(pP (hR2o _) _).mono ?_;rintro e w' ⟨e1,rfl⟩;rw[if_pos he]at e1;subst e1)
   have f2:Fr [rb] w w2:=Fr.trans (by exact cF) hF2
   go_ret
   simp only[ax.told,if_pos he]
   refine⟨_,_,rfl,Gk (e:=136) (cs:= [.bool (dc bs s).1.final_,.slice ha (dc bs s).1.supers.length hc,.int .i64 (dc bs s).1.comp.kind,.slice pa (dc bs s).1.comp.params.length pc,.slice ra (dc bs s).1.comp.results.length rc,.slice fa (dc bs s).1.comp.fields.length fc]) w2.heap.size rfl rfl ?_ hR2.lt,⟨_,_,_,_,[],rfl,hC2.fr ((Fr.refl [] _).alloc _) (by simp),rfl⟩,hR2.alloc _,f2.alloc _⟩
   intro u hu;simp at hu;rcases hu with rfl|rfl|rfl|rfl|rfl|rfl<;>rfl
  ·go_enter Tryz.func139,Tryz.ntmps139
   go_wp2_with first|(go_at_call 200;refine(eO hR).mono ?_;rintro e w' ⟨rfl,nq,rfl⟩)|((go_at_call 202;refine(Dp (hR.drewN nq)).mono ?_;rintro e w2 ⟨h2,p2,r2,v2,rfl,hC2,hR2,hF2⟩;obtain⟨ha,hc,rfl⟩:=hC2.1.shape;obtain⟨pa,pc,rfl⟩:=hC2.2.1.shape;obtain⟨ra,rc,rfl⟩:=hC2.2.2.1.shape;obtain⟨fa,fc,rfl⟩:=hC2.2.2.2.shape);have hR2o:=fun o=>hR2.alloc o)|(go_at_call 203;refine(pP (hR2o _) _).mono ?_;rintro e w' ⟨e1,rfl⟩;rw[if_neg he]at e1;subst e1)
   have f2:Fr [rb] w w2:=Fr.trans (by exact cF) hF2
   go_ret
   simp only[ax.told,if_neg he]
   exact⟨_,_,rfl,Sl.nil _ _ _,rfl,hR2.alloc _,f2.alloc _⟩
def lQ (D:List bt):List aa→List Value→Prop
 | [],cs=>cs= []
 |i::is,cs=>∃tv lv cv rest,cs=cp i tv lv cv++rest∧(∀r,r∈qw i tv lv cv→r∈D)∧lQ D is rest
theorem lQ.mono {D D':List bt} (h:∀r,r∈D→r∈D'):∀{is:List aa} {cs:List Value},lQ D is cs→lQ D' is cs
 | [],_,k=>k
 | _:: _,_,⟨tv,lv,cv,rest,e,h1,h2⟩=>⟨tv,lv,cv,rest,e,fun r hr=>h r (h1 r hr),lQ.mono h h2⟩
theorem lQ.snoc {D:List bt} {i:aa} {tv lv cv:Value} (hi:∀r,r∈qw i tv lv cv→r∈D):∀{is:List aa} {cs:List Value},lQ D is cs→lQ D (is++ [i]) (cs++cp i tv lv cv)
 | [],_,k=>by
  have k: _= []:=k
  subst k
  exact⟨tv,lv,cv,[],by simp,hi,rfl⟩
 | _:: _,_,⟨tv',lv',cv',rest,e,h1,h2⟩=>by
  subst e
  exact⟨tv',lv',cv',rest++ _,by simp,h1,lQ.snoc hi h2⟩
theorem lQ.toR {S:List Nat} {w0 w:World} {rb:Nat} {bv:Value} {bs:List UInt8} {s:ax} {D G:List bt} (h:dj S w0 w rb bv bs s G) (hD:∀r,r∈D→r∈G):∀{is:List aa} {cs:List Value},lQ D is cs→dP S w is cs
 | [],_,k=>k
 | _:: _,_,⟨tv,lv,cv,rest,e,h1,h2⟩=>
  ⟨tv,lv,cv,rest,e,⟨h.slM (e:=61) (hD _ (h1 _ (by simp[qw]))),h.slM (e:=3) (hD _ (h1 _ (by simp[qw]))),h.slM (e:=300) (hD _ (h1 _ (by simp[qw])))⟩,lQ.toR h hD h2⟩
theorem yM {w:World} {ops:Array Oper} {rest:List Oper} {o:Oper} {a:Act} {Q:Exit→Act→World→Prop} {s1 x:Operand} {v xv:Value} (hgd:o.guard=none)
 (ho:o.op= .call {callee:= .builtin .append,args:= #[s1,x],argTypes:= #[308,308]}) (hs:a.eval s1=v) (hx:a.eval x=xv)
 (h:∃S w0 rb bv bs s G G' n xs m news,dj S w0 w rb bv bs s G∧nT 4 1 G v n xs G'∧oK 4 1 G w xv m news∧n+m≤1099511627776∧
  ∀v' w',dj S w0 w' rb bv bs s (.own 4 1 v' (n+m) (xs++news)::G')→wpList Tryz.prog ops Q rest (a.put o.dst v') w'):
 wpList Tryz.prog ops Q (o::rest) a w:=by
 obtain⟨i0,hi,hz0,hz1,hz2⟩:=info_parts yD
 exact sa hgd ho hs hx r8 r8 hi hz0 hz1 hz2 rfl (by decide) (L:=1099511627776) (by decide) (by decide) h
theorem HJ {S:List Nat} {w0 w:World} {rb:Nat} {bv:Value} {bs:List UInt8} {s:ax} {G:List bt} {nb:Nat} {v:Value} {n m:List Bool} (hS:dj S w0 w rb bv bs s (.loc nb [v] 308:: .own 4 1 (v) (n).length (gd (n))::G)) (hn:n.length≤549755813000) {op:Int} (hs:kp n op=some m):
 Calls Tryz.prog 241 #[.pointer (some ⟨nb,0,none⟩),.int .i64 op] w fun e w'=>∃v',e= .returned (.bool true)∧dj S w0 w' rb bv bs s (.loc nb [v'] 308:: .own 4 1 (v') (m).length (gd (m))::G):=by
 have hl:bB _ _ _ _:=hS.st.head
 have ho:bf [] _ _ _ _ _ _:=hS.st.tail.head
 have hC:=hl.cell
 have hT:=hl.lt
 unfold kp at hs
 by_cases h1:op=2∨op=3∨op=31
 ·rw[if_pos h1]at hs
  injection hs with hs
  subst hs
  obtain⟨a0,c0,rfl,hc0,_⟩:=bf.shape ho
  have q:((op==2)=true)∨((op==2)=false∧(op==3)=true)∨((op==2)=false∧(op==3)=false∧(op==31)=true):=by simp;omega
  clear h1 hl ho
  rcases q with q2|⟨q2,q3⟩|⟨q2,q3,q31⟩
  all_goals
   go_enter Tryz.func241,Tryz.ntmps241
   go_wp2_with (at_builtin;refine yM rfl rfl rfl rfl ?_;refine WO ?_;intro vN wN hS;have hO:bf [] _ _ _ _ _ _:=hS.st.head;obtain⟨aN,cN,rfl,_,_⟩:=bf.shape hO;(try clear hQ);have hQ:=St.fq hS.st;(try clear hN);have hN:=St.aq hS.st)
   go_ret
   refine⟨.slice aN (n.length+1) cN,rfl,?_⟩
   rw[gH]
   exact(hS.set (by exact iA) 0 (.slice aN (n.length+1) cN)).sel (by exact zl)
 ·rw[if_neg h1]at hs
  have q2:(op==2)=false:=by simp;omega
  have q3:(op==3)=false:=by simp;omega
  have q31:(op==31)=false:=by simp;omega
  by_cases h4:op=4
  ·rw[if_pos h4]at hs
   injection hs with hs
   subst hs
   obtain⟨a0,c0,rfl,hc0,_⟩:=bf.shape ho
   have q4:(op==4)=true:=by simp;omega
   clear h1 h4 hl ho
   go_enter Tryz.func241,Tryz.ntmps241
   go_wp2_with (at_builtin;refine yM rfl rfl rfl rfl ?_;refine WO ?_;intro vN wN hS;have hO:bf [] _ _ _ _ _ _:=hS.st.head;obtain⟨aN,cN,rfl,_,_⟩:=bf.shape hO;(try clear hQ);have hQ:=St.fq hS.st;(try clear hN);have hN:=St.aq hS.st)
   go_ret
   refine⟨.slice aN (n.length+1) cN,rfl,?_⟩
   rw[gH]
   exact(hS.set (by exact iA) 0 (.slice aN (n.length+1) cN)).sel (by exact zl)
  ·rw[if_neg h4]at hs
   have q4:(op==4)=false:=by simp;omega
   by_cases h5:op=5
   ·rw[if_pos h5]at hs
    have q5:(op==5)=true:=by simp;omega
    match n,hs with
    |true::r,hs=>
     injection hs with hs
     subst hs
     obtain⟨g,c,rfl,hg,hd,hz,hc⟩:=ho.nest
     have hw:wrap64 (r.length:Int)=r.length:=IntWalk.wrap64_in _ (by simp at hn;omega)
     have hZ:=hl.frz
     clear h1 h4 h5
     go_enter Tryz.func241,Tryz.ntmps241
     go_wp2
     go_ret
     refine⟨.slice (some ⟨g,0,none⟩) (r.length+1) c,rfl,?_⟩
     have hrg:rb∉ [g]:=by
      have k1:=(hS.st.tail).new _ List.mem_cons_self g (by simp[bt.blk,Value.blk])
      have k2:=hS.lt
      simp
      omega
     have h1:=(hS.st.pick (.there .here)).turn (S':= []) (r':= .own 4 1 (.slice (some ⟨g,0,none⟩) (r.length+1) c) (r.length+1) ((gd (true::r)).set r.length (.bool false))) (by simpa [bt.blk,Value.blk]using (Fr.refl [g] w).setCell (p:=⟨g,r.length,none⟩) (by simp) (.bool false)) (by simp) (ho.setAt (by simp) rfl) (fun b hb=> .inl hb)
     rw[zo]at h1
     exact hS.other (h1.pick (.there .here)) (X:= [g]) ((Fr.refl [g] w).setCell (p:=⟨g,r.length,none⟩) (by simp) (.bool false)) hrg
    |false::r,hs=>cases hs
    | [],hs=>cases hs
   ·rw[if_neg h5]at hs
    have q5:(op==5)=false:=by simp;omega
    by_cases h11:op=11
    ·rw[if_pos h11]at hs
     have q11:(op==11)=true:=by simp;omega
     match n,hs with
     |x::r,hs=>
      injection hs with hs
      subst hs
      obtain⟨g,c,rfl,hg,hd,hz,hc⟩:=ho.nest
      have hw:wrap64 (r.length:Int)=r.length:=IntWalk.wrap64_in _ (by simp at hn;omega)
      have hZ:=hl.frz
      have hc2:(r.length:Int)≤(c:Int):=by omega
      clear h1 h4 h5 h11
      go_enter Tryz.func241,Tryz.ntmps241
      go_wp2
      go_ret
      refine⟨.slice (some ⟨g,0,none⟩) r.length c,rfl,?_⟩
      have h1:=(hS.st.pick (.there .here)).turn (S':= []) (r':= .own 4 1 (.slice (some ⟨g,0,none⟩) r.length c) r.length ((gd (x::r)).take (r.length*1))) (Fr.refl _ _) (by simp) (ho.take (by simp)) (fun b hb=> .inl hb)
      rw[vG]at h1
      exact(hS.other h1 (Fr.refl [] w) (by simp)).set (.there .here) 0 (.slice (some ⟨g,0,none⟩) r.length c)
     | [],hs=>cases hs
    ·exact XJ
set_option maxHeartbeats 3200000
theorem Qk {S w rb bv bs s} (h:Rd S w rb bv bs s) (hg:cq S w) (h0:s.err=0) (hsm:bs.length≤274877906944):Calls Tryz.prog 211 #[.pointer (some ⟨rb,0,none⟩)] w fun e w'=>
 ∃v cs,e= .returned v∧Sl S w' 19 v (bI bs s).1.length cs∧dP S w' (bI bs s).1 cs∧Rd S w' rb bv bs (bI bs s).2∧Fr [rb] w w':=by
 have hS:=dj.start h
 have hle:=h.le
 go_enter Tryz.func211,Tryz.ntmps211
 go_wp2
 go_step3
 go_wp2
 go_step3
 go_wp2
 go_loopw [3] (fun v wr=>∃(l:List aa) (cs:List Value) (n:List Bool) (nv:Value) (t:ax) (f:Nat) (D:List bt),dj S w wr rb bv bs t (.loc w.heap.size [nv] 308:: .own 4 1 (nv) (n).length (gd (n)):: .own 177 19 v l.length cs::D)∧lQ D l cs∧t.err=0∧n.length≤l.length∧l.length≤t.at_∧bs.length<t.at_+f∧Hid (dE bs (bs.length+1-s.at_) [] s=((dE bs f n t).1.map (l++ ·),(dE bs f n t).2))) (fun _ wr=>bs.length+1-atOf wr rb)
 case atStart=>
  refine⟨[],[],[],.slice none 0 0,s,bs.length+1-s.at_,[],?_,rfl,h0,by simp,by simp,by omega,Lib.hid (by simp)⟩
  exact((((hS.alloc [.slice none 0 0] 308).nil 4 1 0).nil 177 19 0).sel (by exact zl))
 case round=>
  obtain⟨l,cs,n,nv,t,f,D,hS,hD,ht,hn,hl,hf,hI⟩:=hrel
  have hAt:=hS.rd.le
  obtain⟨f,rfl⟩:∃k,f=k+1:=⟨f-1,by omega⟩
  have hO1:bf [] _ _ _ _ _ _:=hS.st.tail.head
  have hO2:bf [] _ _ _ _ _ _:=hS.st.tail.tail.head
  obtain⟨a0,c0,rfl,_,_⟩:=bf.shape hO1
  obtain⟨a1,c1,rfl,_,_⟩:=bf.shape hO2
  clear hO1 hO2
  have hatw:=hS.atOf
  have hop:∀tv lv cv,(cp (aY bs t).1 tv lv cv)[0]? =some (.int .i64 (aY bs t).1.op):=fun _ _ _=>rfl
  (try clear hQ);have hQ:=St.fq hS.st;(try clear hN);have hN:=St.aq hS.st
  by_cases h1:(aY bs t).2.err=0
  ·have q1:((aY bs t).2.err !=0)=false:=by simp[h1]
   obtain⟨k1,e1,l1,p1,p2,p3,p4⟩:=j5.back bs t ht hAt h1
   have hat2:t.at_+1≤(aY bs t).2.at_:=by rw[e1];simp;omega
   clear p1 p2 p4
   by_cases h2:(aY bs t).1.op=11∧n= []
   ·have hx:dE bs (f+1) n t=(some [],(aY bs t).2):=by
     unfold dE
     rw[if_neg (by simp[h1]),if_pos h2]
    have EX:Hid (bI bs s=(l,(aY bs t).2)):=Lib.hid (by unfold bI;rw[hI.out,hx];simp)
    have q2:((aY bs t).1.op==11)=true:=by simp[h2.1]
    obtain⟨_,rfl⟩:=h2
    clear hx hI h1 e1
    go_wp2_with first|(refine bC (ty:=177) rfl rfl rfl eB rfl ?_;refine Tl ?_)|(refine lW rfl rfl rfl ?_)|(refine iE (ty:=177) rfl rfl rfl rfl ?_;refine Wi ?_;intro wN hS hFN;(try clear hQ);have hQ:=St.fq hS.st;(try clear hN);have hN:=St.aq hS.st)|(go_at_call 175;refine lL fun hT=> ?_;refine(d5 hT.rd).mono ?_;rintro e w1 ⟨rfl,rfl⟩;clear hT)|(go_at_call 255;refine lL fun hT=> ?_;refine(oW hT.rd (hT.gl7' hg)).mono ?_;rintro e w1 ⟨tv,lv,cv,rfl,hX⟩;have hO1:bf [] _ _ _ _ _ _:=hX.st.head;have hO2:bf [] _ _ _ _ _ _:=hX.st.tail.head;have hO3:bf [] _ _ _ _ _ _:=hX.st.tail.tail.head;obtain⟨ta,tc,rfl,_,_⟩:=bf.shape hO1;obtain⟨la,lc,rfl,_,_⟩:=bf.shape hO2;obtain⟨ca,cc,rfl,_,_⟩:=bf.shape hO3;have hS:=hT.join hX;simp only[qw,List.cons_append,List.nil_append]at hS;clear hT hX hO1 hO2 hO3;(try clear hQ);have hQ:=St.fq hS.st;(try clear hN);have hN:=St.aq hS.st)|(go_at_call 256;(try clear hQ);refine kL (fun h=>eV h) fun w1 hS hQ hN=> ?_)|(go_at_call 174;(try clear hQ);refine kL (fun h=>dY h _ _) fun w1 hS hQ hN=> ?_)|(at_builtin;refine rA rfl rfl rfl rfl ?_;refine WH ?_;intro vN wN hS;(try clear hQ);have hQ:=St.fq hS.st;(try clear hN);have hN:=St.aq hS.st)
    rw[Exit.noGoto_ret]
    go_ret
    refine⟨_,cs,rfl,?_,?_,?_,hS.fr⟩
    ·rw[EX.out];exact hS.sl (e:=177) (by exact iA)
    ·rw[EX.out];exact hD.toR hS (fun r hr=>by simp[hr])
    ·rw[EX.out];exact hS.rd
   ·have q:((aY bs t).1.op==11)=false∨(((aY bs t).1.op==11)=true∧(((n.length:Nat):Int)==0)=false):=by
     by_cases h3:(aY bs t).1.op=11
     ·right
      refine⟨by simp[h3],?_⟩
      have:n≠ []:=fun h=>h2 ⟨h3,h⟩
      have:n.length≠0:=fun h=>this (List.eq_nil_of_length_eq_zero h)
      simp;omega
     ·left;simp[h3]
    cases hst:kp n (aY bs t).1.op with
    |none=>
     have hx:dE bs (f+1) n t=(none,(aY bs t).2.fail 60 t.at_):=by
      unfold dE
      rw[if_neg (by simp[h1]),if_neg h2,hst]
     have EX:Hid (bI bs s=([],(aY bs t).2.fail 60 t.at_)):=Lib.hid (by unfold bI;rw[hI.out,hx];simp)
     have Hst:=Lib.hid hst
     clear hx hI h1 h2 e1 hst
     rcases q with q2|⟨q2,q3⟩
     all_goals
      go_wp2_with first|(refine bC (ty:=177) rfl rfl rfl eB rfl ?_;refine Tl ?_)|(refine lW rfl rfl rfl ?_)|(refine iE (ty:=177) rfl rfl rfl rfl ?_;refine Wi ?_;intro wN hS hFN;(try clear hQ);have hQ:=St.fq hS.st;(try clear hN);have hN:=St.aq hS.st)|(go_at_call 175;refine lL fun hT=> ?_;refine(d5 hT.rd).mono ?_;rintro e w1 ⟨rfl,rfl⟩;clear hT)|(go_at_call 255;refine lL fun hT=> ?_;refine(oW hT.rd (hT.gl7' hg)).mono ?_;rintro e w1 ⟨tv,lv,cv,rfl,hX⟩;have hO1:bf [] _ _ _ _ _ _:=hX.st.head;have hO2:bf [] _ _ _ _ _ _:=hX.st.tail.head;have hO3:bf [] _ _ _ _ _ _:=hX.st.tail.tail.head;obtain⟨ta,tc,rfl,_,_⟩:=bf.shape hO1;obtain⟨la,lc,rfl,_,_⟩:=bf.shape hO2;obtain⟨ca,cc,rfl,_,_⟩:=bf.shape hO3;have hS:=hT.join hX;simp only[qw,List.cons_append,List.nil_append]at hS;clear hT hX hO1 hO2 hO3;(try clear hQ);have hQ:=St.fq hS.st;(try clear hN);have hN:=St.aq hS.st)|(go_at_call 256;(try clear hQ);refine kL (fun h=>eV h) fun w1 hS hQ hN=> ?_)|(go_at_call 174;(try clear hQ);refine kL (fun h=>dY h _ _) fun w1 hS hQ hN=> ?_)|(at_builtin;refine rA rfl rfl rfl rfl ?_;refine WH ?_;intro vN wN hS;(try clear hQ);have hQ:=St.fq hS.st;(try clear hN);have hN:=St.aq hS.st)|(go_at_call 241;refine lL fun hT=> ?_;refine(FS (n:=n) (hT.st.loc (by exact iA)) (hT.st.own (by exact iA)) (by omega) Hst.out).mono ?_;rintro e w1 ⟨rfl,hF1⟩;have hS:=hT.step0 hF1;clear hT hF1;(try clear hQ);have hQ:=St.fq hS.st;(try clear hN);have hN:=St.aq hS.st)
      (try rw[Exit.noGoto_ret])
      go_ret
      refine⟨_,[],rfl,?_,?_,?_,hS.fr⟩
      ·rw[EX.out];exact Sl.nil _ _ _
      ·rw[EX.out];rfl
      ·rw[EX.out];exact hS.rd
    |some m=>
     have hx:dE bs (f+1) n t=((dE bs f m (aY bs t).2).1.map ((aY bs t).1:: ·),(dE bs f m (aY bs t).2).2):=by
      rw[dE,if_neg (by simp[h1]),if_neg h2,hst]
     have EX:Hid (dE bs (bs.length+1-s.at_) [] s=((dE bs f m (aY bs t).2).1.map ((l++ [(aY bs t).1])++ ·),(dE bs f m (aY bs t).2).2)):=Lib.hid (by
      rw[hI.out,hx]
      simp[Option.map_map,Function.comp_def])
     have hml:=zv hst
     have Hst:=Lib.hid hst
     have l1':(aY bs t).2.at_≤bs.length:=by rw[e1];simpa using l1
     clear hx hI h2 hst e1
     rcases q with q2|⟨q2,q3⟩
     all_goals
      go_wp2_with first|(refine bC (ty:=177) rfl rfl rfl eB rfl ?_;refine Tl ?_)|(refine lW rfl rfl rfl ?_)|(refine iE (ty:=177) rfl rfl rfl rfl ?_;refine Wi ?_;intro wN hS hFN;(try clear hQ);have hQ:=St.fq hS.st;(try clear hN);have hN:=St.aq hS.st)|(go_at_call 175;refine lL fun hT=> ?_;refine(d5 hT.rd).mono ?_;rintro e w1 ⟨rfl,rfl⟩;clear hT)|(go_at_call 255;refine lL fun hT=> ?_;refine(oW hT.rd (hT.gl7' hg)).mono ?_;rintro e w1 ⟨tv,lv,cv,rfl,hX⟩;have hO1:bf [] _ _ _ _ _ _:=hX.st.head;have hO2:bf [] _ _ _ _ _ _:=hX.st.tail.head;have hO3:bf [] _ _ _ _ _ _:=hX.st.tail.tail.head;obtain⟨ta,tc,rfl,_,_⟩:=bf.shape hO1;obtain⟨la,lc,rfl,_,_⟩:=bf.shape hO2;obtain⟨ca,cc,rfl,_,_⟩:=bf.shape hO3;have hS:=hT.join hX;simp only[qw,List.cons_append,List.nil_append]at hS;clear hT hX hO1 hO2 hO3;(try clear hQ);have hQ:=St.fq hS.st;(try clear hN);have hN:=St.aq hS.st)|(go_at_call 256;(try clear hQ);refine kL (fun h=>eV h) fun w1 hS hQ hN=> ?_)|(go_at_call 174;(try clear hQ);refine kL (fun h=>dY h _ _) fun w1 hS hQ hN=> ?_)|(at_builtin;refine rA rfl rfl rfl rfl ?_;refine WH ?_;intro vN wN hS;(try clear hQ);have hQ:=St.fq hS.st;(try clear hN);have hN:=St.aq hS.st)|(go_at_call 241;refine lL fun hT=> ?_;refine(HJ (n:=n) ((hT.pick (r:= .own 4 1 ((.slice a0 n.length c0)) (n).length (gd (n))) (by exact iA)).pick (r:= .loc w.heap.size [.slice a0 n.length c0] 308) (by exact iA)) (by omega) Hst.out).mono ?_;rintro e w1 ⟨nv',rfl,hS⟩;clear hT;(try clear hQ);have hQ:=St.fq hS.st;(try clear hN);have hN:=St.aq hS.st)
      go_roundw
      case rel=>
       refine⟨l++ [(aY bs t).1],cs++cp (aY bs t).1 (.slice ta (aY bs t).1.types.length tc) (.slice la (aY bs t).1.labels.length lc) (.slice ca (aY bs t).1.catches.length cc),m,nv',(aY bs t).2,f,qw (aY bs t).1 (.slice ta (aY bs t).1.types.length tc) (.slice la (aY bs t).1.labels.length lc) (.slice ca (aY bs t).1.catches.length cc)++D,?_,lQ.snoc (fun r hr=>List.mem_append_left _ hr) (hD.mono fun r hr=>List.mem_append_right _ hr),h1,by simp;omega,by simp;omega,by omega,EX⟩
       have e1:(l++ [(aY bs t).1]).length=l.length+1:=by simp
       rw[e1]
       simp only[qw,List.cons_append,List.nil_append]
       exact hS.sel (by exact zl)
      case measure=>
       rw[hS.atOf,hatw]
       omega
  ·have q1:((aY bs t).2.err !=0)=true:=by simp[h1]
   have hx:dE bs (f+1) n t=(none,(aY bs t).2):=by
    unfold dE
    rw[if_pos h1]
   have EX:Hid (bI bs s=([],(aY bs t).2)):=Lib.hid (by unfold bI;rw[hI.out,hx];simp)
   clear hx hI h1
   go_wp2_with first|(refine bC (ty:=177) rfl rfl rfl eB rfl ?_;refine Tl ?_)|(refine lW rfl rfl rfl ?_)|(refine iE (ty:=177) rfl rfl rfl rfl ?_;refine Wi ?_;intro wN hS hFN;(try clear hQ);have hQ:=St.fq hS.st;(try clear hN);have hN:=St.aq hS.st)|(go_at_call 175;refine lL fun hT=> ?_;refine(d5 hT.rd).mono ?_;rintro e w1 ⟨rfl,rfl⟩;clear hT)|(go_at_call 255;refine lL fun hT=> ?_;refine(oW hT.rd (hT.gl7' hg)).mono ?_;rintro e w1 ⟨tv,lv,cv,rfl,hX⟩;have hO1:bf [] _ _ _ _ _ _:=hX.st.head;have hO2:bf [] _ _ _ _ _ _:=hX.st.tail.head;have hO3:bf [] _ _ _ _ _ _:=hX.st.tail.tail.head;obtain⟨ta,tc,rfl,_,_⟩:=bf.shape hO1;obtain⟨la,lc,rfl,_,_⟩:=bf.shape hO2;obtain⟨ca,cc,rfl,_,_⟩:=bf.shape hO3;have hS:=hT.join hX;simp only[qw,List.cons_append,List.nil_append]at hS;clear hT hX hO1 hO2 hO3;(try clear hQ);have hQ:=St.fq hS.st;(try clear hN);have hN:=St.aq hS.st)|(go_at_call 256;(try clear hQ);refine kL (fun h=>eV h) fun w1 hS hQ hN=> ?_)|(go_at_call 174;(try clear hQ);refine kL (fun h=>dY h _ _) fun w1 hS hQ hN=> ?_)|(at_builtin;refine rA rfl rfl rfl rfl ?_;refine WH ?_;intro vN wN hS;(try clear hQ);have hQ:=St.fq hS.st;(try clear hN);have hN:=St.aq hS.st)
   (try rw[Exit.noGoto_ret])
   go_ret
   refine⟨_,[],rfl,?_,?_,?_,hS.fr⟩
   ·rw[EX.out];exact Sl.nil _ _ _
   ·rw[EX.out];rfl
   ·rw[EX.out];exact hS.rd
theorem gL {p:Prop} (h:p:=by(((repeat(first|(with_reducible assumption)|(with_reducible apply KT.alloc)|(with_reducible apply KT.drew)|(with_reducible apply KT.drewN)|(with_reducible apply KT.set)|(with_reducible exact bg.here)|(with_reducible apply bg.there))));first|done|fail)):p:=h
def cE (S:List Nat) (w:World) (P:World→Prop):Prop:=∀w' X,Fr X w w'→(∀b,b<w.heap.size→b∈X→b∈S)→P w'
section
variable {S S' X : List Nat} {w w' : World} {P Q : World → Prop}
theorem cE.now (h:cE S w P):P w:=h w [] (Fr.refl _ _) (by simp)
theorem cE.go (h:cE S w P) (hf:Fr X w w') (hX:∀b,b<w.heap.size→b∈X→b∈S) (hS:∀b,b<w.heap.size→b∈S'→b∈S):cE S' w' P:=fun w2 X2 hf2 hs2=>
 h w2 (X++X2) ((hf.mono fun _ h=>List.mem_append_left _ h).trans (hf2.mono fun _ h=>List.mem_append_right _ h)) fun b hb hm=>
  (List.mem_append.1 hm).elim (hX b hb) fun hm=>hS b hb (hs2 b (Nat.lt_of_lt_of_le hb hf.size) hm)
theorem cE.imp (h:cE S w P) (hi:∀w,P w→Q w):cE S w Q:=fun w' X hf hs=>hi _ (h w' X hf hs)
theorem cE.and (h:cE S w P) (k:cE S w Q):cE S w (fun w=>P w∧Q w):=fun w' X hf hs=>⟨h w' X hf hs,k w' X hf hs⟩
theorem cE.pure {p:Prop} (hp:p):cE S w (fun _=>p):=fun _ _ _ _=>hp
theorem cE.sub (h:cE S w P) (hs:∀b,b<w.heap.size→b∈S'→b∈S):cE S' w P:=h.go (Fr.refl [] w) (by simp) hs
theorem Sl.stay {k n:Nat} {v:Value} {cs:List Value} (h:Sl S w k v n cs):cE S w (fun w=>Sl [] w k v n cs):=fun _ _ hf hs=>(h.fr hf hs).sub (by simp)
theorem dP.stay {is:List aa} {cs:List Value} (h:dP S w is cs):cE S w (fun w=>dP [] w is cs):=fun _ _ hf hs=>(h.fr hf hs).sub (by simp)
theorem di.stay {ts:List bu} {cs:List Value} (h:di S w ts cs):cE S w (fun w=>di [] w ts cs):=fun _ _ hf hs=>di.sub (by simp) (di.fr hf hs h)
end
def bU {α:Type} (R:α→List Value→World→Prop):List α→List Value→World→Prop
 | [],cs,_=>cs= []
 |x::xs,cs,w=>∃c r,cs=c++r∧R x c w∧bU R xs r w
theorem bU.snoc {α:Type} {R:α→List Value→World→Prop} {x:α} {c:List Value} {w:World} (hx:R x c w):∀{xs:List α} {cs:List Value},bU R xs cs w→bU R (xs++ [x]) (cs++c) w
 | [],_,h=>by
  have h: _= []:=h
  subst h
  exact⟨c,[],by simp,hx,rfl⟩
 | _:: _,_,⟨d,r,e,h1,h2⟩=>by
  subst e
  exact⟨d,r++c,by simp,h1,bU.snoc hx h2⟩
theorem bU.plain {α:Type} {C:α→List Value} {w:World}:∀{xs:List α} {cs:List Value},bU (fun x c _=>c=C x) xs cs w→cs=xs.flatMap C
 | [],_,h=>h
 | _:: _,_,⟨_,_,e,h1,h2⟩=>by
  subst e h1
  rw[bU.plain h2,List.flatMap_cons]
def an {α:Type} (k:Nat) (R:α→List Value→World→Prop) (v:Value) (xs:List α) (w:World):Prop:=∃cs,Sl [] w k v xs.length cs∧bU R xs cs w
structure KT (S:List Nat) (w0 w:World) (rb:Nat) (bv:Value) (bs:List UInt8) (s:ax) (G:List bt) (L:List (World→Prop)):Prop where
 r:dj S w0 w rb bv bs s G
 stay:∀P,P∈L→cE (G.flatMap bt.blk++S) w P
section
variable {S S1 X : List Nat} {w0 w w' : World} {rb : Nat} {bv : Value} {bs : List UInt8} {s s' : ax} {G G' : List bt} {L : List (World → Prop)} {P Q : World → Prop}
theorem KT.start (h:Rd S w rb bv bs s):KT S w w rb bv bs s [] []:=⟨dj.start h,fun _ h=>by cases h⟩
theorem KT.mem (h:KT S w0 w rb bv bs s G L):rb∈S:=h.r.rd.mem
theorem KT.lt0 (h:KT S w0 w rb bv bs s G L):∀b,b∈S→b<w0.heap.size:=by
 obtain⟨s0,h0⟩:=h.r.org
 exact h0.lt
theorem KT.step (h:KT S w0 w rb bv bs s G L) (k:dj S w0 w' rb bv bs s' G') (hf:Fr X w w') (hX:∀b,b∈X→b∈G.flatMap bt.blk++S) (hG:∀b,b∈G'.flatMap bt.blk→b∈G.flatMap bt.blk∨w.heap.size≤b):KT S w0 w' rb bv bs s' G' L:=
 ⟨k,fun P hP=>(h.stay P hP).go hf (fun b _ hb=>hX b hb) fun b hlt hb=>by
  rcases List.mem_append.1 hb with hb|hb
  ·exact List.mem_append_left _ ((hG b hb).elim id fun h=>by omega)
  ·exact List.mem_append_right _ hb⟩
theorem KT.call (h:KT S w0 w rb bv bs s G L) (hR:Rd S1 w' rb bv bs s') (hf:Fr [rb] w w'):KT S w0 w' rb bv bs s' G L:=
 h.step ⟨h.r.st.step hf (fun b hb=>⟨hb,by simp at hb;subst hb;exact h.r.lt⟩),h.r.org,hR.loc,hR.le⟩ hf (fun b hb=>by simp at hb;subst hb;exact List.mem_append_right _ h.mem) (fun _ h=> .inl h)
theorem KT.step0 (h:KT S w0 w rb bv bs s G L) (hf:Fr [] w w'):KT S w0 w' rb bv bs s G L:=h.step (X:= []) (h.r.step0 hf) hf (by simp) fun _ h=> .inl h
theorem KT.keep (h:KT S w0 w rb bv bs s G L) (hP:cE (G.flatMap bt.blk++S) w P):KT S w0 w rb bv bs s G (P::L):=
 ⟨h.r,fun Q hQ=>(List.mem_cons.1 hQ).elim (fun e=>e▸hP) (h.stay Q)⟩
theorem KT.callK (h:KT S w0 w rb bv bs s G L) (hR:Rd S1 w' rb bv bs s') (hf:Fr [rb] w w') (hP:cE (G.flatMap bt.blk++S) w' P):KT S w0 w' rb bv bs s' G (P::L):=(h.call hR hf).keep hP
theorem KT.wide (h:KT S w0 w rb bv bs s G L):Rd (G.flatMap bt.blk++S) w rb bv bs s:=h.r.wideG
theorem KT.rd (h:KT S w0 w rb bv bs s G L):Rd S w rb bv bs s:=h.r.rd
theorem KT.fr (h:KT S w0 w rb bv bs s G L):Fr [rb] w0 w:=h.r.fr
theorem KT.gl7 (h:KT S w0 w rb bv bs s G L) (hg:cq S w0):cq (G.flatMap bt.blk++S) w:=by
 have hG:∀b,b<w0.heap.size→b∈G.flatMap bt.blk++S→b∈S:=fun b hlt hb=>by
  rcases List.mem_append.1 hb with hb|hb
  ·obtain⟨r,hr,hb⟩:=List.mem_flatMap.1 hb
   have:=h.r.st.new r hr b hb
   omega
  ·exact hb
 exact(hg.sub hG).fr (S':= [rb]) h.r.st.fr fun b _ hb=>by simp at hb;subst hb;exact List.mem_append_right _ h.mem
theorem KT.wideS (h:KT S w0 w rb bv bs s G L):∀b,b<w0.heap.size→b∈G.flatMap bt.blk++S→b∈S:=fun b hlt hb=>by
 rcases List.mem_append.1 hb with hb|hb
 ·obtain⟨r,hr,hb⟩:=List.mem_flatMap.1 hb
  have:=h.r.st.new r hr b hb
  omega
 ·exact hb
theorem KT.alloc (h:KT S w0 w rb bv bs s G L) (cs:List Value) (T:TypeId):KT S w0 (w.alloc (.cells cs.toArray T)) rb bv bs s (.loc w.heap.size cs T::G) L:=
 h.step (X:= []) (h.r.alloc cs T) ((Fr.refl _ _).alloc _) (by simp) fun b hb=>by
  simp only[List.flatMap_cons,List.mem_append,bt.blk,List.mem_singleton]at hb
  rcases hb with rfl|hb
  ·exact .inr (Nat.le_refl _)
  ·exact .inl hb
theorem KT.drew (h:KT S w0 w rb bv bs s G L):KT S w0 w.drew rb bv bs s G L:=h.step (X:= []) h.r.drew (Fr.refl _ _).drew (by simp) fun _ h=> .inl h
theorem KT.drewN (h:KT S w0 w rb bv bs s G L) (n:Nat):KT S w0 (w.drewN n) rb bv bs s G L:=h.step (X:= []) (h.r.drewN n) ((Fr.refl _ _).drewN n) (by simp) fun _ h=> .inl h
theorem bg.blk {r:bt} (p:bg G r G'):∀b,b∈r.blk∨b∈G'.flatMap bt.blk↔b∈G.flatMap bt.blk:=fun b=>by
 simp only[List.mem_flatMap,p.mem]
 constructor
 ·rintro(h|⟨r,h,k⟩)
  ·exact⟨_,.inl rfl,h⟩
  ·exact⟨r,.inr h,k⟩
 ·rintro⟨r,rfl|h,k⟩
  ·exact .inl k
  ·exact .inr ⟨r,h,k⟩
theorem KT.set (h:KT S w0 w rb bv bs s G L) {b:Nat} {cs:List Value} {T:TypeId} (p:bg G (.loc b cs T) G') (i:Nat) (u:Value):KT S w0 (w.setCell ⟨b,i,none⟩ u) rb bv bs s (.loc b (cs.set i u) T::G') L:=
 h.step (X:= [b]) (h.r.set p i u) ((Fr.refl [b] w).setCell (p:=⟨b,i,none⟩) (by simp) u) (fun c hc=>List.mem_append_left _ ((p.blk c).1 (.inl (by simpa [bt.blk]using hc))))
  fun c hc=> .inl ((p.blk c).1 (by simpa [bt.blk]using hc))
theorem KT.setAll (h:KT S w0 w rb bv bs s G L) {b:Nat} {cs vs:List Value} {T:TypeId} (p:bg G (.loc b cs T) G') (hl:vs.length=cs.length):KT S w0 (w.setCells b 0 vs) rb bv bs s (.loc b vs T::G') L:=
 h.step (X:= [b]) (h.r.setAll p hl) (Fr.setCells vs 0 w) (fun c hc=>List.mem_append_left _ ((p.blk c).1 (.inl (by simpa [bt.blk]using hc))))
  fun c hc=> .inl ((p.blk c).1 (by simpa [bt.blk]using hc))
theorem KT.nil (h:KT S w0 w rb bv bs s G L) (e:TypeId) (k c:Nat) (hc:c=0:=by rfl):KT S w0 w rb bv bs s (.own e k (.slice none 0 c) 0 []::G) L:=by
 subst hc
 exact h.step (X:= []) (h.r.nil e k 0) (Fr.refl _ _) (by simp) fun b hb=> .inl (by simpa [bt.blk,Value.blk]using hb)
theorem KT.sel (h:KT S w0 w rb bv bs s G L) (p:xM G G'):KT S w0 w rb bv bs s G' L:=
 h.step (X:= []) (h.r.sel p) (Fr.refl _ _) (by simp) fun b hb=>by
  obtain⟨r,hr,hb⟩:=List.mem_flatMap.1 hb
  exact .inl (List.mem_flatMap.2 ⟨r,p.mem r hr,hb⟩)
theorem KT.got (h:KT S w0 w rb bv bs s G L) (hi:∀w,(∀P,P∈L→P w)→Q w):KT S w0 w rb bv bs s G [Q]:=
 ⟨h.r,fun P hP=>by
  obtain rfl:=List.mem_singleton.1 hP
  exact fun w' X hf hs=>hi w' fun P hP=>h.stay P hP w' X hf hs⟩
theorem KT.fin (h:KT S w0 w rb bv bs s G L) (hi:∀w,(∀P,P∈L→P w)→Q w):cE S w Q:=
 fun w' X hf hs=>hi w' fun P hP=>h.stay P hP w' X hf fun b hb hm=>List.mem_append_right _ (hs b hb hm)
theorem KT.ownK (h:KT S w0 w rb bv bs s G L) {e:TypeId} {k n:Nat} {v:Value} {xs:List Value} (p:bg G (.own e k v n xs) G'):KT S w0 w rb bv bs s G' ((fun w=>Sl [] w k v n xs)::L):=by
 have h1:=h.r.st.pick p
 have ha:=List.pairwise_cons.1 h1.apart
 have h2:KT S w0 w rb bv bs s G' L:=h.step (X:= []) ⟨h1.tail,h.r.org,h.r.loc,h.r.le⟩ (Fr.refl _ _) (by simp) fun b hb=> .inl ((p.blk b).1 (.inr hb))
 refine h2.keep (Sl.stay (bf.sl (h1.head:bf [] w e k v n xs) fun b hb hm=> ?_))
 rcases List.mem_append.1 hm with hm|hm
 ·obtain⟨r,hr,hm⟩:=List.mem_flatMap.1 hm
  exact ha.1 r hr b hb hm
 ·have h3:=h1.new _ List.mem_cons_self b hb
  have h4:=h.lt0 b hm
  omega
theorem KT.locK (h:KT S w0 w rb bv bs s G L) {b k:Nat} {cs:List Value} {T:TypeId} (p:bg G (.loc b cs T) G') (hl:cs.length=k) (h1:∀u∈cs,u.oneCell'=true):KT S w0 w rb bv bs s G' ((fun w=>Sl [] w k (.slice (some ⟨b,0,none⟩) 1 1) 1 cs)::L):=by
 have hd:=h.r.st.dstT (nT.lit (e:=T) (k:=k) p hl h1)
 have h2:KT S w0 w rb bv bs s (.own T k (.slice (some ⟨b,0,none⟩) 1 1) 1 cs::G') L:=h.step (X:= []) ⟨hd,h.r.org,h.r.loc,h.r.le⟩ (Fr.refl _ _) (by simp) fun c hc=> .inl ((p.blk c).1 (by simpa [bt.blk,Value.blk]using hc))
 exact h2.ownK bg.here
theorem nT.blks {e:TypeId} {k n:Nat} {v:Value} {xs:List Value} (d:nT e k G v n xs G'):∀b,b∈Value.blk v∨b∈G'.flatMap bt.blk→b∈G.flatMap bt.blk:=by
 cases d with
 |own p=>exact fun b hb=>(p.blk b).1 (by simpa [bt.blk]using hb)
 |lit p hk h1=>exact fun b hb=>(p.blk b).1 (by simpa [bt.blk,Value.blk]using hb)
 |nil hc=>exact fun b hb=>hb.elim (fun h=>by cases h) id
def ka (t e:TypeId) (k bytes:Nat):Prop:=Tryz.prog.underlying t=some (.slice e)∧∃i z,Tryz.prog.info? e=some i∧i.zero=some z∧i.size=k∧i.bytes=bytes∧z.cells.size=k
theorem md {t e:TypeId} {k bytes:Nat} (hu:Tryz.prog.underlying t=some (.slice e)) (hi:(Tryz.prog.info? e).map (fun i=>(i.zero.map (·.cells.size),i.size,i.bytes))=some (some k,k,bytes)):ka t e k bytes:=by
 refine⟨hu,?_⟩
 cases h:Tryz.prog.info? e with
 |none=>simp[h]at hi
 |some i=>
  simp only[h,Option.map_some,Option.some.injEq,Prod.mk.injEq]at hi
  cases hz:i.zero with
  |none=>simp[hz]at hi
  |some z=>exact⟨i,z,rfl,hz,hi.2.1,hi.2.2,by simpa [hz]using hi.1⟩
variable {ops : Array Oper} {rest : List Oper} {o : Oper} {a : Act} {Q2 : Exit → Act → World → Prop}
theorem jA {s1 x:Operand} {v xv:Value} {t e:TypeId} {k bytes:Nat} (hA:ka t e k bytes) (hk:0<k) (hb:bytes≤256) (hgd:o.guard=none)
 (ho:o.op= .call {callee:= .builtin .append,args:= #[s1,x],argTypes:= #[t,t]}) (hs:a.eval s1=v) (hx:a.eval x=xv)
 (h:∃S w0 rb bv bs s G G' L n xs m news,KT S w0 w rb bv bs s G L∧nT e k G v n xs G'∧oK e k G w xv m news∧n+m≤549755813888∧
  ∀v' w',KT S w0 w' rb bv bs s (.own e k v' (n+m) (xs++news)::G') L→wpList Tryz.prog ops Q2 rest (a.put o.dst v') w'):
 wpList Tryz.prog ops Q2 (o::rest) a w:=by
 obtain⟨S,w0,rb,bv,bs,s,G,G',L,n,xs,m,news,hst,hp,hsrc,hn,h⟩:=h
 obtain⟨ht,i,z,hi,hz,hsize,hby,hzs⟩:=hA
 have hd:=hst.r.st.dstT hp
 refine gI hgd s1 x t t ho e i z k bytes ht hi hz hsize hby hzs hk [] (by simp) v n xs hs hd.head xv m news hx (hsrc.src ht hst.r.st) ?_ (by unfold maxLen;omega) fun v' w' ho' hf hb'=>h v' w' ?_
 ·exact Nat.le_trans (Nat.mul_le_mul hn hb) (by decide)
 ·refine hst.step (X:=Value.blk v) (hst.r.other (hd.app hf ho' hb') hf (fun hm=> ?_)) hf (fun b hb=>List.mem_append_left _ (hp.blks b (.inl hb))) (fun b hb'=> ?_)
  ·have h1:=hd.new _ List.mem_cons_self rb (by simpa [bt.blk]using hm)
   have h2:=hst.r.lt
   omega
  ·simp only[List.flatMap_cons,List.mem_append,bt.blk]at hb'
   rcases hb' with h1|h1
   ·rcases ‹Value.blk v'=Value.blk v∨Value.blk v'= [w.heap.size]› with h2|h2
    ·rw[h2]at h1;exact .inl (hp.blks b (.inl h1))
    ·rw[h2]at h1;simp at h1;exact .inr (by omega)
   ·exact .inl (hp.blks b (.inr h1))
theorem hU {p':Prop} {P:Program} {f:FuncId} {args:Array Value} {Q:Ending→World→Prop} {S:List Nat} {w0 w:World} {rb:Nat} {bv:Value} {bs:List UInt8} {s:ax} {G G':List bt} {L:List (World→Prop)} (k:KT S w0 w rb bv bs s G' L→p') (h:KT S w0 w rb bv bs s G L:=by exact gL)
 (g:KT S w0 w rb bv bs s G L→KT S w0 w rb bv bs s G' L:=by(intro h;(try simp only[World.size_alloc,World.size_setCell,ay,ar]at h);exact h)) (e:p'→Calls P f args w Q:=by(intro h;(try simp only[World.size_alloc,World.size_setCell,ay,ar]);exact h)):Calls P f args w Q:=e (k (g h))
theorem ia {P:Program} {f:FuncId} {args:Array Value} {S:List Nat} {w0 w:World} {rb:Nat} {bv:Value} {bs:List UInt8} {s s':ax} {G G':List bt} {L:List (World→Prop)} {v:Value} {F:World→Prop} {N:Prop} {Q:Ending→World→Prop}
 (c:Rd S w rb bv bs s→Calls P f args w fun e w'=>e= .returned v∧Rd S w' rb bv bs s'∧Fr [rb] w w') (k:∀w1,KT S w0 w1 rb bv bs s' G' L→F w1→N→Q (.returned v) w1) (h:KT S w0 w rb bv bs s G L:=by exact gL)
 (g:∀w1,KT S w0 w1 rb bv bs s' G L→KT S w0 w1 rb bv bs s' G' L∧F w1∧N:=by(intro w h;(try simp only[World.size_alloc,World.size_setCell,ay,ar]at h);exact⟨h,St.fq h.r.st,St.aq h.r.st⟩)):Calls P f args w Q:=
 (c h.rd).mono fun e w1 ⟨e1,hR,hF⟩=>by
  have k1:=g w1 (h.call hR hF)
  rw[e1]
  exact k w1 k1.1 k1.2.1 k1.2.2
theorem ss {ty:TypeId} {x y:Operand} {b:Nat} {vs:List Value} (hgd:o.guard=none) (ho:o.op= .store ty x y) (hx:a.eval x= .pointer (some ⟨b,0,none⟩)) (hy:a.eval y= .agg vs.toArray)
 (h:∃S w0 rb bv bs s G G' L cs T,KT S w0 w rb bv bs s G L∧bg G (.loc b cs T) G'∧vs.length=cs.length∧(Tryz.prog.info? ty).map (·.size)=some vs.length∧(∀v∈vs,v.oneCell'=true)∧∀w',KT S w0 w' rb bv bs s (.loc b vs T::G') L→wpList Tryz.prog ops Q2 rest (a.put o.dst undef) w'):wpList Tryz.prog ops Q2 (o::rest) a w:=by
 obtain⟨S,w0,rb,bv,bs,s,G,G',L,cs,T,hst,hp,hl,hi,h1,h⟩:=h
 refine wpList_store_mid hgd ty x y ho b 0 vs.toArray hx hy ?_ (by simpa using hi) (all_oneCell_toArray h1) ?_
 ·have:=(hst.r.st.loc hp).there
  simpa [hl]using this
 ·simpa using h _ (hst.setAll hp hl)
theorem lf {P:Program} {fn:Func} {R:Ending→World→Prop} {p:Tmp} {ty:TypeId} {d:TypeDesc} {g:Nat} (h:fn.results= #[.cell p ty]) (hp:a.tmps.getD p undef= .pointer (some ⟨g,0,none⟩))
 (hu:P.underlying ty=some d) (hd:(match d with| .struct _| .array _ _=>true| _=>false)=true) (hdf:a.defers= [])
 (hx:∃S w0 rb bv bs s G G' L T cs,KT S w0 w rb bv bs s G L∧bg G (.loc g cs T) G'∧(P.info? ty).map (·.size)=some cs.length∧R (.returned (.agg cs.toArray)) w):
 bodyPost P fn R .ret a w:=by
 obtain⟨S,w0,rb,bv,bs,s,G,G',L,T,cs,hst,pk,hi,hR⟩:=hx
 exact eK h hp (hst.r.st.loc pk) hu hd hi hdf hR
end
def du (l:eA):List Value:= [.bool l.wide,.int .u64 (l.min:Int),.int .u64 (l.max:Int),.bool l.hasMax]
def dv (t:dJ):List Value:=cj t.elem++du t.lim
def dK (g:dW):List Value:=cj g.val++ [.bool g.mut_]
def lz (x:i9):List Value:= .int .i64 x.kind:: .int .i64 x.n::(dv x.table++(du x.mem++dK x.global))
def eR (i:jp):List Value:=iI i.modu::iI i.name::lz i.what
def gw (e:kB):List Value:= [iI e.name,.int .i64 e.kind,.int .i64 e.n]
def fk (r:fN):List Value:= .int .i64 r.n::cj r.val
def aE {α:Type} (C:α→List Value):α→List Value→World→Prop:=fun x c _=>c=C x
def KU:aa→List Value→World→Prop:=fun i c w=>∃tv lv cv,c=cp i tv lv cv∧gR [] w i tv lv cv
def eo (v:Value) (is:List aa) (w:World):Prop:=an 19 KU v is w
def ou:List aa→List Value→World→Prop:=fun l c w=>∃v,c= [v]∧eo v l w
def ET (v:Value) (g:List bu) (w:World):Prop:=∃cs,Sl [] w 6 v g.length cs∧di [] w g cs
def xU:List bu→List Value→World→Prop:=fun g c w=>∃v,c= [v]∧ET v g w
def ku:dh→List Value→World→Prop:=fun f c w=>∃lv bv,c= [.int .i64 f.type,lv,bv]∧an 5 (aE fk) lv f.locals w∧eo bv f.body w
def qG:lO→List Value→World→Prop:=fun t c w=>∃v,c=dv t.type++ [.bool t.hasInit,v]∧eo v t.init w
def qR:mD→List Value→World→Prop:=fun g c w=>∃v,c=dK g.type++ [v]∧eo v g.init w
def gD:eb→List Value→World→Prop:=fun e c w=>∃iv ov,c=cj e.type++ [iv,.int .i64 e.mode,.int .i64 e.table,ov]∧an 1 ou iv e.inits w∧eo ov e.offset w
def rK:jG→List Value→World→Prop:=fun d c w=>∃ov bv,c= [.int .i64 d.mode,.int .i64 d.mem,ov,bv]∧eo ov d.offset w∧Sl [] w 1 bv d.bytes.length (d.bytes.map B)
def cI (c:List Value) (m:aV) (w:World):Prop:=∃ty im fu ta me tg gl ex el da,
 c= [ty,im,fu,ta,me,tg,gl,ex,.int .i64 m.start,el,da]∧an 1 xU ty m.types w∧an 21 (aE eR) im m.imports w∧an 3 ku fu m.funcs w∧an 10 qG ta m.tables w∧
 an 4 (aE du) me m.mems w∧an 1 (aE gK) tg m.tags w∧an 6 qR gl m.globals w∧an 3 (aE gw) ex m.exports w∧an 8 gD el m.elems w∧an 4 rK da m.datas w
theorem dP.list {is:List aa}:∀{cs:List Value} {w:World},dP [] w is cs→bU KU is cs w:=by
 induction is with
 |nil=>exact fun h=>h
 |cons i is ih=>exact fun⟨tv,lv,cv,r,e,h1,h2⟩=>⟨cp i tv lv cv,r,e,⟨tv,lv,cv,rfl,h1⟩,ih h2⟩
theorem bU.ins {is:List aa}:∀{cs:List Value} {w:World},bU KU is cs w→dP [] w is cs:=by
 induction is with
 |nil=>exact fun h=>h
 |cons i is ih=>exact fun⟨c,r,e,⟨tv,lv,cv,e2,h1⟩,h2⟩=>⟨tv,lv,cv,r,by rw[e,e2],h1,ih h2⟩
theorem eo.nil (w:World):eo (.slice none 0 0) [] w:=⟨[],Sl.nil _ _ _,rfl⟩
theorem an.nil {α:Type} (k:Nat) (R:α→List Value→World→Prop) (w:World):an k R (.slice none 0 0) [] w:=⟨[],Sl.nil _ _ _,rfl⟩
theorem an.plain {α:Type} {k:Nat} {C:α→List Value} {v:Value} {xs:List α} {w:World} (h:Sl [] w k v xs.length (xs.flatMap C)):an k (aE C) v xs w:=by
 refine⟨_,h,?_⟩
 clear h
 induction xs with
 |nil=>rfl
 |cons x xs ih=>exact⟨C x,xs.flatMap C,by simp,rfl,ih⟩
theorem kR:Tryz.prog.underlying 9=some .string:=by kernel_rfl
theorem mR:Tryz.prog.underlying 5=some (.int .u8):=by kernel_rfl
theorem cX.conv {w:World} {v:Value} {X:List UInt8} (h:cX w v X):(convert 34 9 v).run Tryz.prog w= .ok (.string ⟨X.toArray⟩) w:=by
 obtain⟨h1,h2,h3⟩:=h
 rcases h3 with⟨rfl,h0⟩|⟨g,cap,cur,rfl,hg,hh,h4,h5,h6,h7⟩
 ·have:X= []:=List.length_eq_zero_iff.1 h0
  subst this
  rw[run_convert_bytes_string w _ _ _ _ _ _ aB mR kR]
  rfl
 ·refine run_convert_bytes_back w _ _ _ ⟨g,0,none⟩ cap X aB mR kR (fun j hj=> ?_)
  have hadd:(⟨g,0,none⟩:Addr).add j=⟨g,j,none⟩:=by unfold Addr.add;split<;>simp_all
  rw[hadd,hh.cell j]
  have h8:=congrArg (fun l=>l[j]?) h7
  simp only[List.getElem?_take,List.getElem?_map]at h8
  rw[if_pos (by omega)]at h8
  simp only[Array.getElem?_toList]at h8
  rw[h8,List.getElem?_eq_getElem hj]
  rfl
theorem St.conv {S:List Nat} {w0 w:World} {G G':List bt} {v:Value} {X:List UInt8} (h:St S w0 w G) (p:bg G (.own 5 1 (v) (X).length ((X).map B)) G'):(convert 34 9 v).run Tryz.prog w= .ok (.string ⟨X.toArray⟩) w:=
 cX.conv (h.outOf p)
theorem cX.take {w:World} {a:Option Addr} {n c:Nat} {X:List UInt8} (h:cX w (.slice a n c) X) (m:Nat) (hm:m≤n):cX w (.slice a m c) (X.take m):=by
 have h1:bf [] w 5 1 (.slice a n c) X.length (X.map B):=h
 obtain⟨_,_,e,_,_⟩:=h1.shape
 injection e with _ e2 _
 subst e2
 have h2:=h1.take hm
 have e3:(X.take m).length=m:=by rw[List.length_take];omega
 have e4:(X.map B).take (m*1)=(X.take m).map B:=by rw[Nat.mul_one,List.map_take]
 rw[e4]at h2
 show bf [] w 5 1 (.slice a m c) (X.take m).length ((X.take m).map B)
 rw[e3]
 exact h2
theorem P2 (a b:List UInt8):(⟨a.toArray⟩:ByteArray)++(⟨b.toArray⟩:ByteArray)=⟨(a++b).toArray⟩:=by
 apply ByteArray.ext
 rw[ByteArray.data_append]
 simp
theorem wG (s p:ByteArray) (w:World):Calls Tryz.prog 262 #[.string s,.string p] w fun e w'=>e= .returned (.bool (Lib.hasPrefix s.data.toList p.data.toList))∧w'=w:=by
 rw[←Lib.hasPrefix_of_take,←Lib.size_eq,←Lib.size_eq]
 go_enter Tryz.func262,Tryz.ntmps262
 go_wp2
 ·rename_i h
  go_ret
  refine⟨?_,rfl⟩
  show Ending.returned (Value.bool ((s.extract 0 p.size).toList==p.toList))= _
  rw[Lib.extract_toList,Lib.toList_data]
  simp[h]
 ·rename_i h
  go_ret
  refine⟨?_,rfl⟩
  show Ending.returned (Value.bool false)= _
  simp[h]
theorem qc (s p:ByteArray) (w:World):Calls Tryz.prog 232 #[.string s,.string p] w fun e w'=>e= .returned (.bool (Lib.hasPrefix s.data.toList p.data.toList))∧w'=w:=by
 go_enter Tryz.func232,Tryz.ntmps232
 go_wp2_with (go_at_call 262;refine(wG _ _ _).mono ?_;rintro e w' ⟨rfl,hw⟩;rw[hw])
 exact Cs
theorem I1 (s:ByteArray) (pos:Nat) (h:pos<s.size):1≤(Utf8.decode s pos).2:=by
 by_cases ha:(s[pos]'h).toNat<128
 ·rw[decode_ascii s pos h ha]
  exact Nat.le_refl _
 ·exact(decode_high s pos h (by omega)).2
theorem Jq (s:ByteArray) (hs:s.size≤1099511627776) (w:World):Calls Tryz.prog 183 #[.string s] w fun e w'=>∃n:Int,e= .returned (.int .i64 n)∧decide (0≤n)=iY s.data.toList∧Fr [] w w':=by
 go_enter Tryz.func183,Tryz.ntmps183
 go_wp2
 go_loopw [3] (fun n w'=>∃(pos b acc:Nat),w'=w.iter s pos∧n= .int .i64 acc∧acc≤pos∧pd s b pos=iY s.data.toList∧s.size≤pos+b) (fun _ w'=>s.size-w'.iterPos w.heap.size)
 case atStart=>exact⟨0,s.size,0,rfl,rfl,Nat.le_refl _,Kj s,by omega⟩
 case round=>
  obtain⟨pos,b,acc,rfl,rfl,ha,hc,hb⟩:=hrel
  by_cases hp:pos<s.size
  ·have hnx:∀ty,(Instr.next (.pointer (some ⟨w.heap.size,0,none⟩)) true ty).run Tryz.prog (w.iter s pos)= _:=fun ty=>run_next_any w s pos ty hp
   have hwd:=I1 s pos hp
   have hHid:=Lib.hid hc
   obtain⟨b,rfl⟩:∃k,b=k+1:=⟨b-1,by omega⟩
   have hx:List.take (s.size-pos) (List.drop pos s.data.toList)=s.data.toList.drop pos:=List.take_of_length_le (by rw[List.length_drop,←Lib.size_eq];exact Nat.le_refl _)
   clear hc
   by_cases h1:(Utf8.decode s pos).1=65533
   ·have q1:((((Utf8.decode s pos).1:Nat):Int)==65533)=true:=by simp[h1]
    cases hpf:Lib.hasPrefix (s.data.toList.drop pos) J6
    ·have hcf:pd s (b+1) pos=false:=by rw[pd,if_pos hp,if_pos ⟨h1,hpf⟩]
     have hq:Lib.hasPrefix (List.take (s.size-pos) (List.drop pos s.data.toList)) [239,191,189]=false:=by rw[hx];exact hpf
     have HW:Hid (iY s.data.toList=false):=Lib.hid (by rw[←hHid.out];exact hcf)
     clear h1 hpf hx hcf hHid
     go_wp2_with (go_at_call 232;refine(qc _ _ _).mono ?_;rintro e w' ⟨rfl,hw⟩;rw[hw])
     go_ret
     exact⟨-1,rfl,by rw[HW.out];rfl,(Fr.refl [] w).alloc _⟩
    ·have hcf:pd s (b+1) pos=pd s b (pos+(Utf8.decode s pos).2):=by rw[pd,if_pos hp,if_neg (by simp[hpf])]
     have hq:Lib.hasPrefix (List.take (s.size-pos) (List.drop pos s.data.toList)) [239,191,189]=true:=by rw[hx];exact hpf
     have HC:Hid (pd s b (pos+(Utf8.decode s pos).2)=iY s.data.toList):=Lib.hid (by rw[←hcf];exact hHid.out)
     clear h1 hpf hx hcf hHid
     exact XZ
   ·have q1:((((Utf8.decode s pos).1:Nat):Int)==65533)=false:=by simp;omega
    have hcf:pd s (b+1) pos=pd s b (pos+(Utf8.decode s pos).2):=by rw[pd,if_pos hp,if_neg (fun h=>h1 h.1)]
    have HC:Hid (pd s b (pos+(Utf8.decode s pos).2)=iY s.data.toList):=Lib.hid (by rw[←hcf];exact hHid.out)
    clear h1 hx hcf hHid
    exact XZ
  ·have hnx:∀ty,(Instr.next (.pointer (some ⟨w.heap.size,0,none⟩)) true ty).run Tryz.prog (w.iter s pos)= _:=fun ty=>run_next_end w s pos ty hp
   rw[M8 s b pos hp]at hc
   have HC:=Lib.hid hc
   clear hc
   go_wp2
   go_ret
   exact⟨acc,rfl,by rw[←HC.out];simp,(Fr.refl [] w).alloc _⟩
theorem jY (s:List UInt8) (hs:s.length≤1099511627776) (w:World):Calls Tryz.prog 120 #[.string ⟨s.toArray⟩] w fun e w'=>e= .returned (.bool (iY s))∧Fr [] w w':=by
 go_enter Tryz.func120,Tryz.ntmps120
 go_wp2_with (go_at_call 183;refine(Jq ⟨s.toArray⟩ (by simpa [ByteArray.size]using hs) _).mono ?_;rintro e w1 ⟨n,rfl,hn,hf⟩)
 all_goals
  go_ret
  have hn:decide (0≤n)=iY s:=hn
  rw[←hn]
  simp[*]
theorem rH (bs:List UInt8) (at_:Nat):(ak bs at_ 32 false).1<549755813888:=by
 unfold ak
 split
 ·exact CS _ _ _ _ (by simp) (by omega)
 ·simp
theorem vg {bs:List UInt8} {at_ nb:Nat} {sg:Bool} (ha:at_≤bs.length) (h0:(ak bs at_ nb sg).2.2=0):at_< (ak bs at_ nb sg).2.1:=by
 rw[eH ha]at h0⊢
 generalize hq:dV sg nb (bs.drop at_) at_ 0 0=q at h0⊢
 obtain⟨v,nx,er⟩:=q
 simp only at h0⊢
 subst h0
 exact(lr _ _ _ _ _ _ _ _ hq).1
theorem Sl.mid {S:List Nat} {w:World} {b off n cap c:Nat} {bs:List UInt8} (h:Sl S w 1 (.slice (some ⟨b,off,none⟩) n cap) bs.length (bs.map B)) {lo m:Nat} (hl:lo+m≤bs.length) (hc:m≤c) (hm:c≤maxLen):
 Sl S w 1 (.slice (some ⟨b,off+lo,none⟩) m c) ((bs.drop lo).take m).length (((bs.drop lo).take m).map B):=by
 obtain⟨h1,h2,a',cap',h3,h4,h5,hN,h6⟩:=h
 injection h3 with e1 e2 e3
 subst e1 e2 e3
 have hlen:((bs.drop lo).take m).length=m:=by rw[List.length_take,List.length_drop];omega
 rw[hlen]
 refine⟨by simp;omega,fun u hu=> ?_,some ⟨b,off+lo,none⟩,c,rfl,hc,hm,(fun h=>by cases h),?_⟩
 ·obtain⟨x,_,rfl⟩:=List.mem_map.1 hu
  rfl
 ·rcases h6 with h6|⟨b',off',e,hn,hb,hcell⟩
  ·exact .inl (by omega)
  ·injection e with e
   injection e with e1 e2
   subst e1 e2
   refine .inr ⟨b,off+lo,rfl,hn,hb,fun j hj=> ?_⟩
   rw[Nat.add_assoc,hcell _ (by omega),List.getElem?_map,List.getElem?_map,List.getElem?_take,if_pos (by omega),List.getElem?_drop]
theorem Sl.mid0 {S:List Nat} {w:World} {a0:Addr} {n cap:Nat} {bs:List UInt8} (_:Sl S w 1 (.slice (some a0) n cap) bs.length (bs.map B)) {lo m:Nat} (hm:m=0):
 Sl S w 1 (.slice (some a0) m 0) ((bs.drop lo).take m).length (((bs.drop lo).take m).map B):=by
 subst hm
 exact⟨rfl,(fun _ h=>by cases h),some a0,0,rfl,Nat.le_refl _,by decide,fun h=>(by cases h),.inl rfl⟩
theorem Sl.conv {S:List Nat} {w:World} {v:Value} {X:List UInt8} (h:Sl S w 1 v X.length (X.map B)):(convert 34 9 v).run Tryz.prog w= .ok (iI X) w:=by
 obtain⟨h1,h2,a,cap,rfl,h4,h5,hN,h6⟩:=h
 rcases h6 with h0|⟨b,off,rfl,hn,hb,hc⟩
 ·have:X= []:=List.length_eq_zero_iff.1 h0
  subst this
  rw[List.length_nil,run_convert_bytes_string w _ _ _ _ _ _ aB mR kR]
  cases a<;>rfl
 ·refine run_convert_bytes_back w _ _ _ ⟨b,off,none⟩ cap X aB mR kR (fun j hj=> ?_)
  have hadd:(⟨b,off,none⟩:Addr).add j=⟨b,off+j,none⟩:=by unfold Addr.add;split<;>simp_all
  rw[hadd,hc j (by omega),List.getElem?_map,List.getElem?_eq_getElem hj]
  rfl
theorem Ao (S:List Nat) (bv:Value) (bs:List UInt8) (at_:Nat) (w:World) (hb:Sl S w 1 bv bs.length (bs.map B)) (hlen:bs.length≤1099511627776) (hat:at_≤bs.length):
 Calls Tryz.prog 227 #[bv,.int .i64 at_] w fun e w'=>e= .returned (.tuple #[iI (dS bs at_).1,.int .i64 (dS bs at_).2.1,.int .i64 (dS bs at_).2.2])∧Fr [] w w':=by
 have hv:=rH bs at_
 have hle:=kX (bs:=bs) (at_:=at_) (nb:=32) (sg:=false) hat
 have hgt:=vg (bs:=bs) (at_:=at_) (nb:=32) (sg:=false) hat
 have hcon:=wm S _ bs at_ 32 w hb hlen hat (by decide) (by decide)
 unfold dS
 generalize ak bs at_ 32 false=q at hv hle hgt hcon⊢
 obtain⟨v,nx,er⟩:=q
 simp only at hv hle hgt hcon⊢
 have Hcon:=Lib.hid hcon
 clear hcon
 by_cases h1:er=0
 ·replace hle:=hle h1
  replace hgt:=hgt h1
  subst h1
  obtain⟨b,off,cap,hbv,hcap⟩:∃b off cap,bv= .slice (some ⟨b,off,none⟩) bs.length cap∧bs.length≤cap∧cap≤maxLen:=by
   exact UU
  subst hbv
  have hmx:=hcap.2
  unfold maxLen at hmx
  have hw:IntKind.u64.wrap ((bs.length:Int)-(nx:Nat))=((bs.length-nx:Nat):Int):=by rw[IntKind.wrap_u64];omega
  rw[if_neg (by simp)]
  by_cases h2:bs.length-nx<v
  ·rw[if_pos h2]
   go_enter Tryz.func227,Tryz.ntmps227
   go_wp2_with first|(go_at_call 103;refine Hcon.out.mono ?_;rintro e w' ⟨rfl,rfl⟩)
   all_goals first|(exfalso;omega)|skip
   go_ret3
   exact⟨rfl,Fr.refl _ _⟩
  ·have hX:((bs.drop nx).take v).length≤1099511627776:=by rw[List.length_take,List.length_drop];omega
   rw[if_neg h2]
   by_cases hc:cap=nx
   ·subst hc
    have hv0:v=0:=by omega
    subst hv0
    have hm:=(Sl.mid0 hb (lo:=cap) (m:=0) rfl).conv
    generalize (bs.drop cap).take 0=X at hX hm⊢
    exact XG
   ·have hm:=(Sl.mid (c:=cap-nx) hb (lo:=nx) (m:=v) (by omega) (by omega) (by unfold maxLen;omega)).conv
    generalize (bs.drop nx).take v=X at hX hm⊢
    exact XG
 ·have q1:((er:Int) !=0)=true:=by simp;omega
  rw[if_pos h1]
  clear h1
  obtain⟨a,cap,rfl⟩:=hb.shape
  go_enter Tryz.func227,Tryz.ntmps227
  go_wp2_with first|(go_at_call 103;refine Hcon.out.mono ?_;rintro e w' ⟨rfl,rfl⟩)
  go_ret3
  exact⟨rfl,Fr.refl _ _⟩
theorem Pe {S w rb bv bs s} (h:Rd S w rb bv bs s) (hg:cq S w) (h0:s.err≠0):Calls Tryz.prog 211 #[.pointer (some ⟨rb,0,none⟩)] w fun e w'=>e= .returned (.slice none 0 0)∧Rd S w' rb bv bs s∧Fr [rb] w w':=by
 have hS:=dj.start h
 have hi:=j5.stuck bs s h0
 have q1:((aY bs s).2.err !=0)=true:=by rw[hi];simp[h0]
 have Hi:=Lib.hid hi
 clear hi h0
 go_enter Tryz.func211,Tryz.ntmps211
 go_wp2
 go_step3
 go_wp2
 go_step3
 go_wp2
 go_loopw [3] (fun v wr=>v= .slice none 0 0∧dj S w wr rb bv bs s []) (fun _ _=>0)
 case atStart=>exact⟨rfl,(hS.alloc [.slice none 0 0] 308).sel .nil⟩
 case round=>
  obtain⟨rfl,hS⟩:=hrel
  go_wp2_with first|(refine iE (ty:=177) rfl rfl rfl rfl ?_;refine Wi ?_;intro wN hS hFN;(try clear hQ);have hQ:=St.fq hS.st;(try clear hN);have hN:=St.aq hS.st)|(go_at_call 175;refine lL fun hT=> ?_;refine(d5 hT.rd).mono ?_;rintro e w1 ⟨rfl,rfl⟩;clear hT)|(go_at_call 255;refine lL fun hT=> ?_;refine(oW hT.rd (hT.gl7' hg)).mono ?_;rintro e w1 ⟨tv,lv,cv,rfl,hX⟩;have hO1:bf [] _ _ _ _ _ _:=hX.st.head;have hO2:bf [] _ _ _ _ _ _:=hX.st.tail.head;have hO3:bf [] _ _ _ _ _ _:=hX.st.tail.tail.head;obtain⟨ta,tc,rfl,_,_⟩:=bf.shape hO1;obtain⟨la,lc,rfl,_,_⟩:=bf.shape hO2;obtain⟨ca,cc,rfl,_,_⟩:=bf.shape hO3;have hS:=hT.join hX;simp only[qw,List.cons_append,List.nil_append]at hS;clear hT hX hO1 hO2 hO3;(try clear hQ);have hQ:=St.fq hS.st;(try clear hN);have hN:=St.aq hS.st)|(go_at_call 256;(try clear hQ);refine kL (fun h=>eV h) fun w1 hS hQ hN=> ?_)
  (try rw[Exit.noGoto_ret])
  go_ret
  exact⟨rfl,by rw[←Hi.out];exact hS.rd,hS.fr⟩
theorem JE {bs:List UInt8} {s:ax} (h0:s.err≠0) (hle:s.at_≤bs.length):bI bs s=([],s):=by
 have hi:=j5.stuck bs s h0
 unfold bI
 obtain⟨f,hf⟩:∃k,bs.length+1-s.at_=k+1:=⟨bs.length-s.at_,by omega⟩
 rw[hf,dE,if_pos (by rw[hi];exact h0),hi]
 rfl
theorem nL {S w rb bv bs s} (h:Rd S w rb bv bs s) (hg:cq S w) (hsm:bs.length≤274877906944):Calls Tryz.prog 211 #[.pointer (some ⟨rb,0,none⟩)] w fun e w'=>
 ∃a c,e= .returned (.slice a (bI bs s).1.length c)∧cE S w' (eo (.slice a (bI bs s).1.length c) (bI bs s).1)∧Rd S w' rb bv bs (bI bs s).2∧Fr [rb] w w':=by
 by_cases h0:s.err=0
 ·refine(Qk h hg h0 hsm).mono ?_
  rintro e w1 ⟨v,cs,rfl,h1,h2,h3,h4⟩
  obtain⟨a,c,rfl⟩:=h1.shape
  exact⟨a,c,rfl,(h1.stay.and h2.stay).imp fun w hw=>⟨cs,hw.1,hw.2.list⟩,h3,h4⟩
 ·rw[JE h0 h.le]
  refine(Pe h hg h0).mono ?_
  rintro e w1 ⟨rfl,h3,h4⟩
  exact⟨none,0,rfl,fun w' _ _ _=>eo.nil w',h3,h4⟩
theorem qL (l:List aa):jI l=true↔jZ [] l=some []:=by simp[jI]
def SX (i:aa):Bool:=decide (i.op=2∨i.op=3∨i.op=4∨i.op=31)
def Ww (i:aa):Bool:=decide (i.op=11)
def Sz (i:aa):Bool:=decide (i.op=5)
def other (i:aa):Bool:=!SX i&&!Ww i&&!Sz i
theorem Yq:dx (aa.of 2)=true:=by decide+kernel
end Go.Proofs.YtpdlmdlkecnpgaaGreatDoor
