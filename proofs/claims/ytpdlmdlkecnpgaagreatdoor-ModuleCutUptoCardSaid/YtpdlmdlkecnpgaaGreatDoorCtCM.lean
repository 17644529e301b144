/- ModuleCut: the first bytes of what a module is put into are read without an error only where a section ends; a custom section of a name laid in front of the sections, or behind them, changes nothing of what is read if the name is well formed, and is error 20 if not; for every module of bulk at most 1048576, every place and every name. The tables of heap types and of opcodes hold what the text of the program lays (the card ties it). -/
import Derived.Test.YtpdlmdlkecnpgaaGreatDoorH0
import Derived.Test.YtpdlmdlkecnpgaaGreatDoorH1
import Derived.Test.YtpdlmdlkecnpgaaGreatDoorH2
import Derived.Test.YtpdlmdlkecnpgaaGreatDoorH3
import Derived.Test.YtpdlmdlkecnpgaaGreatDoorH4
import Derived.Test.YtpdlmdlkecnpgaaGreatDoorH5
import Derived.Test.YtpdlmdlkecnpgaaGreatDoorH6
import Derived.Test.YtpdlmdlkecnpgaaGreatDoorH7
import Derived.Test.YtpdlmdlkecnpgaaGreatDoorH8
import Derived.Test.YtpdlmdlkecnpgaaGreatDoorH9
import Derived.Test.YtpdlmdlkecnpgaaGreatDoorH10
import Derived.Test.YtpdlmdlkecnpgaaGreatDoorH11
import Derived.Test.YtpdlmdlkecnpgaaGreatDoorH12
import Derived.Test.YtpdlmdlkecnpgaaGreatDoorH13
import Derived.Test.YtpdlmdlkecnpgaaGreatDoorH14
import Derived.Test.YtpdlmdlkecnpgaaGreatDoorH15
import Derived.Test.YtpdlmdlkecnpgaaGreatDoorH16
import Derived.Test.YtpdlmdlkecnpgaaGreatDoorH17
import Derived.Test.YtpdlmdlkecnpgaaGreatDoorH18
import Derived.Test.YtpdlmdlkecnpgaaGreatDoorH19
import Derived.Test.YtpdlmdlkecnpgaaGreatDoorH20
import Derived.Test.YtpdlmdlkecnpgaaGreatDoorH21
import Derived.Test.YtpdlmdlkecnpgaaGreatDoorH22
import Derived.Test.YtpdlmdlkecnpgaaGreatDoorH23
import Derived.Test.YtpdlmdlkecnpgaaGreatDoorH24
import Derived.Test.YtpdlmdlkecnpgaaGreatDoorH25
import Derived.Test.YtpdlmdlkecnpgaaGreatDoorH26
import Derived.Test.YtpdlmdlkecnpgaaGreatDoorH27
import Derived.Test.YtpdlmdlkecnpgaaGreatDoorH28
import Derived.Test.YtpdlmdlkecnpgaaGreatDoorH29
import Derived.Test.YtpdlmdlkecnpgaaGreatDoorH30
import Derived.Test.YtpdlmdlkecnpgaaGreatDoorH31
import Derived.Test.YtpdlmdlkecnpgaaGreatDoorH32
import Derived.Test.YtpdlmdlkecnpgaaGreatDoorH33
import Derived.Test.YtpdlmdlkecnpgaaGreatDoorH34
import Derived.Test.YtpdlmdlkecnpgaaGreatDoorH35
import Derived.Test.YtpdlmdlkecnpgaaGreatDoorH36
import Derived.Test.YtpdlmdlkecnpgaaGreatDoorH37
import Derived.Test.YtpdlmdlkecnpgaaGreatDoorH38
import Derived.Test.YtpdlmdlkecnpgaaGreatDoorH39
import Derived.Test.YtpdlmdlkecnpgaaGreatDoorH40
import Derived.Test.YtpdlmdlkecnpgaaGreatDoorH41
import Derived.Test.YtpdlmdlkecnpgaaGreatDoorH42
import Derived.Test.YtpdlmdlkecnpgaaGreatDoorH43
import Derived.Test.YtpdlmdlkecnpgaaGreatDoorCards
import Derived.Test.YtpdlmdlkecnpgaaGreatDoorTie
set_option linter.unusedSimpArgs false
set_option linter.unusedVariables false
namespace Go.Proofs.YtpdlmdlkecnpgaaGreatDoor
theorem rMod_end {m:aV} (h:cy m=true) (hs:ii m) {S T:List xJ} (he:secs m=S++T):(dw (aP++bK S)).2.1=0∨(dw (aP++bK S)).2.1=83:=by
 obtain⟨a,hc⟩:=DZ m
 have hr:=Oe h hs
 rw[he]at hr hc
 obtain⟨L1,r1,_⟩:=hr.split
 obtain⟨c,c1,_⟩:=hc.split
 have:=K4 r1 c1 (fun p hp=>hs.secs p (by rw[he];exact List.mem_append_left _ hp))
 unfold dw
 rw[this]
 cases eP L1<;>simp
theorem cut_magic {b:List UInt8} (h:b.length<8):(dw b).2.1=80:=by
 have hn:b.take 8≠aP:=fun e=>by
  have:=congrArg List.length e
  rw[List.length_take]at this
  have e2:aP.length=8:=rfl
  omega
 unfold dw eE
 rw[if_neg hn]
 rfl
theorem rMod_mid {m:aV} (h:cy m=true) (hs:ii m) {S T:List xJ} {p:xJ} (he:secs m=S++p::T) {j:Nat} (h0:0<j) (hj:j< (oq p).length):
 (dw (aP++(bK S++(oq p).take j))).2.1=10:=by
 obtain⟨a,hc⟩:=DZ m
 have hr:=Oe h hs
 have hpm:p∈secs m:=by rw[he];simp
 have hpl:=hs.secs p hpm
 rw[he]at hr hc
 obtain⟨L1,r1,r2⟩:=hr.split
 obtain⟨c,c1,c2⟩:=hc.split
 obtain⟨id,x⟩:=p
 obtain⟨hid,c2⟩:=c2
 simp only at hpl hid c2
 generalize hb:aP++(bK S++(oq (id,x)).take j)=b
 have hlen:b.length=(aP++bK S).length+j:=by
  rw[←hb]
  simp only[List.length_append,List.length_take]
  omega
 obtain⟨g,g1,g2⟩:=Jt r1 (pre:=aP) (post:=(oq (id,x)).take j) (b:=b) (f:=b.length+1) c1 (fun p hp=>hs.secs p (by rw[he];exact List.mem_append_left _ hp)) hb.symm (by omega)
 have hm:eE b=fM b (b.length+1) (-1) 8 cg:=by
  unfold eE
  rw[if_pos (by rw[←hb,List.take_append_of_le_length (by decide)];decide)]
 have g2:fM b (b.length+1) (-1) 8 cg=fM b g c (aP++bK S).length L1:=g2
 obtain⟨g',rfl⟩:∃g',g=g'+1:=⟨g-1,by omega⟩
 generalize hB:(aP++bK S)++(oq (id,x)++ [])=B
 obtain⟨q1,q2,q3,q4,q5,q6⟩:=LK (p:=(id,x)) hid hpl hB.symm
 simp only at q2 q3 q4 q5 q6
 generalize hn:(aP++bK S).length=n at*
 have hBlen:B.length=n+(oq (id,x)).length:=by rw[←hB,←hn];simp[Nat.add_assoc]
 have hbB:b=B.take (n+j):=by
  rw[←hb,←hB,←hn,List.append_nil,List.take_length_add_append,List.append_assoc]
 have hg:b.getD n 0=B.getD n 0:=by rw[hbB];exact yB B n (n+j) (by omega)
 have hx:b.getD n 0=0↔id=0:=by
  rw[hg]
  constructor
  ·intro h;rw[h]at q2;exact q2.symm
  ·intro h
   rw[h]at q2
   exact UInt8.toNat_inj.1 q2
 have e1:¬(b.getD n 0≠0∧cr (b.getD n 0).toNat=none):=by
  rintro⟨n1,n2⟩
  rw[hg,q2]at n2
  have h0:id≠0:=fun h=>n1 (hx.2 h)
  rw[if_neg h0]at c2
  obtain⟨p,a1,_⟩:=c2
  rw[a1]at n2
  cases n2
 have e2:¬(b.getD n 0≠0∧(((cr (b.getD n 0).toNat).getD 0:Nat):Int)≤c):=by
  rintro⟨n1,n2⟩
  rw[hg,q2]at n2
  have h0:id≠0:=fun h=>n1 (hx.2 h)
  rw[if_neg h0]at c2
  obtain⟨p,a1,a2,_⟩:=c2
  rw[a1]at n2
  simp only[Option.getD_some]at n2
  omega
 have q7:(aP++bK S++oq (id,x)).length=n+(oq (id,x)).length:=by rw[List.length_append,hn]
 have hleb:=uw (c:=n+j) q3 (by omega) (by omega) (by omega)
 rw[←hbB]at hleb
 have key:(fM b (g'+1) c n L1).2.1=10:=by
  rw[fM,if_neg (by omega),if_neg e1,if_neg e2,hleb]
  by_cases hc:n+j<n+1+(aI x.length).length
  ·rw[if_pos hc]
   simp only
   rw[if_pos (by decide)]
   rfl
  ·rw[if_neg hc]
   simp only
   rw[if_neg (by decide),if_pos (by omega)]
 unfold dw
 rw[hm,g2,key,if_neg (by decide)]
def skipC (name:List UInt8):List UInt8:=UInt8.ofNat name.length::(name++ [255])
def skipS (name:List UInt8):xJ:=(0,skipC name)
theorem skipB {name:List UInt8} (h:name.length≤50):oq (skipS name)=0::UInt8.ofNat (name.length+2)::skipC name:=by
 unfold oq skipS aX
 have:(skipC name).length=name.length+2:=by simp[skipC]
 rw[this,dH _ (by omega)]
 rfl
theorem skip_read {name:List UInt8} (h:name.length≤50) (L:bT):(iY name=true→eC 0 (skipC name) L=(L,⟨(skipC name).length,0,0⟩))∧(iY name=false→eC 0 (skipC name) L=(L,⟨0,20,0⟩)):=by
 have hp:aI name.length= [UInt8.ofNat name.length]:=dH _ (by omega)
 have hA:At (skipC name) ah (dX name++ [255]):=⟨rfl,by simp[ah],by simp[ah,skipC,dX,hp]⟩
 have hsec:eC 0 (skipC name) L=(L,(RQ (skipC name) ah).2):=by simp[eC]
 rw[hsec]
 refine⟨fun hw=> ?_,fun hw=> ?_⟩
 ·have h1:=xF hw (by omega) _ _ _ hA
  have h2:=Cf [255] (skipC name) _ [] hA.adv
  have hl:(dX name).length=name.length+1:=by simp[dX,hp]
  have hc:(skipC name).length=name.length+2:=by simp[skipC]
  unfold RQ
  rw[h1]
  simp only
  have e:(skipC name).length-(ah.adv (dX name).length).at_=([255]:List UInt8).length:=by
   rw[adv_at,hl,hc]
   show name.length+2-(0+(name.length+1))=1
   omega
  rw[e,h2]
  simp[ax.adv,ah,hl,hc]
 ·have hr:cC (skipC name) ah=([],⟨0,20,0⟩):=by
   have hleb:=yx (s:=ah) rfl (zC (n:=name.length) (by omega) (skipC name) ah (name++ [255]) ⟨rfl,by simp[ah],by simp[ah,skipC,hp]⟩)
   have e0:ah.at_=0:=rfl
   rw[e0,hp]at hleb
   have hleb:ak (skipC name) 0 32 false=(name.length,1,0):=hleb
   have hd:(skipC name).drop 1=name++ [255]:=rfl
   have hc:(skipC name).length=name.length+2:=by simp[skipC]
   have hN:dS (skipC name) 0=([],0,20):=by
    unfold dS
    rw[hleb]
    simp only
    rw[if_neg (by decide),if_neg (by omega),hd]
    simp[hw]
   unfold cC
   rw[if_pos (show ah.err=0 from rfl),e0,hN]
   simp[ax.fail,ah]
  unfold RQ
  rw[hr]
  simp[dD]
theorem rMod_skip {m:aV} (h:cy m=true) (hs:ii m) {name:List UInt8} (hn:name.length≤50):
 (iY name=true→dw (aP++(oq (skipS name)++bK (secs m)))=(m,0,0)∧dw (aP++(bK (secs m)++oq (skipS name)))=(m,0,0))∧
 (iY name=false→(dw (aP++(oq (skipS name)++bK (secs m)))).2.1=20∧(dw (aP++(bK (secs m)++oq (skipS name)))).2.1=20):=by
 obtain⟨a,hc⟩:=DZ m
 have hr:=Oe h hs
 have hcl:(skipC name).length<4294967296:=by simp[skipC];omega
 refine⟨fun hw=> ?_,fun hw=> ?_⟩
 ·have s1:sx cg (skipS name::secs m) (upto m 13):= .cons ((skip_read hn _).1 hw) hr
  have s2:sx cg (secs m++ [skipS name]) (upto m 13):=hr.app (.cons ((skip_read hn _).1 hw) (.nil _))
  have k1:mb (-1) (skipS name::secs m) a:=⟨by decide,by rw[if_pos rfl];exact hc⟩
  have k2:mb (-1) (secs m++ [skipS name]) a:=hc.app ⟨by decide,by rw[if_pos rfl];rfl⟩
  have t1:=K4 s1 k1 (fun p hp=>by rcases List.mem_cons.1 hp with rfl|hp;exact hcl;exact hs.secs p hp)
  have t2:=K4 s2 k2 (fun p hp=>by rcases List.mem_append.1 hp with hp|hp;exact hs.secs p hp;(obtain rfl:=List.mem_singleton.1 hp;exact hcl))
  rw[B6]at t1 t2
  have e1:bK (skipS name::secs m)=oq (skipS name)++bK (secs m):=rfl
  have e2:bK (secs m++ [skipS name])=bK (secs m)++oq (skipS name):=by rw[tT];simp[bK]
  rw[e1]at t1
  rw[e2]at t2
  unfold dw
  rw[t1,t2]
  exact⟨rfl,rfl⟩
 ·have bad:∀(pre post:List UInt8) (b:List UInt8) (g:Nat) (c:Int) (L:bT),b=pre++(oq (skipS name)++post)→(fM b (g+1) c pre.length L).2.1=20:=by
   intro pre post b g c L hb
   obtain⟨q1,q2,q3,q4,q5,q6⟩:=LK (p:=skipS name) (show 0<256 by decide) hcl hb
   have q2:(b.getD pre.length 0).toNat=0:=q2
   have hz:b.getD pre.length 0=0:=UInt8.toNat_inj.1 q2
   have hsk:skipS name=(0,skipC name):=rfl
   rw[hsk]at q3 q4 q5
   simp only at q3 q4 q5
   rw[fM,if_neg (by omega),if_neg (by rw[hz];simp),if_neg (by rw[hz];simp),q3]
   simp only
   rw[if_neg (by decide),if_neg (by omega),q5,q2,(skip_read hn L).2 hw]
   have hf:(jF (skipC name) ⟨0,20,0⟩).err=20:=by
    unfold jF
    split
    ·rw[fU (by decide)]
    ·rfl
   simp only[hf]
   rw[if_pos (by decide)]
  refine⟨?_,?_⟩
  ·generalize hb:aP++(oq (skipS name)++bK (secs m))=b
   have hm:eE b=fM b (b.length+1) (-1) 8 cg:=by
    unfold eE
    rw[if_pos (by rw[←hb,List.take_append_of_le_length (by decide)];decide)]
   have:=bad aP (bK (secs m)) b b.length (-1) cg hb.symm
   have this:(fM b (b.length+1) (-1) 8 cg).2.1=20:=this
   unfold dw
   rw[hm,this,if_neg (by decide)]
  ·generalize hb:aP++(bK (secs m)++oq (skipS name))=b
   have hm:eE b=fM b (b.length+1) (-1) 8 cg:=by
    unfold eE
    rw[if_pos (by rw[←hb,List.take_append_of_le_length (by decide)];decide)]
   obtain⟨g,g1,g2⟩:=Jt hr (pre:=aP) (post:=oq (skipS name)) (b:=b) (f:=b.length+1) hc hs.secs hb.symm (by omega)
   have g2:fM b (b.length+1) (-1) 8 cg=fM b g a (aP++bK (secs m)).length (upto m 13):=g2
   have hbl:b.length=(aP++bK (secs m)).length+(oq (skipS name)).length:=by rw[←hb];simp;omega
   have hs2:=BQ (skipS name)
   obtain⟨g',rfl⟩:∃g',g=g'+1:=⟨g-1,by omega⟩
   have:=bad (aP++bK (secs m)) [] b g' a (upto m 13) (by rw[←hb];simp)
   unfold dw
   rw[hm,g2,this,if_neg (by decide)]
open Go.RowKit
theorem gx {P:Program} {w:World} {ops:Array Oper} {rest:List Oper} {o:Oper} {a:Act} {Q:Exit→Act→World→Prop} {ty:TypeId} {x:Operand} {b n j:Nat} {d:TypeDesc} {g:Bool} (hgd:o.guard=some (j,g)) (hj:yielded ops a.tmps j=some g) (ho:o.op= .load ty x) (hx:a.eval x= .pointer (some ⟨b,n,none⟩)) (hu:P.underlying ty=some d) (hd:d.isRow=true)
 (h:∃S w0 G cs,St S w0 w G∧eD G w b n cs∧(P.info? ty).map (·.size)=some cs.length∧wpList P ops Q rest (a.put o.dst (.agg cs.toArray)) w):wpList P ops Q (o::rest) a w:=by
 have hw:Region.wanted o (yielded ops a.tmps)=true:=by simp[Region.wanted,hgd,hj]
 obtain⟨S,w0,G,cs,hst,hr,hi,h⟩:=h
 exact wpList_step fun K hK=>by
  rw[if_pos hw]
  exact wp_load_mid ty x ho b n hx cs d (hr.range hst) hu hd hi (hK _ _ h)
theorem kP {m:aV} (hm:cy m=true) (hu:xN m) (hw:ip m≤1048576):(dy m).length≤2147483656:=by
 have:=Fy hm hu hw
 have h8:aP.length=8:=rfl
 unfold dy
 rw[if_pos hm,List.length_append]
 omega
open Go.RowKit
def tailEnd (at_:Int):Nat→List xJ→Bool
 | _,[]=>false
 |p,s::T=>(((p+(oq s).length:Nat):Int)==at_)||tailEnd at_ (p+(oq s).length) T
theorem tailEnd_low (at_:Int):∀(T:List xJ) (p:Nat),at_≤p→tailEnd at_ p T=false
 | [],_,_=>rfl
 |s::T,p,h=>by
  have:=BQ s
  unfold tailEnd
  rw[tailEnd_low at_ T _ (by omega)]
  simp
  omega
theorem cut_from {m:aV} (h:cy m=true) (hs:ii m) (n:Nat):∀(T S:List xJ),secs m=S++T→8+bl S≤n→n≤(dy m).length→
 ((n=8+bl S∨tailEnd n (8+bl S) T=true)→(dw ((dy m).take n)).2.1=0∨(dw ((dy m).take n)).2.1=83)∧
 (¬n=8+bl S→tailEnd n (8+bl S) T=false→(dw ((dy m).take n)).2.1≠0)
 |T,S,he,h1,h2=>by
  have hm8:aP.length=8:=rfl
  have ht:(dy m).take n=aP++(bK S++(bK T).take (n-(8+bl S))):=by
   rw[AD h,he,tT,List.take_append,List.take_append,List.take_of_length_le (by omega:aP.length≤n),List.take_of_length_le (by unfold bl at h1;omega:(bK S).length≤n-aP.length)]
   congr 3
   unfold bl
   omega
  have hl:(dy m).length=8+(bl S+(bK T).length):=by
   rw[AD h,he,tT,List.length_append,List.length_append]
   rfl
  by_cases hn:n=8+bl S
  ·have e:(dy m).take n=aP++bK S:=by rw[ht,hn];simp
   refine⟨fun _=> ?_,fun q=>absurd hn q⟩
   rw[e]
   exact rMod_end h hs he
  ·cases T with
   |nil=>
    have:(bK ([]:List xJ)).length=0:=rfl
    exact absurd (show n=8+bl S by omega) hn
   |cons s T=>
    have hb:bK (s::T)=oq s++bK T:=rfl
    by_cases hlt:n<8+bl S+(oq s).length
    ·have hz:=tailEnd_low n T (8+bl S+(oq s).length) (by omega)
     have e0:tailEnd n (8+bl S) (s::T)=false:=by
      unfold tailEnd
      rw[hz]
      simp
      omega
     have e:(dy m).take n=aP++(bK S++(oq s).take (n-(8+bl S))):=by
      rw[ht,hb,List.take_append,(by omega:n-(8+bl S)-(oq s).length=0)]
      simp
     refine⟨fun q=> ?_,fun _ _=> ?_⟩
     ·rcases q with q|q
      ·exact absurd q hn
      ·rw[e0]at q
       cases q
     ·rw[e,rMod_mid h hs he (by omega) (by omega)]
      decide
    ·have hbl:bl (S++ [s])=bl S+(oq s).length:=by
      rw[Lm]
      unfold bl bK
      simp
     have ih:=cut_from h hs n T (S++ [s]) (by rw[he];simp) (by omega) h2
     rw[hbl,←Nat.add_assoc]at ih
     refine⟨fun q=>ih.1 ?_,fun _ q=> ?_⟩
     ·rcases q with q|q
      ·exact absurd q hn
      ·unfold tailEnd at q
       rw[Bool.or_eq_true,beq_iff_eq]at q
       rcases q with q|q
       ·exact .inl (by omega)
       ·exact .inr q
     ·unfold tailEnd at q
      rw[Bool.or_eq_false_iff,beq_eq_false_iff_ne]at q
      exact ih.2 (by omega) q.2
theorem cut_ends {m:aV} (h:cy m=true) (hs:ii m) (n:Nat) (hn:n≤(dy m).length):
 ((((n:Nat):Int)==8)||tailEnd n 8 (secs m))=true∧((dw ((dy m).take n)).2.1=0∨(dw ((dy m).take n)).2.1=83)∨
 ((((n:Nat):Int)==8)||tailEnd n 8 (secs m))=false∧(dw ((dy m).take n)).2.1≠0:=by
 have hl:8≤(dy m).length:=by
  rw[AD h,List.length_append]
  have:aP.length=8:=rfl
  omega
 by_cases h8:n<8
 ·refine .inr ⟨?_,?_⟩
  ·rw[tailEnd_low n (secs m) 8 (by omega)]
   simp
   omega
  ·rw[cut_magic (by rw[List.length_take];omega)]
   decide
 ·have:=cut_from h hs n (secs m) [] rfl (show 8+0≤n by omega) hn
  have e:(8:Nat)+bl []=8:=rfl
  rw[e]at this
  cases hq:((((n:Nat):Int)==8)||tailEnd n 8 (secs m))
  ·rw[Bool.or_eq_false_iff,beq_eq_false_iff_ne]at hq
   exact .inr ⟨rfl,this.2 (by omega) hq.2⟩
  ·rw[Bool.or_eq_true,beq_iff_eq]at hq
   refine .inl ⟨rfl,this.1 ?_⟩
   rcases hq with q|q
   ·exact .inl (by omega)
   ·exact .inr q
theorem putU_step (L j:Nat):∃c:UInt8,(aI (L/128^j))=c::(if L/128^j<128 then []else aI (L/128^(j+1)))∧c.toNat% 128=L/128^j% 128∧(c.toNat<128↔L/128^j<128)∧L% 128^(j+1)=L% 128^j+L/128^j% 128*128^j:=by
 have e3:L% 128^(j+1)=L% 128^j+L/128^j% 128*128^j:=by
  rw[Nat.pow_succ,Nat.mod_mul,Nat.mul_comm (L/128^j% 128)]
 have e4:L/128^j/128=L/128^(j+1):=by rw[Nat.pow_succ,Nat.div_div_eq_div_mul]
 generalize hq:L/128^j=q at*
 rw[aI]
 by_cases h:q<128
 ·rw[if_pos h,if_pos h]
  refine⟨UInt8.ofNat q,rfl,?_,?_,e3⟩
  ·rw[UInt8.toNat_ofNat_of_lt' (by show q<256;omega)]
  ·rw[UInt8.toNat_ofNat_of_lt' (by show q<256;omega)]
 ·rw[if_neg h,if_neg h,e4]
  refine⟨UInt8.ofNat (q% 128+128),rfl,?_,?_,e3⟩
  ·rw[UInt8.toNat_ofNat_of_lt' (by show q% 128+128<256;omega)]
   omega
  ·rw[UInt8.toNat_ofNat_of_lt' (by show q% 128+128<256;omega)]
   omega
theorem putU_last (L j:Nat) (h:L/128^j<128):L% 128^(j+1)=L:=by
 apply Nat.mod_eq_of_lt
 rw[Nat.pow_succ]
 have:=Nat.div_lt_iff_lt_mul (x:=L) (y:=128) (Nat.pow_pos (n:=j) (by decide:0<128))
 rw[this]at h
 rw[Nat.mul_comm]
 exact h
theorem cut_count (L j p kk0:Nat) (hk:kk0=p+1+j) (hq:L/128^j<128) {b r:List UInt8} (hlt:kk0<b.length) (h0:b.drop (p+1)=aI L++r) (h1:b.drop (kk0+1)=(if L/128^j<128 then []else aI (L/128^(j+1)))++r):(aI L).length=j+1:=by
 rw[if_pos hq,List.nil_append]at h1
 have e0:=congrArg List.length h0
 have e1:=congrArg List.length h1
 rw[List.length_drop,List.length_append]at e0
 rw[List.length_drop]at e1
 omega
theorem cut_four (L j:Nat) (hj:j≤4) (hL:L<4294967296) (hq:¬L/128^j<128):j+1≤4:=by
 rcases Nat.lt_or_ge j 4 with h|h
 ·exact h
 ·have e:j=4:=by omega
  rw[e]at hq
  have:(128:Nat)^4=268435456:=by decide
  rw[this]at hq
  omega
theorem cut_num (L j:Nat) (hL:L<4294967296):wrap64 ((L:Int)% 128^j+wrap64 ((L:Int)/128^j% 128*2^(7*j)))=((L% 128^(j+1):Nat):Int):=by
 have p:(2:Nat)^(7*j)=128^j:=by rw[Nat.pow_mul]
 have e3:L% 128^(j+1)=L% 128^j+L/128^j% 128*128^j:=by
  rw[Nat.pow_succ,Nat.mod_mul,Nat.mul_comm (L/128^j% 128)]
 have hle:L% 128^(j+1)≤L:=Nat.mod_le _ _
 have a:(L:Int)/128^j% 128*2^(7*j)=((L/128^j% 128*128^j:Nat):Int):=by
  have pI0:(2:Int)^(7*j)=128^j:=by
   have:=congrArg (fun n:Nat=>(n:Int)) p
   push_cast at this
   exact this
  rw[pI0]
  push_cast
  rfl
 have b:(L:Int)% 128^j=((L% 128^j:Nat):Int):=by
  push_cast
  rfl
 rw[a,b]
 rw[e3]at hle⊢
 clear a b e3 p
 generalize L% 128^j=A at hle⊢
 generalize L/128^j% 128*128^j=C at hle⊢
 rw[IntWalk.wrap64_in (C:Int) (by omega),IntWalk.wrap64_in _ (by omega)]
 push_cast
 rfl
def CutRel (m:aV) (z:Nat) (E:Bool) (e i:Value):Prop:=∃(S T:List xJ) (b:Bool),e= .bool b∧i= .int .i64 ((8+bl S:Nat):Int)∧Hid (secs m=S++T)∧Hid ((b||tailEnd z (8+bl S) T)=E)
def CutIn (bytes rest:List UInt8) (p L:Nat) (n k sh0:Value):Prop:=∃(j kk0:Nat),n= .int .i64 ((L% 128^j:Nat):Int)∧k= .int .i64 ((kk0:Nat):Int)∧sh0= .int .i64 ((7*j:Nat):Int)∧j≤4∧Hid (kk0=p+1+j)∧Hid (bytes.drop kk0=aI (L/128^j)++rest)
open Go.RowKit
def skB (nm:List UInt8):List UInt8:= [0,UInt8.ofNat (nm.length+2),UInt8.ofNat nm.length]++nm++ [UInt8.ofNat (255:Int).toNat]
set_option maxRecDepth 100000 in set_option maxHeartbeats 6400000 in
theorem modCut_b {w:World} (hg:cq [] w) {m:aV} {c:List Value} (h:cI c m w) (hn:xk m) (hw:ip m≤1048576) (z:Int) (nm:List UInt8) (hm:cy m=false):
 Calls Tryz.prog 4 #[.agg c.toArray,.int .i64 z,.string ⟨nm.toArray⟩] w fun e w'=>e= .returned (.bool true)∧Fr [] w w':=by
 have WF:=sZ hn hw
 obtain⟨ty,im,fu,ta,me,tg,gl,ex,el,da,rfl,h0,h1,h2,h3,h4,h5,h6,h7,h9,h10⟩:=h
 have hold:∀w',Fr [] w w'→cI [ty,im,fu,ta,me,tg,gl,ex,.int .i64 m.start,el,da] m w'∧True:=fun w' hf=>
  ⟨cI.fr ⟨ty,im,fu,ta,me,tg,gl,ex,el,da,rfl,h0,h1,h2,h3,h4,h5,h6,h7,h9,h10⟩ hf,trivial⟩
 have o0:=an.one h0
 have o1:=an.one h1
 have o2:=an.one h2
 have o3:=an.one h3
 have o4:=an.one h4
 have o5:=an.one h5
 have o6:=an.one h6
 have o7:=an.one h7
 have o9:=an.one h9
 have o10:=an.one h10
 clear h0 h1 h2 h3 h4 h5 h6 h7 h9 h10
 have hS:=St.start [] w
 have fW:=Fr.refl [] w
 go_enter Tryz.func4,Tryz.ntmps4
 go_wp2_with first|(go_at_call 6;refine(qt (hg.fr (fW.trans (by exact aM)) (by simp))).mono ?_;rintro e w4 ⟨rfl,hF4⟩;(try clear hQ);refine cB hF4 fun hS hQ=> ?_)|(refine bC (ty:=33) rfl rfl rfl ce rfl ?_;(repeat(apply Exists.intro));refine⟨?_,?_,?_,?_⟩;(·exact aA);(·exact TC);(·first|exact br|(rw[hl5];exact br)|(rw[hl6];exact br)))|(go_at_call 7;refine(jN (hold _ (by exact aM)).1).mono ?_;rintro e w4 ⟨⟨n,rfl⟩,hF4⟩;(try clear hQ);refine cB hF4 fun hS hQ=> ?_)|(go_at_call 8;refine(sQ (hg.fr (fW.trans (by exact aM)) (by simp)) (hold _ (by exact aM)).1 WF hm).mono ?_;rintro e w6 ⟨rfl,hF6⟩;(try clear hQ);refine cB hF6 fun hS hQ=> ?_)|fail
 all_goals
  go_ret
  exact⟨rfl,fW.trans (by exact aM)⟩
set_option maxRecDepth 100000 in set_option maxHeartbeats 6400000 in
theorem modCut_o {w:World} (hg:cq [] w) {m:aV} {c:List Value} (h:cI c m w) (hn:xk m) (hw:ip m≤1048576) (z:Int) (nm:List UInt8) (hm:cy m=true) (hz:z<0∨((dy m).length:Int)<z∨(50:Int)<nm.length):
 Calls Tryz.prog 4 #[.agg c.toArray,.int .i64 z,.string ⟨nm.toArray⟩] w fun e w'=>e= .returned (.bool true)∧Fr [] w w':=by
 have WF:=sZ hn hw
 have hu:=nC hn
 have PMm:=wX hm hu hw
 have sm:=oB hm hu hw
 have hps:=kP hm hu hw
 obtain⟨ty,im,fu,ta,me,tg,gl,ex,el,da,rfl,h0,h1,h2,h3,h4,h5,h6,h7,h9,h10⟩:=h
 have hold:∀w',Fr [] w w'→cI [ty,im,fu,ta,me,tg,gl,ex,.int .i64 m.start,el,da] m w'∧True:=fun w' hf=>
  ⟨cI.fr ⟨ty,im,fu,ta,me,tg,gl,ex,el,da,rfl,h0,h1,h2,h3,h4,h5,h6,h7,h9,h10⟩ hf,trivial⟩
 have o0:=an.one h0
 have o1:=an.one h1
 have o2:=an.one h2
 have o3:=an.one h3
 have o4:=an.one h4
 have o5:=an.one h5
 have o6:=an.one h6
 have o7:=an.one h7
 have o9:=an.one h9
 have o10:=an.one h10
 clear h0 h1 h2 h3 h4 h5 h6 h7 h9 h10
 have hS:=St.start [] w
 have fW:=Fr.refl [] w
 go_enter Tryz.func4,Tryz.ntmps4
 go_upto_region 4 with first|(go_at_call 6;refine(qt (hg.fr (fW.trans (by exact aM)) (by simp))).mono ?_;rintro e w4 ⟨rfl,hF4⟩;(try clear hQ);refine cB hF4 fun hS hQ=> ?_)|(refine bC (ty:=33) rfl rfl rfl ce rfl ?_;(repeat(apply Exists.intro));refine⟨?_,?_,?_,?_⟩;(·exact aA);(·exact TC);(·first|exact br|(rw[hl5];exact br)|(rw[hl6];exact br)))|(go_at_call 8;refine(po (hg.fr (fW.trans (by exact aM)) (by simp)) (hold _ (by exact aM)).1 WF PMm hm).mono ?_;rintro e w6 ⟨v6,rfl,s6⟩;(try clear hQ);refine qa s6 fun hS hQ=> ?_)|fail
 have hS0:=hS
 obtain⟨vb,vc,rfl,_⟩:=bf.shape (St.own hS (.here))
 have hS:=hS0.sel (G':= [.loc w.heap.size [ty,im,fu,ta,me,tg,gl,ex,.int .i64 m.start,el,da] 33]) (by exact ic)
 clear hS0
 rcases hz with hz|hz|hz
 all_goals
  go_upto_region 6 with first|(refine bC (ty:=33) rfl rfl rfl ce rfl ?_;(repeat(apply Exists.intro));refine⟨?_,?_,?_,?_⟩;(·exact aA);(·exact TC);(·first|exact br|(rw[hl5];exact br)|(rw[hl6];exact br)))|(go_at_call 7;refine(jN (hold _ (by exact aM)).1).mono ?_;rintro e w4 ⟨⟨n,rfl⟩,hF4⟩;(try clear hQ);refine cB hF4 fun hS hQ=> ?_)|fail
  all_goals
   go_ret
   exact⟨rfl,fW.trans (by exact aM)⟩
theorem Sl.dropM {S:List Nat} {w:World} {k n c cap:Nat} {a:Option Addr} {cs:List Value} (h:Sl S w k (.slice a n cap) n cs) (hc:c≤n):Sl S w k (.slice (if cap=c then a else a.map (·.add (c*k))) (n-c) (cap-c)) (n-c) (cs.drop (c*k)):=by
 obtain⟨h1,h2,a',cap',e,h4,h5,hN,h6⟩:=h
 injection e with e1 e2 e3
 subst e1 e3
 have hs:(n-c)*k=n*k-c*k:=Nat.sub_mul n c k
 have hle:c*k≤n*k:=Nat.mul_le_mul_right k hc
 refine⟨by rw[List.length_drop];omega,fun u hu=>h2 u (List.mem_of_mem_drop hu),_,_,rfl,by omega,by omega,fun hno=> ?_,?_⟩
 ·by_cases hcc:cap=c
  ·omega
  ·rw[if_neg hcc]at hno
   have:=hN (Option.map_eq_none_iff.1 hno)
   omega
 ·rcases h6 with h6|⟨b,off,e,hn,hb,hcell⟩
  ·exact .inl (by omega)
  ·by_cases hcc:cap=c
   ·exact .inl (by omega)
   ·subst e
    have hadd:(⟨b,off,none⟩:Addr).add (c*k)=⟨b,off+c*k,none⟩:=by unfold Addr.add;split<;>simp_all
    refine .inr ⟨b,off+c*k,by rw[if_neg hcc];simp[hadd],hn,hb,fun j hj=> ?_⟩
    rw[List.getElem?_drop,←hcell (c*k+j) (by omega),Nat.add_assoc]
theorem St.litN {S:List Nat} {w0 w:World} {G:List bt} {g:Nat} {cs:List Value} (h:St S w0 w (.loc g cs 5::G)) {Y:List UInt8} (e:cs=Y.map B) (hl:Y.length≤maxLen):
 St S w0 w (.own 5 1 (.slice (some ⟨g,0,none⟩) Y.length Y.length) Y.length (Y.map B)::G):=by
 subst e
 have hl1:=h.head
 have ha:=List.pairwise_cons.1 h.apart
 refine h.tail.put ?_ (fun b hb=>h.new (.loc g (Y.map B) 5) List.mem_cons_self b (by simpa [bt.blk,Value.blk]using hb)) (fun b hb s hs=>ha.1 s hs b (by simpa [bt.blk,Value.blk]using hb))
 show bf [] w 5 1 (.slice (some ⟨g,0,none⟩) Y.length Y.length) Y.length (Y.map B)
 refine⟨by simp,?_,.inr ⟨g,Y.length,(Y.map B).toArray,rfl,by simp,nX.of hl1,Nat.le_refl _,hl,by simp,?_⟩⟩
 ·intro u hu
  obtain⟨b,_,rfl⟩:=List.mem_map.1 hu
  rfl
 ·have e:((Y.map B).toArray.toList).length=Y.length*1:=by simp
  rw[←e,List.take_length]
theorem lit3 {n:Nat} (h:n≤50): [Value.int .u8 0,.int .u8 ((n:Int)+2),.int .u8 (n:Int)]=([0,UInt8.ofNat (n+2),UInt8.ofNat n]:List UInt8).map B:=by
 have e1:(UInt8.ofNat (n+2)).toNat=n+2:=UInt8.toNat_ofNat_of_lt' (by show n+2<256;omega)
 have e2:(UInt8.ofNat n).toNat=n:=UInt8.toNat_ofNat_of_lt' (by show n<256;omega)
 simp only[List.map_cons,List.map_nil,B,e1,e2]
 rfl
theorem St.slX {w0 w:World} {G G' G'':List bt} {e:TypeId} {k n b:Nat} {v:Value} {xs cs:List Value} {T:TypeId} (h:St [] w0 w G) (p:bg G (.own e k v n xs) G') (p2:bg G' (.loc b cs T) G''):Sl [b] w k v n xs:=by
 have h1:=h.pick p
 have ha:=List.pairwise_cons.1 h1.apart
 refine bf.sl (h.own p) (S':= [b]) (fun c hc hm=> ?_)
 obtain rfl:=List.mem_singleton.1 hm
 exact ha.1 _ ((p2.mem _).2 (.inl rfl)) c (by simpa [bt.blk]using hc) (by simp[bt.blk])
theorem st_storeX {P:Program} {w:World} {o:Oper} {a:Act} {Q:Exit→Act→World→Prop} {K:Act→World→Prop} {ty:TypeId} {x y:Operand} {b:Nat} {vs:List Value} (ho:o.op= .store ty x y) (hx:a.eval x= .pointer (some ⟨b,0,none⟩)) (hy:a.eval y= .agg vs.toArray)
 (h:∃S w0 G G' cs T,St S w0 w G∧bg G (.loc b cs T) G'∧vs.length=cs.length∧(P.info? ty).map (·.size)=some vs.length∧(∀v∈vs,v.oneCell'=true)∧∀w',St S w0 w' (.loc b vs T::G')→Fr [b] w w'→K (a.put o.dst undef) w'):o.wp P a w K Q:=by
 obtain⟨S,w0,G,G',cs,T,hst,hp,hl,hi,h1,h⟩:=h
 refine wp_store_mid ty x y ho b 0 vs.toArray hx hy ?_ (by simpa using hi) (all_oneCell_toArray h1) ?_
 ·have:=(hst.loc hp).there
  simpa [hl]using this
 ·simpa using h _ (hst.setAll hp hl) (Fr.setCells vs 0 w)
def CutJ (w5:World) (vS0:Value) (SK0 X:List UInt8) (p f:Value) (wx0:World):Prop:=∃b18 c6,p= .pointer (some ⟨b18,0,none⟩)∧f= .int .i64 (dw X).2.1∧St [] w5 wx0 [.own 5 1 (vS0) (SK0).length ((SK0).map B),.loc b18 c6 33]∧cI c6 (dw X).1 wx0∧c6.length=11∧∀u∈c6,u.oneCell'=true
theorem St.wd {S:List Nat} {w0 w:World} {G:List bt} (_:St S w0 w G):∃x,x=w:=⟨_,rfl⟩
theorem zcE {p:Prop} (h:p:=by
 refine wpAnyH_ready (rs:= [15]) (by kernel_rfl) (by simp) ?_;refine AllReadyH.cons rfl (fun K hK=> ?_) AllReadyH.nil
 rw[if_pos (by rfl)]
 refine st_storeX (ty:=33) (vs:=c6) rfl rfl rfl ?_;(repeat(apply Exists.intro));refine⟨?_,?_,?_,?_,?_,?_⟩;(·exact aA);(·exact aK);(·rw[hl6];rfl);(·rw[hl6];exact br);(·exact ho6);intro w10 hS hF10
 refine hK.out _ _ trivial (fun hr=> ?_);clear hK K
 (refine wpAnyH_take (i:=16) (v:= .int .i64 (dw XX0).2.1) rfl (by kernel_rfl) (by kernel_rfl) (by kernel_rfl) (fun _ _ _ h=>h) (Or.inl ⟨by rfl,fun _ _=>by go_simp⟩) hr ?_;simp only[Act.put,List.getElem_toArray,List.getElem_cons_succ,List.getElem_cons_zero,List.setIfInBounds_toArray,List.set_cons_zero,List.set_cons_succ])
 (refine wpAnyH_take (i:=17) (v:= .int .i64 (dw XX0).2.2) rfl (by kernel_rfl) (by kernel_rfl) (by kernel_rfl) (fun _ _ _ h=>h) (Or.inl ⟨by rfl,fun _ _=>by go_simp⟩) hr ?_;simp only[Act.put,List.getElem_toArray,List.getElem_cons_succ,List.getElem_cons_zero,List.setIfInBounds_toArray,List.set_cons_zero,List.set_cons_succ])
 refine wpAnyH_done (by kernel_rfl) ?_ _
 (try simp only[Act.put,List.getElem_toArray,List.getElem_cons_succ,List.getElem_cons_zero,List.setIfInBounds_toArray,List.set_cons_zero,List.set_cons_succ])
 go_wp2
 go_meet
 case rel=>exact⟨_,c6,rfl,rfl,hS.sel (by exact ic),hM6 w10 [_] hF10 (fun b _ hb=>by simpa using hb),hl6,ho6⟩
):p:=h
theorem zcA9 {p:Prop} (h:p:=by
 refine wpAnyH_ready (rs:= [9]) (by kernel_rfl) (by simp) ?_;refine AllReadyH.cons rfl (fun K hK=> ?_) AllReadyH.nil
 rw[if_pos (by rfl)];go_simp;have hsx:=hS.slX (k:=1) (n:=(XX0).length) (xs:=(XX0).map B) (by exact aK) (by exact aK);refine(Pp (f:=fun _=> .cells (List.toArray [.slice none 0 0,.slice none 0 0,.slice none 0 0,.slice none 0 0,.slice none 0 0,.slice none 0 0,.slice none 0 0,.slice none 0 0,.int .i64 0,.slice none 0 0,.slice none 0 0]) 33 (0,0)) (bs:=XX0) (fun x hx=>by simp only[List.mem_singleton]at hx;subst hx;exact hS.loc (by exact aK)) hsx ((hg.sub (S':= [_]) (fun b hlt hm=>by simp at hm;subst hm;omega)).fr ((fW.trans fW5).trans hS.fr) (by simp)) hXL).mono ?_;rintro e w9 ⟨c6,rfl,hl6,ho6,hM6,hF6⟩;have hS:=hS.step0 hF6;refine hK.out _ _ trivial (fun hr=> ?_);clear hK K
 (refine wpAnyH_take (i:=10) (v:= .tuple #[.agg c6.toArray,.int .i64 (dw XX0).2.1,.int .i64 (dw XX0).2.2]) rfl (by kernel_rfl) (by kernel_rfl) (by kernel_rfl) (fun _ _ _ h=>h) (Or.inl ⟨by rfl,fun _ _=>by go_simp⟩) hr ?_;simp only[Act.put,List.getElem_toArray,List.getElem_cons_succ,List.getElem_cons_zero,List.setIfInBounds_toArray,List.set_cons_zero,List.set_cons_succ]);(refine wpAnyH_take (i:=11) (v:= .agg c6.toArray) rfl (by kernel_rfl) (by kernel_rfl) (by kernel_rfl) (fun _ _ _ h=>h) (Or.inl ⟨by rfl,fun _ _=>by go_simp⟩) hr ?_;simp only[Act.put,List.getElem_toArray,List.getElem_cons_succ,List.getElem_cons_zero,List.setIfInBounds_toArray,List.set_cons_zero,List.set_cons_succ]);(refine wpAnyH_take (i:=12) (v:= .int .i64 (dw XX0).2.1) rfl (by kernel_rfl) (by kernel_rfl) (by kernel_rfl) (fun _ _ _ h=>h) (Or.inl ⟨by rfl,fun _ _=>by go_simp⟩) hr ?_;simp only[Act.put,List.getElem_toArray,List.getElem_cons_succ,List.getElem_cons_zero,List.setIfInBounds_toArray,List.set_cons_zero,List.set_cons_succ]);(refine wpAnyH_take (i:=13) (v:= .int .i64 (dw XX0).2.2) rfl (by kernel_rfl) (by kernel_rfl) (by kernel_rfl) (fun _ _ _ h=>h) (Or.inl ⟨by rfl,fun _ _=>by go_simp⟩) hr ?_;simp only[Act.put,List.getElem_toArray,List.getElem_cons_succ,List.getElem_cons_zero,List.setIfInBounds_toArray,List.set_cons_zero,List.set_cons_succ])
 exact zcE
):p:=h
theorem zcA8 {p:Prop} (h:p:=by
 refine wpAnyH_ready (rs:= [8]) (by kernel_rfl) (by simp) ?_;refine AllReadyH.cons rfl (fun K hK=> ?_) AllReadyH.nil
 refine F0 rfl rfl rfl rfl ⟨_,_,_,_,([]++(dy m).take 8++SK0),(dy m).drop 8,hS,Ac.own (by exact aK),jv.arg (hd8 _ (by exact aM)),by simp;omega,fun v3 w3 hS=> ?_⟩;rw[HXX.out]at hS;refine hK.out _ _ trivial (fun hr=> ?_);clear hK K
 exact zcA9
):p:=h
theorem zcA5 {p:Prop} (h:p:=by
 refine wpAnyH_ready (rs:= [5]) (by kernel_rfl) (by simp) ?_;refine AllReadyH.cons rfl (fun K hK=> ?_) AllReadyH.nil
 refine F0 rfl rfl rfl rfl ⟨_,_,_,_,([]++(dy m).take 8),SK0,hS,Ac.own (by exact aK),jv.own (by exact aK),by simp;omega,fun v2 w2 hS=> ?_⟩;refine hK.out _ _ trivial (fun hr=> ?_);clear hK K
 exact zcA8
):p:=h
theorem zcA3 {p:Prop} (h:p:=by
 refine wpAnyH_ready (rs:= [3]) (by kernel_rfl) (by simp) ?_;refine AllReadyH.cons rfl (fun K hK=> ?_) AllReadyH.nil
 have hS:=hS.drew;refine F0 rfl rfl rfl rfl ⟨_,_,_,_,[],(dy m).take 8,St.litN (Y:= []) (hS.pick (by exact aK)) rfl (Nat.zero_le _),Ac.own .here,jv.arg (h8 _ (by exact aM)),by simp;omega,fun v1 w1 hS=> ?_⟩;refine hK.out _ _ trivial (fun hr=> ?_);clear hK K
 exact zcA5
):p:=h
theorem zcA0 {p:Prop} (h:p:=by
 refine wpAnyH_ready (rs:= [0]) (by kernel_rfl) (by simp) ?_;refine AllReadyH.cons rfl (fun K hK=> ?_) AllReadyH.nil
 rw[if_pos (by rfl)];go_simp;have hS:=hS.alloc [] 5;refine hK.out _ _ trivial (fun hr=> ?_);clear hK K
 exact zcA3
):p:=h
theorem zcN9 {p:Prop} (h:p:=by
 refine wpAnyH_ready (rs:= [9,14]) (by kernel_rfl) (by simp) ?_;refine AllReadyH.cons rfl (fun K hK=> ?_) (AllReadyH.cons rfl (fun K hK=> ?_) AllReadyH.nil)
 ·rw[if_pos (by rfl)];go_simp;refine(Pp (E:= []) (f:=fun _=> .cells #[] 0 (0,0)) (bs:=XX0) (fun _ h=>by cases h) (bf.sl (St.own hS (by exact aK)) (by simp)) (hg.fr ((fW.trans fW5).trans hS.fr) (by simp)) hXL).mono ?_;rintro e w9 ⟨c6,rfl,hl6,ho6,hM6,hF6⟩;have hS:=hS.step0 hF6;refine hK.out _ _ trivial (fun hr=> ?_);clear hK K
  (refine wpAnyH_take (i:=10) (v:= .tuple #[.agg c6.toArray,.int .i64 (dw XX0).2.1,.int .i64 (dw XX0).2.2]) rfl (by kernel_rfl) (by kernel_rfl) (by kernel_rfl) (fun _ _ _ h=>h) (Or.inl ⟨by rfl,fun _ _=>by go_simp⟩) hr ?_;simp only[Act.put,List.getElem_toArray,List.getElem_cons_succ,List.getElem_cons_zero,List.setIfInBounds_toArray,List.set_cons_zero,List.set_cons_succ]);(refine wpAnyH_take (i:=11) (v:= .agg c6.toArray) rfl (by kernel_rfl) (by kernel_rfl) (by kernel_rfl) (fun _ _ _ h=>h) (Or.inl ⟨by rfl,fun _ _=>by go_simp⟩) hr ?_;simp only[Act.put,List.getElem_toArray,List.getElem_cons_succ,List.getElem_cons_zero,List.setIfInBounds_toArray,List.set_cons_zero,List.set_cons_succ]);(refine wpAnyH_take (i:=12) (v:= .int .i64 (dw XX0).2.1) rfl (by kernel_rfl) (by kernel_rfl) (by kernel_rfl) (fun _ _ _ h=>h) (Or.inl ⟨by rfl,fun _ _=>by go_simp⟩) hr ?_;simp only[Act.put,List.getElem_toArray,List.getElem_cons_succ,List.getElem_cons_zero,List.setIfInBounds_toArray,List.set_cons_zero,List.set_cons_succ]);(refine wpAnyH_take (i:=13) (v:= .int .i64 (dw XX0).2.2) rfl (by kernel_rfl) (by kernel_rfl) (by kernel_rfl) (fun _ _ _ h=>h) (Or.inl ⟨by rfl,fun _ _=>by go_simp⟩) hr ?_;simp only[Act.put,List.getElem_toArray,List.getElem_cons_succ,List.getElem_cons_zero,List.setIfInBounds_toArray,List.set_cons_zero,List.set_cons_succ])
  refine wpAnyH_ready (rs:= [14]) (by kernel_rfl) (by simp) ?_;refine AllReadyH.cons rfl (fun K hK=> ?_) AllReadyH.nil
  rw[if_pos (by rfl)];have n18:=hS.fr.size;(try simp only[World.size_alloc,World.size_setCell,ay,ar]at n18);go_simp;have hS:=hS.alloc [.slice none 0 0,.slice none 0 0,.slice none 0 0,.slice none 0 0,.slice none 0 0,.slice none 0 0,.slice none 0 0,.slice none 0 0,.int .i64 0,.slice none 0 0,.slice none 0 0] 33;refine hK.out _ _ trivial (fun hr=> ?_);clear hK K
  have hM6:=hM6.go (S':= [w9.heap.size]) ((Fr.refl [] w9).alloc (.cells (List.toArray [.slice none 0 0,.slice none 0 0,.slice none 0 0,.slice none 0 0,.slice none 0 0,.slice none 0 0,.slice none 0 0,.slice none 0 0,.int .i64 0,.slice none 0 0,.slice none 0 0]) 33)) (by simp) (fun b hlt hb=>by simp at hb;subst hb;omega)
  exact zcE
 ·rw[if_pos (by rfl)];have n18:=hS.fr.size;(try simp only[World.size_alloc,World.size_setCell,ay,ar]at n18);go_simp;have hS:=hS.alloc [.slice none 0 0,.slice none 0 0,.slice none 0 0,.slice none 0 0,.slice none 0 0,.slice none 0 0,.slice none 0 0,.slice none 0 0,.int .i64 0,.slice none 0 0,.slice none 0 0] 33;refine hK.out _ _ trivial (fun hr=> ?_);clear hK K
  exact zcA9
):p:=h
theorem zcN8 {p:Prop} (h:p:=by
 refine wpAnyH_ready (rs:= [8,14]) (by kernel_rfl) (by simp) ?_;refine AllReadyH.cons rfl (fun K hK=> ?_) (AllReadyH.cons rfl (fun K hK=> ?_) AllReadyH.nil)
 ·refine F0 rfl rfl rfl rfl ⟨_,_,_,_,([]++(dy m).take 8++SK0),(dy m).drop 8,hS,Ac.own (by exact aK),jv.arg (hd8 _ (by exact aM)),by simp;omega,fun v3 w3 hS=> ?_⟩;rw[HXX.out]at hS;refine hK.out _ _ trivial (fun hr=> ?_);clear hK K
  exact zcN9
 ·rw[if_pos (by rfl)];have n18:=hS.fr.size;(try simp only[World.size_alloc,World.size_setCell,ay,ar]at n18);go_simp;have hS:=hS.alloc [.slice none 0 0,.slice none 0 0,.slice none 0 0,.slice none 0 0,.slice none 0 0,.slice none 0 0,.slice none 0 0,.slice none 0 0,.int .i64 0,.slice none 0 0,.slice none 0 0] 33;refine hK.out _ _ trivial (fun hr=> ?_);clear hK K
  exact zcA8
):p:=h
theorem zcN5 {p:Prop} (h:p:=by
 refine wpAnyH_ready (rs:= [5,14]) (by kernel_rfl) (by simp) ?_;refine AllReadyH.cons rfl (fun K hK=> ?_) (AllReadyH.cons rfl (fun K hK=> ?_) AllReadyH.nil)
 ·refine F0 rfl rfl rfl rfl ⟨_,_,_,_,([]++(dy m).take 8),SK0,hS,Ac.own (by exact aK),jv.own (by exact aK),by simp;omega,fun v2 w2 hS=> ?_⟩;refine hK.out _ _ trivial (fun hr=> ?_);clear hK K
  exact zcN8
 ·rw[if_pos (by rfl)];have n18:=hS.fr.size;(try simp only[World.size_alloc,World.size_setCell,ay,ar]at n18);go_simp;have hS:=hS.alloc [.slice none 0 0,.slice none 0 0,.slice none 0 0,.slice none 0 0,.slice none 0 0,.slice none 0 0,.slice none 0 0,.slice none 0 0,.int .i64 0,.slice none 0 0,.slice none 0 0] 33;refine hK.out _ _ trivial (fun hr=> ?_);clear hK K
  exact zcA5
):p:=h
theorem zcN3 {p:Prop} (h:p:=by
 refine wpAnyH_ready (rs:= [3,14]) (by kernel_rfl) (by simp) ?_;refine AllReadyH.cons rfl (fun K hK=> ?_) (AllReadyH.cons rfl (fun K hK=> ?_) AllReadyH.nil)
 ·have hS:=hS.drew;refine F0 rfl rfl rfl rfl ⟨_,_,_,_,[],(dy m).take 8,St.litN (Y:= []) (hS.pick (by exact aK)) rfl (Nat.zero_le _),Ac.own .here,jv.arg (h8 _ (by exact aM)),by simp;omega,fun v1 w1 hS=> ?_⟩;refine hK.out _ _ trivial (fun hr=> ?_);clear hK K
  exact zcN5
 ·rw[if_pos (by rfl)];have n18:=hS.fr.size;(try simp only[World.size_alloc,World.size_setCell,ay,ar]at n18);go_simp;have hS:=hS.alloc [.slice none 0 0,.slice none 0 0,.slice none 0 0,.slice none 0 0,.slice none 0 0,.slice none 0 0,.slice none 0 0,.slice none 0 0,.int .i64 0,.slice none 0 0,.slice none 0 0] 33;refine hK.out _ _ trivial (fun hr=> ?_);clear hK K
  exact zcA3
):p:=h
theorem zcN0 {p:Prop} (h:p:=by
 refine wpAnyH_ready (rs:= [0,14]) (by kernel_rfl) (by simp) ?_;refine AllReadyH.cons rfl (fun K hK=> ?_) (AllReadyH.cons rfl (fun K hK=> ?_) AllReadyH.nil)
 ·rw[if_pos (by rfl)];go_simp;have hS:=hS.alloc [] 5;refine hK.out _ _ trivial (fun hr=> ?_);clear hK K
  exact zcN3
 ·rw[if_pos (by rfl)];have n18:=hS.fr.size;(try simp only[World.size_alloc,World.size_setCell,ay,ar]at n18);go_simp;have hS:=hS.alloc [.slice none 0 0,.slice none 0 0,.slice none 0 0,.slice none 0 0,.slice none 0 0,.slice none 0 0,.slice none 0 0,.slice none 0 0,.int .i64 0,.slice none 0 0,.slice none 0 0] 33;refine hK.out _ _ trivial (fun hr=> ?_);clear hK K
  exact zcA0
):p:=h
set_option maxRecDepth 100000 in set_option maxHeartbeats 6400000 in
theorem modCut_a {w:World} (hg:cq [] w) {m:aV} {c:List Value} (h:cI c m w) (hn:xk m) (hw:ip m≤1048576) (z:Nat) (nm:List UInt8) (hm:cy m=true) (hz:z≤(dy m).length) (hnm:nm.length≤50):
 Calls Tryz.prog 4 #[.agg c.toArray,.int .i64 (z:Int),.string ⟨nm.toArray⟩] w fun e w'=>e= .returned (.bool true)∧Fr [] w w':=by
 have WF:=sZ hn hw
 have hu:=nC hn
 have PMm:=wX hm hu hw
 have sm:=oB hm hu hw
 have hps:=kP hm hu hw
 have hends:=Lib.hid (cut_ends hm sm z hz)
 have hskip:=Lib.hid (rMod_skip hm sm hnm)
 obtain⟨ty,im,fu,ta,me,tg,gl,ex,el,da,rfl,h0,h1,h2,h3,h4,h5,h6,h7,h9,h10⟩:=h
 have hold:∀w',Fr [] w w'→cI [ty,im,fu,ta,me,tg,gl,ex,.int .i64 m.start,el,da] m w'∧True:=fun w' hf=>
  ⟨cI.fr ⟨ty,im,fu,ta,me,tg,gl,ex,el,da,rfl,h0,h1,h2,h3,h4,h5,h6,h7,h9,h10⟩ hf,trivial⟩
 have o0:=an.one h0
 have o1:=an.one h1
 have o2:=an.one h2
 have o3:=an.one h3
 have o4:=an.one h4
 have o5:=an.one h5
 have o6:=an.one h6
 have o7:=an.one h7
 have o9:=an.one h9
 have o10:=an.one h10
 clear h0 h1 h2 h3 h4 h5 h6 h7 h9 h10
 have hS:=St.start [] w
 have fW:=Fr.refl [] w
 have hlen8:8≤(dy m).length:=by
  rw[AD hm,List.length_append]
  have:aP.length=8:=rfl
  omega
 have q1:¬((z:Nat):Int)<0:=by omega
 have q2:¬(((dy m).length:Nat):Int)< ((z:Nat):Int):=by omega
 have q3:¬(50:Int)< ((nm.length:Nat):Int):=by omega
 go_enter Tryz.func4,Tryz.ntmps4
 go_upto_region 4 with first|(go_at_call 6;refine(qt (hg.fr (fW.trans (by exact aM)) (by simp))).mono ?_;rintro e w4 ⟨rfl,hF4⟩;(try clear hQ);refine cB hF4 fun hS hQ=> ?_)|(refine bC (ty:=33) rfl rfl rfl ce rfl ?_;(repeat(apply Exists.intro));refine⟨?_,?_,?_,?_⟩;(·exact aA);(·exact TC);(·first|exact br|(rw[hl5];exact br)|(rw[hl6];exact br)))|(go_at_call 8;refine(po (hg.fr (fW.trans (by exact aM)) (by simp)) (hold _ (by exact aM)).1 WF PMm hm).mono ?_;rintro e w6 ⟨v6,rfl,s6⟩;(try clear hQ);refine qa s6 fun hS hQ=> ?_)|fail
 have hS0:=hS
 obtain⟨vb,vc,rfl,hvc⟩:=bf.shape (St.own hS (.here))
 have hS:=hS0
 clear hS0
 have HVC:=Lib.hid hvc.1
 clear hvc
 (try clear hQ);have hQ:=St.fq hS
 go_upto_region 6 with first|(refine bC (ty:=33) rfl rfl rfl ce rfl ?_;(repeat(apply Exists.intro));refine⟨?_,?_,?_,?_⟩;(·exact aA);(·exact TC);(·first|exact br|(rw[hl5];exact br)|(rw[hl6];exact br)))|(go_at_call 7;refine(jN (hold _ (by exact aM)).1).mono ?_;rintro e w4 ⟨⟨n,rfl⟩,hF4⟩;(try clear hQ);refine cB hF4 fun hS hQ=> ?_)|fail
 all_goals first|(go_ret;exact⟨rfl,fW.trans (by exact aM)⟩)|skip
 obtain⟨b0,hb0⟩:∃b,w.heap.size=b:=⟨_,rfl⟩
 rw[hb0]at hS hQ⊢
 have holdb:∀w',Fr [] w4 w'→Sl [] w' 1 (.slice vb (dy m).length vc) (dy m).length ((dy m).map B)∧bB w' b0 [ty,im,fu,ta,me,tg,gl,ex,.int .i64 m.start,el,da] 33∧cI [ty,im,fu,ta,me,tg,gl,ex,.int .i64 m.start,el,da] m w':=fun w' hf=>
  ⟨(bf.sl (St.own hS (by exact aK)) (by simp)).fr hf (by simp),(St.loc hS (by exact aK)).fr hf (by simp),(hold _ (hS.fr.trans hf)).1⟩
 have fW:=fW.trans hS.fr
 have hS:=St.start [] w4
 clear hQ
 have hcell:∃g off,vb=some ⟨g,off,none⟩∧∀j,j< (dy m).length→w4.cell? ⟨g,off+j,none⟩=some (B ((dy m).getD j 0)):=by
  obtain⟨_,_,a,cap,e,_,_,_,h6⟩:=(holdb w4 (Fr.refl _ _)).1
  injection e with e1 e2 e3
  subst e1
  rcases h6 with h0|⟨b,off,rfl,_,_,hc⟩
  ·omega
  ·refine⟨b,off,rfl,fun j hj=> ?_⟩
   rw[hc j (by omega)]
   simp[hj]
 obtain⟨g,off,rfl,hc⟩:=hcell
 have HC:=Lib.hid hc
 have HP:=Lib.hid (AD hm)
 have HL:=Lib.hid hlen8
 clear hc hlen8
 generalize hE:((((z:Nat):Int)==8)||tailEnd z 8 (secs m))=E at hends
 have HE:=Lib.hid hE
 clear hE
 go_wp2
 go_loop [9,10] (fun e i=>CutRel m z E e i) (fun _ i=>(dy m).length-(intOf i).toNat)
 case atStart=>exact⟨[],secs m,_,rfl,rfl,Lib.hid rfl,HE⟩
 case round=>
  obtain⟨S,T,b,rfl,rfl,hST,hb⟩:=hrel
  have hlS:(dy m).length=8+(bl S+(bK T).length):=by
   rw[HP.out,hST.out,tT,List.length_append,List.length_append]
   rfl
  cases T with
  |nil=>
   have hbE:b=E:=by have:=hb.out;rw[←this];simp[tailEnd]
   have h0:(bK ([]:List xJ)).length=0:=rfl
   have q:¬((8+bl S:Nat):Int)< (((dy m).length:Nat):Int):=by omega
   subst hbE
   clear hb hST hlS h0
   have qz0:z≤vc:=by have:=HVC.out;omega
   have hzt:((dy m).take z).length=z:=by rw[List.length_take];omega
   have hS:=St.start [] w4
   go_upto_region 19 with first|(go_at_call 9;refine(ij (bs:=(dy m).take z) (by rw[hzt,List.map_take];exact Sl.take (holdb _ (by exact aM)).1 hz) (hg.fr (fW.trans (by exact aM)) (by simp)) (by omega)).mono ?_;rintro e w5 ⟨c5,rfl,hl5,ho5,hM5,hF5⟩;have fW5:=hS.fr.trans hF5;clear hS;have hS:=St.start [] w5)|(refine cd (ty:=33) (vs:=c5) rfl rfl rfl rfl ?_;(repeat(apply Exists.intro));refine⟨?_,?_,?_,?_,?_,?_⟩;(·exact aA);(·exact aK);(·exact hl5);(·rw[hl5];exact br);(·exact ho5);intro wN hS;(try clear hQ);have hQ:=St.fq hS)|fail
   obtain⟨f,hf⟩:∃f,(dw ((dy m).take z)).2.1=f:=⟨_,rfl⟩
   rw[hf]at hends⊢
   have hmod:((nm.length:Nat):Int)+2<256:=by omega
   go_cut [119] (fun s wx0=>s= .bool false∧wx0=wN)
   case first=>
    rcases hends.out with⟨rfl,rfl|rfl⟩|⟨rfl,hf0⟩
    ·go_wp2
     go_meet
     case rel=>exact⟨rfl,rfl⟩
    ·go_wp2
     go_meet
     case rel=>exact⟨rfl,rfl⟩
    ·have qf0:((f:Int)==0)=false:=by simpa using hf0
     go_wp2
     go_meet
     case rel=>exact⟨rfl,rfl⟩
   case rest=>
    obtain⟨rfl,rfl⟩:=hcut
    go_upto_region 22 with first|(refine MP rfl rfl rfl ?_;(repeat(apply Exists.intro));refine⟨?_,?_,?_⟩;(·exact aA);(·unfold maxLen;omega);intro vN wN hS;(try clear hQ);have hQ:=St.fq hS)|(at_builtin;go_loud ((try clear hQ);refine ER rfl rfl rfl rfl ⟨_,_,_,_,[0,UInt8.ofNat (nm.length+2),UInt8.ofNat nm.length],nm,St.litN (hS.pick (.there .here)) (lit3 hnm) (show(3:Nat)≤maxLen by unfold maxLen;decide),Ac.own .here,jv.own (.there .here),by simp;omega,?_⟩;intro vN wN hS;(try clear hQ);have hQ:=St.fq hS))|fail
    go_upto_region 23 with first|(at_builtin;(try clear hQ);refine wb fun vN wN hS hQ=> ?_)|fail
    have hS0:=hS.sel (G':= [.own 5 1 (vN) (skB nm).length ((skB nm).map B)]) (by exact ic)
    clear hS
    have hS:=hS0
    clear hS0 hQ
    obtain⟨aS,cS,rfl,_⟩:=bf.shape (St.own hS (.here))
    generalize hsk:skB nm=SK0 at hS⊢
    have HSK:=Lib.hid hsk
    clear hsk
    have h8:∀w',Fr [] w5 w'→Sl [] w' 1 (.slice (some ⟨g,off,none⟩) 8 vc) ((dy m).take 8).length (((dy m).take 8).map B):=fun w' hf=>by
     have e:((dy m).take 8).length=8:=by rw[List.length_take];have:=HL.out;omega
     rw[e,List.map_take]
     exact Sl.take (holdb _ (fW5.trans hf)).1 HL.out
    have hd8:∀w',Fr [] w5 w'→Sl [] w' 1 (.slice (if vc=8 then some (⟨g,off,none⟩:Addr)else some ⟨g,off+8,none⟩) ((dy m).length-8) (vc-8)) ((dy m).drop 8).length (((dy m).drop 8).map B):=fun w' hf=>by
     have e:=Sl.dropM (holdb _ (fW5.trans hf)).1 HL.out
     rw[List.length_drop,List.map_drop]
     exact e
    have hskl:SK0.length≤60:=by rw[←HSK.out];simp[skB];omega
    have qv0:(8:Int)≤((vc:Nat):Int):=by have:=HL.out;have:=HVC.out;omega
    have qv2:(8:Int)≤(((dy m).length:Nat):Int):=by have:=HL.out;omega
    have hsz5:w.heap.size≤w5.heap.size:=Nat.le_trans fW.size fW5.size
    have hXL:([]++(dy m).take 8++SK0++(dy m).drop 8).length≤274877906944:=by simp;omega
    generalize hXX: []++(dy m).take 8++SK0++(dy m).drop 8=XX0 at hXL
    have HXX:=Lib.hid hXX
    clear hXX
    obtain⟨dv0,hdv⟩:∃dv0,(if vc=8 then some (⟨g,off,none⟩:Addr)else some ⟨g,off+8,none⟩)=dv0:=⟨_,rfl⟩
    rw[hdv]at hd8
    go_cut [18,19] (fun p f wx0=>CutJ w5 (.slice aS SK0.length cS) SK0 XX0 p f wx0)
    case rest=>
     obtain⟨b18,c6,rfl,rfl,hS,hM6,hl6,ho6⟩:=hcut
     clear hd8 h8 hdv
     have hb8:aP=(dy m).take 8:=by rw[HP.out];rfl
     have hb9:bK (secs m)=(dy m).drop 8:=by rw[HP.out];rfl
     have hsk8:oq (skipS nm)=SK0:=by rw[skipB hnm,←HSK.out];rfl
     have hXe:aP++(oq (skipS nm)++bK (secs m))=XX0:=by rw[←HXX.out,hsk8,hb8,hb9];simp
     have hYe:aP++(bK (secs m)++oq (skipS nm))= []++dy m++SK0:=by rw[hsk8,HP.out];simp
     have hsk2:=hskip.out
     rw[hXe,hYe]at hsk2
     have hYL:([]++dy m++SK0).length≤274877906944:=by simp;omega
     generalize hYY: []++dy m++SK0=YY at hsk2 hYL
     have HYY:=Lib.hid hYY
     clear hYY hYe hXe hsk8 hb8 hb9
     obtain⟨wX0,hwX⟩:=hS.wd
     subst hwX
     have F1:∀w',Fr [] wX0 w'→Sl [] w' 1 (.slice aS SK0.length cS) SK0.length (SK0.map B)∧bB w' b18 c6 33∧cI c6 (dw XX0).1 w'∧Sl [] w' 1 (.slice (some ⟨g,off,none⟩) (dy m).length vc) (dy m).length ((dy m).map B)∧bB w' b0 [ty,im,fu,ta,me,tg,gl,ex,.int .i64 m.start,el,da] 33∧cI [ty,im,fu,ta,me,tg,gl,ex,.int .i64 m.start,el,da] m w':=fun w' hf=>⟨(bf.sl (St.own hS (by exact aK)) (by simp)).fr hf (by simp),(St.loc hS (by exact aK)).fr hf (by simp),hM6.fr hf,holdb _ ((fW5.trans hS.fr).trans hf)⟩
     have fW:=(fW.trans fW5).trans hS.fr
     have hS:=St.start [] wX0
     clear hM6 fW5
     cases hwell:iY nm
     ·obtain⟨eX,eY⟩:=hsk2.2 hwell
      have EY0:=Lib.hid eY
      rw[eX]
      clear eX eY hsk2 hwell
      go_upto_region 25 with first|(at_builtin;refine ER rfl rfl rfl rfl ⟨_,_,_,_,[],dy m,St.litN (Y:= []) (St.pick (G:= _) (by exact aA) (by exact aK)) rfl (Nat.zero_le _),Ac.own .here,jv.arg (F1 _ (by exact aM)).2.2.2.1,by simp;omega,?_⟩;intro vN wN hS;(try clear hQ);have hQ:=St.fq hS)|(at_builtin;refine ER rfl rfl rfl rfl ⟨_,_,_,_,[]++dy m,SK0,hS,Ac.own (by exact aK),jv.arg (F1 _ (by exact aM)).1,by simp;omega,?_⟩;intro vN wN hS;rw[HYY.out]at hS;(try clear hQ);have hQ:=St.fq hS)|(go_at_call 9;refine(ij (bs:=YY) (bf.sl (St.own hS (by exact aK)) (by simp)) (hg.fr (fW.trans hS.fr) (by simp)) hYL).mono ?_;rintro e w9 ⟨c5,rfl,hl5,ho5,hM5,hF5⟩;rw[EY0.out];have fW:=fW.trans (hS.fr.trans hF5);have hS:=St.start [] w9)|(refine cd (ty:=33) (vs:=c5) rfl rfl rfl rfl ?_;(repeat(apply Exists.intro));refine⟨?_,?_,?_,?_,?_,?_⟩;(·exact aA);(·exact aK);(·exact hl5);(·rw[hl5];exact br);(·exact ho5);intro wN hS;(try clear hQ);have hQ:=St.fq hS)|fail
      clear hQ
      go_wp2
      go_ret
      exact⟨rfl,fW.trans (by exact aM)⟩
     ·obtain⟨eX,eY⟩:=hsk2.1 hwell
      have eX2:(dw XX0).2.1=0:=by rw[eX]
      have eX1:(dw XX0).1=m:=by rw[eX]
      have EY0:=Lib.hid (show(dw YY).2.1=0 by rw[eY])
      have EM0:=Lib.hid (show(dw YY).1=m by rw[eY])
      rw[eX2]
      rw[eX1]at F1
      clear eX eX1 eX2 eY hsk2 hwell
      go_upto_region 25 with first|(at_builtin;refine ER rfl rfl rfl rfl ⟨_,_,_,_,[],dy m,St.litN (Y:= []) (St.pick (G:= _) (by exact aA) (by exact aK)) rfl (Nat.zero_le _),Ac.own .here,jv.arg (F1 _ (by exact aM)).2.2.2.1,by simp;omega,?_⟩;intro vN wN hS;(try clear hQ);have hQ:=St.fq hS)|(at_builtin;refine ER rfl rfl rfl rfl ⟨_,_,_,_,[]++dy m,SK0,hS,Ac.own (by exact aK),jv.arg (F1 _ (by exact aM)).1,by simp;omega,?_⟩;intro vN wN hS;rw[HYY.out]at hS;(try clear hQ);have hQ:=St.fq hS)|(go_at_call 9;refine(ij (bs:=YY) (bf.sl (St.own hS (by exact aK)) (by simp)) (hg.fr (fW.trans hS.fr) (by simp)) hYL).mono ?_;rintro e w9 ⟨c5,rfl,hl5,ho5,hM5,hF5⟩;rw[EY0.out];rw[EM0.out]at hM5;have F2:∀w',Fr [] w9 w'→(bB w' b18 c6 33∧cI c6 m w'∧bB w' b0 [ty,im,fu,ta,me,tg,gl,ex,.int .i64 m.start,el,da] 33∧cI [ty,im,fu,ta,me,tg,gl,ex,.int .i64 m.start,el,da] m w')∧cI c5 m w':=fun w' hf=>⟨(fun k=>⟨k.2.1,k.2.2.1,k.2.2.2.2.1,k.2.2.2.2.2⟩) (F1 w' ((hS.fr.trans hF5).trans hf)),hM5.fr hf⟩;have fW:=fW.trans (hS.fr.trans hF5);have hS:=St.start [] w9)|(refine cd (ty:=33) (vs:=c5) rfl rfl rfl rfl ?_;(repeat(apply Exists.intro));refine⟨?_,?_,?_,?_,?_,?_⟩;(·exact aA);(·exact aK);(·exact hl5);(·rw[hl5];exact br);(·exact ho5);intro wN hS;(try clear hQ);have hQ:=St.fq hS)|fail
      obtain⟨b21,hb21⟩:∃b,w9.heap.size=b:=⟨_,rfl⟩
      rw[hb21]at hS hQ⊢
      clear hQ
      go_wp2_with first|(refine gx (ty:=33) rfl rfl rfl rfl ce rfl ?_;(repeat(apply Exists.intro));refine⟨?_,?_,?_,?_⟩;(·exact aA);(·exact eD.elem (bB.range (F2 _ hS.fr).1.1));(·first|exact br|(rw[hl5];exact br)|(rw[hl6];exact br)))|(refine gx (ty:=33) rfl rfl rfl rfl ce rfl ?_;(repeat(apply Exists.intro));refine⟨?_,?_,?_,?_⟩;(·exact aA);(·exact eD.elem (bB.range (F2 _ hS.fr).1.2.2.1));(·first|exact br|(rw[hl5];exact br)|(rw[hl6];exact br)))|(refine gx (ty:=33) rfl rfl rfl rfl ce rfl ?_;(repeat(apply Exists.intro));refine⟨?_,?_,?_,?_⟩;(·exact aA);(·exact TC);(·first|exact br|(rw[hl5];exact br)|(rw[hl6];exact br)))|(go_at_call 10;(with_reducible refine(ld (F2 _ (by exact aM)).1.2.1 (F2 _ (by exact aM)).1.2.2.2).mono ?_);rintro e w8 ⟨rfl,hF8⟩;rw[decide_eq_true rfl];(try clear hQ);refine cB hF8 fun hS hQ=> ?_)|(go_at_call 10;(with_reducible refine(ld (F2 _ (by exact aM)).2 (F2 _ (by exact aM)).1.2.2.2).mono ?_);rintro e w8 ⟨rfl,hF8⟩;rw[decide_eq_true rfl];(try clear hQ);refine cB hF8 fun hS hQ=> ?_)|fail
      go_ret
      exact⟨rfl,fW.trans (by exact aM)⟩
    refine wp_region_held_drew (S:=fun _=>True) (by kernel_rfl) trivial (fun hr=> ?_)
    (refine wpAnyH_take (i:=1) (v:= .slice (some ⟨g,off,none⟩) (dy m).length vc) rfl (by kernel_rfl) (by kernel_rfl) (by kernel_rfl) (fun _ _ _ h=>h) (Or.inl ⟨by rfl,fun _ _=>by go_simp⟩) hr ?_;simp only[Act.put,List.getElem_toArray,List.getElem_cons_succ,List.getElem_cons_zero,List.setIfInBounds_toArray,List.set_cons_zero,List.set_cons_succ])
    (refine wpAnyH_take (i:=2) (v:= .slice (some ⟨g,off,none⟩) 8 vc) rfl (by kernel_rfl) (by kernel_rfl) (by kernel_rfl) (fun _ _ _ h=>h) (Or.inl ⟨by rfl,fun _ _=>by go_simp⟩) hr ?_;simp only[Act.put,List.getElem_toArray,List.getElem_cons_succ,List.getElem_cons_zero,List.setIfInBounds_toArray,List.set_cons_zero,List.set_cons_succ])
    (refine wpAnyH_take (i:=4) (v:= .slice aS (SK0).length cS) rfl (by kernel_rfl) (by kernel_rfl) (by kernel_rfl) (fun _ _ _ h=>h) (Or.inl ⟨by rfl,fun _ _=>by go_simp⟩) hr ?_;simp only[Act.put,List.getElem_toArray,List.getElem_cons_succ,List.getElem_cons_zero,List.setIfInBounds_toArray,List.set_cons_zero,List.set_cons_succ])
    (refine wpAnyH_take (i:=6) (v:= .slice (some ⟨g,off,none⟩) (dy m).length vc) rfl (by kernel_rfl) (by kernel_rfl) (by kernel_rfl) (fun _ _ _ h=>h) (Or.inl ⟨by rfl,fun _ _=>by go_simp⟩) hr ?_;simp only[Act.put,List.getElem_toArray,List.getElem_cons_succ,List.getElem_cons_zero,List.setIfInBounds_toArray,List.set_cons_zero,List.set_cons_succ])
    (refine wpAnyH_take (i:=7) (v:= .slice dv0 ((dy m).length-8) (vc-8)) rfl (by kernel_rfl) (by kernel_rfl) (by kernel_rfl) (fun _ _ _ h=>h) (Or.inl ⟨by rfl,fun _ _=>by go_simp⟩) hr ?_;simp only[Act.put,List.getElem_toArray,List.getElem_cons_succ,List.getElem_cons_zero,List.setIfInBounds_toArray,List.set_cons_zero,List.set_cons_succ])
    exact zcN0
  |cons s T=>
   have hs2:=BQ s
   have hsb:(bK (s::T)).length=(oq s).length+(bK T).length:=by show(oq s++bK T).length= _;simp
   have hsl:(oq s).length=1+((aI s.2.length).length+s.2.length):=by simp[oq,aX];omega
   have hL32:s.2.length<4294967296:=sm.secs s (by rw[hST.out];simp)
   have hdrop:(dy m).drop (8+bl S+1)=aI s.2.length++(s.2++bK T):=by
    have e:dy m=(aP++bK S)++(UInt8.ofNat s.1::(aI s.2.length++(s.2++bK T))):=by
     rw[HP.out,hST.out,tT]
     simp[bK,oq,aX]
    have e2:(aP++bK S).length=8+bl S:=by rw[List.length_append];rfl
    rw[e,←e2,←List.drop_drop]
    simp
   have hp0:8+bl S< (dy m).length:=by omega
   have hend:8+bl S+(oq s).length≤(dy m).length:=by omega
   have hst2:Hid (secs m=(S++ [s])++T):=Lib.hid (by rw[hST.out];simp)
   have hb2:Hid (((b||(((8+bl S+(oq s).length:Nat):Int)==((z:Nat):Int)))||tailEnd z (8+bl S+(oq s).length) T)=E):=by
    refine Lib.hid ?_
    have:=hb.out
    rw[←this,tailEnd,Bool.or_assoc]
   have hbl:8+bl (S++ [s])=8+bl S+(oq s).length:=by
    rw[Lm,←Nat.add_assoc]
    unfold bl bK
    simp
   generalize hp:8+bl S=p at hp0 hend hb2 hbl hdrop⊢
   have HEND:=Lib.hid hend
   have HBL:=Lib.hid hbl
   have HSL:=Lib.hid hsl
   have HL32:=Lib.hid hL32
   have HD0:=Lib.hid hdrop
   generalize s.2.length=L at HSL HL32 HD0⊢
   clear hlS hs2 hsb hsl hL32 hdrop hend hbl hp hb hST
   have q:((p:Nat):Int)< (((dy m).length:Nat):Int):=by omega
   go_wp2
   go_loop [11,12,13] (fun n k sh0=>CutIn (dy m) (s.2++bK T) p L n k sh0) (fun _ k _=>(dy m).length-(intOf k).toNat)
   case atStart=>exact⟨0,p+1,by simp[Nat.mod_one],by simp,by simp,by omega,Lib.hid rfl,Lib.hid (by simpa using HD0.out)⟩
   case round=>
    obtain⟨j,kk0,rfl,rfl,rfl,hj,hkk,hdk⟩:=hrel
    obtain⟨c,e1,e2,e3,e4⟩:=putU_step L j
    have hdk2:=hdk.out
    rw[e1,List.cons_append]at hdk2
    have hk:kk0< (dy m).length:=by
     have:=congrArg List.length hdk2
     rw[List.length_drop,List.length_cons]at this
     omega
    have hgk:(dy m).getD kk0 0=c:=by
     have:=congrArg List.head? hdk2
     rw[List.head?_drop]at this
     simp[List.getD,this]
    have hck:=HC.out kk0 hk
    rw[hgk]at hck
    unfold B at hck
    have hc256:c.toNat<256:=c.toNat_lt
    have hA:=yT c.toNat hc256
    have q1:((kk0:Nat):Int)< (((dy m).length:Nat):Int):=by omega
    have hdk3:(dy m).drop (kk0+1)=(if L/128^j<128 then []else aI (L/128^(j+1)))++(s.2++bK T):=by
     rw[←List.drop_drop,hdk2]
     simp
    have hcn:=cut_num L j HL32.out
    clear hdk2 hgk e1
    by_cases hq:L/128^j<128
    ·have h7:((c.toNat:Nat):Int)<128:=by have:=e3.2 hq;omega
     have hlast:=putU_last L j hq
     rw[hlast]at hcn
     have hx1:=HEND.out
     have hx2:=HSL.out
     have hput:(aI L).length=j+1:=cut_count L j p kk0 hkk.out hq hk HD0.out hdk3
     have hx3:((kk0:Nat):Int)+1+((L:Nat):Int)=((p+(oq s).length:Nat):Int):=by have:=hkk.out;omega
     have hx4:((kk0:Nat):Int)+1+((L:Nat):Int)≤4294967296:=by omega
     have HX:=Lib.hid hx3
     clear hx1 hx2 hx3 hput hlast hdk3 hkk hdk HD0 HSL
     cases b
     ·go_wp2
      refine⟨⟨S++ [s],T,_,rfl,?_,hst2,?_⟩,?_⟩
      ·rw[HX.out,HBL.out]
      ·rw[HBL.out,HX.out]
       refine Lib.hid ?_
       have:=hb2.out
       rw[Bool.false_or]at this
       exact this
      ·have h1:=HX.out
       have h2:=BQ s
       simp[intOf]
       omega
     ·go_wp2
      refine⟨⟨S++ [s],T,_,rfl,?_,hst2,?_⟩,?_⟩
      ·rw[HX.out,HBL.out]
      ·refine Lib.hid ?_
       have:=hb2.out
       simpa using this
      ·have h1:=HX.out
       have h2:=BQ s
       simp[intOf]
       omega
    ·have h7:¬((c.toNat:Nat):Int)<128:=by have:=mt e3.1 hq;omega
     rw[if_neg hq]at hdk3
     have hj4:j+1≤4:=cut_four L j hj HL32.out hq
     have hn1:=Lib.hid hdk3
     clear hdk3
     go_wp2
     go_roundw
     case rel=>exact⟨j+1,kk0+1,by first|rfl|(rw[hcn]),by simp,by simp;omega,hj4,Lib.hid (by have:=hkk.out;omega),hn1⟩
     case measure=>simp[intOf];omega
theorem modCut_any {w:World} (hg:cq [] w) {m:aV} {c:List Value} (h:cI c m w) (hn:xk m) (hw:ip m≤1048576) (z:Int) (nm:List UInt8):
 Calls Tryz.prog 4 #[.agg c.toArray,.int .i64 z,.string ⟨nm.toArray⟩] w fun e w'=>e= .returned (.bool true)∧Fr [] w w':=by
 cases hm:cy m
 ·exact modCut_b hg h hn hw z nm hm
 ·by_cases h1:z<0
  ·exact modCut_o hg h hn hw z nm hm (.inl h1)
  ·by_cases h2:((dy m).length:Int)<z
   ·exact modCut_o hg h hn hw z nm hm (.inr (.inl h2))
   ·by_cases h3:(50:Int)<nm.length
    ·exact modCut_o hg h hn hw z nm hm (.inr (.inr h3))
    ·obtain⟨k,rfl⟩:=Int.eq_ofNat_of_zero_le (show 0≤z by omega)
     exact modCut_a hg h hn hw k nm hm (by omega) (by omega)
namespace lawCt
open Go.ChangeShapes Go.WideShapes Go.ChangeAt Go.RowKit
theorem RO:(laidOutB Tryz.pinned.checked.prog)=true:=by kernel_rfl
theorem RW:((Rows.moduleCutUptoRow.inPlace==Tryz.pinned.checked.prog.inPlace 4))=true:=by kernel_rfl
theorem O9:((Rows.moduleCutUptoRow.unfollowed==Tryz.pinned.checked.prog.unfollowed 4))=true:=by kernel_rfl
end lawCt
namespace lawCt
open Go.ChangeShapes Go.WideShapes Go.ChangeAt Go.RowKit
theorem Nm:((Rows.moduleCutUptoRow.recurses==Tryz.pinned.checked.prog.recurses 4))=true:=by kernel_rfl
theorem Nx:((Rows.moduleCutUptoRow.named==Tryz.pinned.checked.prog.varsNamed 4))=true:=by kernel_rfl
theorem RE:(mapsRowed Tryz.pinned.checked.prog)=true:=by kernel_rfl
theorem Od:((Rows.moduleCutUptoRow.plainKeys==Tryz.pinned.checked.prog.plainKeys))=true:=by kernel_rfl
theorem N4:(Tryz.pinned.checked.prog.stopsHeard)=true:=by kernel_rfl
theorem Mg:(Tryz.pinned.checked.prog.mayEnter)=true:=by kernel_rfl
theorem R2:(Rows.moduleCutUptoRow.wf (OpenSpec.ofChange (Rows.OpenSpec.upto Rows.moduleCutSpec).bare))=true:=by kernel_rfl
theorem RA:(Tryz.f4.params.all (Tryz.pinned.checked.prog.readableRec ·))=true:=by kernel_rfl
theorem RU:(namedTie Tryz.pinned.checked.prog Rows.moduleCutUptoRow.named (Rows.OpenSpec.upto Rows.moduleCutSpec).bare.vars)=true:=by kernel_rfl
theorem RL:((Rows.moduleCutUptoRow.stops== []))=true:=by kernel_rfl
theorem RM:((Tryz.pinned.checked.prog.stops== []))=true:=by kernel_rfl
theorem RR:((Rows.moduleCutUptoRow.knobs== []))=true:=by kernel_rfl
theorem RH:((Tryz.pinned.checked.prog.stopKnobs== []))=true:=by kernel_rfl
theorem M5:((Rows.moduleCutUptoRow.maps==(Tryz.f4.params.toList++(Rows.OpenSpec.upto Rows.moduleCutSpec).bare.plain.varTypes Tryz.pinned.checked.prog).any (Tryz.pinned.checked.prog.mapsRec ·)))=true:=by kernel_rfl
theorem O3:((Rows.moduleCutUptoRow.ifaces==(Tryz.f4.params.toList++(Rows.OpenSpec.upto Rows.moduleCutSpec).bare.plain.varTypes Tryz.pinned.checked.prog).any (Tryz.pinned.checked.prog.ifacesRec ·)))=true:=by kernel_rfl
theorem Pq:((Rows.moduleCutUptoRow.mapsOut==Tryz.pinned.checked.prog.mapsAmong Tryz.f4.resultTypes.toList))=true:=by kernel_rfl
theorem Mr:((Rows.moduleCutUptoRow.loops==(Tryz.f4.params.toList++(Rows.OpenSpec.upto Rows.moduleCutSpec).bare.plain.varTypes Tryz.pinned.checked.prog).any (Tryz.pinned.checked.prog.loopsFrom ·)))=true:=by kernel_rfl
theorem OS:((Rows.moduleCutUptoRow.wideKeys==(Tryz.f4.params.toList++(Rows.OpenSpec.upto Rows.moduleCutSpec).bare.plain.varTypes Tryz.pinned.checked.prog++Tryz.f4.resultTypes.toList).any (Tryz.pinned.checked.prog.wideKeysFrom ·)))=true:=by kernel_rfl
theorem NS:((Rows.OpenSpec.upto Rows.moduleCutSpec).bare.vars.all (Tryz.pinned.checked.prog.varReadable ·))=true:=by kernel_rfl
theorem L3:(Tryz.f4.resultTypes.all (fun t=>Tryz.pinned.checked.prog.readableRec t&&decide (t<Tryz.pinned.checked.prog.types.size)))=true:=by kernel_rfl
theorem Ow:((Rows.moduleCutUptoRow.ifacesOut==Tryz.f4.resultTypes.toList.any (Tryz.pinned.checked.prog.ifacesRec ·)))=true:=by kernel_rfl
theorem NF:((Rows.moduleCutUptoRow.loopsOut==Tryz.f4.resultTypes.toList.any (Tryz.pinned.checked.prog.loopsFrom ·)))=true:=by kernel_rfl
theorem Mb:(Rows.moduleCutUptoRow.shortTexts.isNone)=true:=by kernel_rfl
theorem Ln:((Rows.moduleCutUptoRow.lifted==Tryz.pinned.checked.prog.liftsFinal))=true:=by kernel_rfl
theorem Mx:((Tryz.pinned.checked.prog.make==some Rows.moduleCutUptoRow.make))=true:=by kernel_rfl
theorem Ml:((Rows.moduleCutUptoRow.kinds==(if Rows.moduleCutUptoRow.domain.isEmpty then []else Tryz.f4.params.toList.map fun t=>match Tryz.pinned.checked.prog.underlying t with|some (.int k)=>some k| _=>none)))=true:=by kernel_rfl
theorem MO:((Rows.moduleCutUptoRow.pinned==Rows.moduleCutUptoRow.pinnedBy))=true:=by kernel_rfl
theorem Nw:((Rows.moduleCutUptoRow.veiled==(Tryz.f4.params.toList++(Rows.OpenSpec.upto Rows.moduleCutSpec).bare.plain.varTypes Tryz.pinned.checked.prog++Tryz.f4.resultTypes.toList).any (Tryz.pinned.checked.prog.veiledRec ·)))=true:=by kernel_rfl
theorem Ps:(Rows.moduleCutUptoRow.veiledFits Tryz.pinned.checked.prog Tryz.f4.params.toList (Tryz.f4.params.toList++(Rows.OpenSpec.upto Rows.moduleCutSpec).bare.plain.varTypes Tryz.pinned.checked.prog++Tryz.f4.resultTypes.toList))=true:=by kernel_rfl
end lawCt
namespace lawCt
open Go.ChangeShapes Go.WideShapes Go.ChangeAt Go.RowKit Go.Proofs.YtpdlmdlkecnpgaaGreatDoor
theorem pars:Tryz.f4.params.toList= [33,3,9]:=by rw[Tryz.params4]
set_option maxRecDepth 100000 in
theorem pars_ok:∀t,t∈Tryz.f4.params.toList→Tryz.prog.readableRec t=true∧t<Tryz.prog.types.size:=by
 rw[pars]
 intro t ht
 simp only[List.mem_cons,List.not_mem_nil,or_false]at ht
 rcases ht with rfl|rfl|rfl<;>exact⟨by kernel_rfl,of_decide_eq_true (by kernel_rfl)⟩
set_option maxRecDepth 100000 in
theorem contract (H:Type) (enc:TypeId×Value→H) (W:World) (base:Nat) (args:Array Value) (ds gs:List (DataW H)) (before:List MemPlace)
 (hval:∀(j:Nat) t v,Tryz.f4.params[j]? =some t→args[j]? =some v→Value.okWide Tryz.prog W .any base t v)
 (hW:DataW.Whole enc Tryz.prog Tryz.f4.params.toList Rows.moduleCutSpec.vars false W args.toList ds gs before) (hk:Rows.uptoSmall H (ds++gs)=true) (hL:laidMetH Tryz.prog Rows.moduleCutUptoRow.laid W):
 Calls Tryz.prog 4 args W fun e W'=>∃v,e= .returned v∧Rows.moduleCutSpec.post enc Tryz.prog Tryz.f4 false true false false W args v W':=by
 have hW':=hW
 obtain⟨p,q,hA0,hV,rfl,hfz,hnd⟩:=hW
 have hA:DataW.TrodAll enc Tryz.prog W 0 (fun _=>true) true Tryz.f4.params.toList args.toList ds p:=hA0
 rw[Tryz.params4]at hA hval
 obtain⟨v0,v1,v2,d0,d1,d2,p0,p1,p2,rfl,rfl,rfl,h0,h1,h2⟩:=trodAll_three hA
 obtain⟨c0,e0,_⟩:=okWide_struct Tryz.underlying33 (hval 0 33 v0 rfl rfl)
 subst e0
 obtain⟨fuel0,hf0⟩:=h0
 obtain⟨m0,M0,Q0,W0⟩:=GA _ _ _ hf0
 have M0:cI c0.toList m0 W:=M0
 have W0:ip m0≤Rows.uptoBulk d0:=W0
 obtain⟨n1,rfl,rfl,rfl,w1⟩:=open_int Tryz.underlying3 (hval 1 3 v1 rfl rfl) h1
 obtain⟨s2,rfl,rfl,rfl,l2⟩:=Go.ChangeMaps.open_string Tryz.underlying9 (hval 2 9 v2 rfl rfl) h2
 have gl:=ui hL
 have hb:=of_decide_eq_true hk
 simp only[List.cons_append,List.nil_append,Rows.uptoBulkAll]at hb
 refine(modCut_any gl (c:=c0.toList) M0 Q0 (by omega) n1 s2.data.toList).mono fun e W' ⟨he,hg⟩=> ?_
 subst he
 exact⟨_,rfl,BO hW' rfl (by kernel_rfl) pars_ok rfl hg⟩
theorem laid_met (os:Os):laidMet Tryz.prog Rows.moduleCutUptoRow.laid ((jH os).forCall (fun _ _=>0) ⟨#[],#[.agg #[.slice none 0 0,.slice none 0 0,.slice none 0 0,.slice none 0 0,.slice none 0 0,.slice none 0 0,.slice none 0 0,.slice none 0 0,.int .i64 0,.slice none 0 0,.slice none 0 0],.int .i64 0,.string ⟨#[]⟩],[]⟩).memory:=
 laidMet_of_run' 8 (by kernel_rfl) (by kernel_rfl)
theorem reads (os:Os) {H:Type} (enc:TypeId×Value→H):∃places,DataW.whole enc Tryz.prog ((jH os).forCall (fun _ _=>0) ⟨#[],#[.agg #[.slice none 0 0,.slice none 0 0,.slice none 0 0,.slice none 0 0,.slice none 0 0,.slice none 0 0,.slice none 0 0,.slice none 0 0,.int .i64 0,.slice none 0 0,.slice none 0 0],.int .i64 0,.string ⟨#[]⟩],[]⟩).memory Tryz.f4.params.toList Rows.moduleCutSpec.vars false #[Value.agg #[.slice none 0 0,.slice none 0 0,.slice none 0 0,.slice none 0 0,.slice none 0 0,.slice none 0 0,.slice none 0 0,.slice none 0 0,.int .i64 0,.slice none 0 0,.slice none 0 0],Value.int .i64 0,Value.string ⟨#[]⟩].toList 8=some ([.agg [.nil,.nil,.nil,.nil,.nil,.nil,.nil,.nil,.lit (.int .i64 0),.nil,.nil],.lit (.int .i64 0),.lit (.string [])],[],places):=
 ⟨[],by kernel_rfl⟩
set_option maxRecDepth 100000 in
theorem lifted (os:Os) (started:os.Started) (H:Type) (enc:TypeId×Value→H) (F:Stop.Interp):
 ReturnsInHanded {} Tryz.checked os 4 .any ((Rows.OpenSpec.upto Rows.moduleCutSpec).preRow enc Tryz.prog Tryz.f4 Rows.moduleCutUptoRow.domain false Rows.moduleCutUptoRow.laid) (((Rows.OpenSpec.upto Rows.moduleCutSpec).at F).post enc Tryz.prog Tryz.f4 false true false false):=by
 obtain⟨places,hx⟩:=reads os enc
 refine returnsInHanded_of_row (C:=Tryz.checked) (s:=(Rows.OpenSpec.upto Rows.moduleCutSpec)) own started (by kernel_rfl) Tryz.func4
  (witness_row_at (enc:=enc) (C:=Tryz.checked) false (jH os) #[.agg #[.slice none 0 0,.slice none 0 0,.slice none 0 0,.slice none 0 0,.slice none 0 0,.slice none 0 0,.slice none 0 0,.slice none 0 0,.int .i64 0,.slice none 0 0,.slice none 0 0],.int .i64 0,.string ⟨#[]⟩] rfl (by kernel_rfl) (by kernel_rfl) (by kernel_rfl)
   (OpenSpec.preRow_of_cond 8 hx (by kernel_rfl) (fun k hk=>by cases hk;kernel_rfl) (by kernel_rfl) (laid_met os))) ?_
 intro W base args ds gs before hval hW _ hcond _ hL _ _
 exact contract H enc W base args ds gs before hval hW (hcond _ rfl) hL
theorem said_named:Tryz.pinned.checked.prog.funcNamed Rows.moduleCutUptoRow.func=some 4:=by kernel_rfl
theorem said_facts:joinedFacts Tryz.pinned.checked.prog 4 Tryz.f4 (Rows.OpenSpec.upto Rows.moduleCutSpec).bare Rows.moduleCutUptoRow=true:=by
 unfold joinedFacts
 simp only[R2,RO,RE,RA,RU,RL,RM,RR,RH,RW,O9,Nm,Nx,M5,O3,Pq,Mr,OS,NS,L3,Ow,NF,Od,Mb,N4,Mg,Ln,Mx,Ml,MO,Nw,Ps,Bool.and_self,Bool.true_and,Bool.and_true]
 kernel_rfl
theorem said_inst:Tryz.f4.isInstance Tryz.pinned.checked.prog Rows.moduleCutUptoRow.origin Rows.moduleCutUptoRow.targs:=of_decide_eq_true (by kernel_rfl)
theorem said_wrap:Tryz.f4.isWrapper Tryz.pinned.checked.prog Rows.moduleCutUptoRow.wrapper Rows.moduleCutUptoRow.mainSum:=by unfold Func.isWrapper;first|(rw[if_pos (by decide+kernel)];kernel_rfl)|(rw[if_neg (by decide+kernel)];exact⟨rfl,rfl⟩)
theorem said:Rows.ModuleCutUptoSaid:=
 OpenClaim.holds_of_cond 4 Tryz.f4 rfl rfl rfl rfl rfl rfl rfl ⟨rfl,rfl,rfl,rfl,rfl⟩ rfl rfl rfl rfl rfl said_named Tryz.func4 said_facts
  said_inst said_wrap
  (fun os started H enc _ F=>by rw[OpenClaim.pre_eq_preRow];exact lifted os started H enc F)
theorem plain (f:FuncId) (fn:Func) (hf:Tryz.pinned.checked.prog.funcNamed "geode/geodelaw08.ModuleCut" =some f) (hfn:Tryz.pinned.checked.prog.funcs[f]? =some fn):
 false=Tryz.pinned.checked.prog.looks []∧∀(j:Nat) t,fn.params[j]? =some t→Tryz.pinned.checked.prog.wantsStandIn t=false:=by
 obtain rfl:f=4:=Option.some.inj ((show Tryz.prog.funcNamed "geode/geodelaw08.ModuleCut" =some 4 by kernel_rfl).symm.trans hf)|>.symm
 obtain rfl:fn=Tryz.f4:=(Option.some.inj (Tryz.func4.symm.trans hfn)).symm
 refine⟨by kernel_rfl,fun j t ht=> ?_⟩
 rw[Tryz.params4]at ht
 have hm:=Array.mem_of_getElem? ht
 simp only[List.mem_toArray,List.mem_cons,List.not_mem_nil,or_false]at hm
 rcases hm with rfl|rfl|rfl
 ·exact(show Tryz.prog.wantsStandIn 33=false by kernel_rfl)
 ·exact(show Tryz.prog.wantsStandIn 3=false by kernel_rfl)
 ·exact(show Tryz.prog.wantsStandIn 9=false by kernel_rfl)
theorem card:Rows.ModuleCutUptoCardSaid:=
 Claim7.holds_tied_plain_at .later [] _ _ _ _ said (fun _ h=>by cases h) (by kernel_rfl) (fun _ h=>by cases h) moduleCutUpto_row_tie rfl ⟨rfl,rfl⟩ (by kernel_rfl) rfl plain (by kernel_rfl)
end lawCt
theorem moduleCutUpto_card:Rows.ModuleCutUptoCardSaid:=lawCt.card
#print axioms moduleCutUpto_card
end Go.Proofs.YtpdlmdlkecnpgaaGreatDoor
