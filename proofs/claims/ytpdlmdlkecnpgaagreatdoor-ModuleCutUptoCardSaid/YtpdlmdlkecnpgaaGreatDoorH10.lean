/- Texts: IbBl IbVal IbinL5 ModP NameL. -/
import Derived.Test.YtpdlmdlkecnpgaaGreatDoorH0
import Derived.Test.YtpdlmdlkecnpgaaGreatDoorH8
import Derived.Test.YtpdlmdlkecnpgaaGreatDoorH5
import Derived.Test.YtpdlmdlkecnpgaaGreatDoorH4
import Derived.Test.YtpdlmdlkecnpgaaGreatDoorH7
import Derived.Lib.DecodeN
import Derived.Lib.Strings
set_option linter.unusedSimpArgs false
set_option linter.unusedVariables false
namespace Go.Proofs.YtpdlmdlkecnpgaaGreatDoor
open Go.RowKit
theorem bB.sl1 {S:List Nat} {w:World} {g:Nat} {u:Value} {T:TypeId} (hl:bB w g [u] T) (hu:u.oneCell'=true) (hn:g∉S):Sl S w 1 (.slice (some ⟨g,0,none⟩) 1 1) 1 [u]:=
 ⟨rfl,by simpa using hu,some ⟨g,0,none⟩,1,rfl,Nat.le_refl _,by decide,(fun h=>by cases h),.inr ⟨g,0,rfl,hn,hl.lt,fun j hj=>by
  obtain rfl:j=0:=by omega
  simpa using hl.cell 0⟩⟩
theorem dj.gl0 {S:List Nat} {w0 w:World} {rb:Nat} {bv:Value} {bs:List UInt8} {s:ax} {G:List bt} (h:dj S w0 w rb bv bs s G):Gl [] w:=h.rd.gl.sub (by simp)
def Ou (b:bJ):Value:= .agg #[.int .i64 b.kind,.int .i64 b.val.kind,.bool b.val.null,.int .i64 b.val.heap.kind,.int .i64 b.val.heap.n,.int .i64 b.n]
attribute [go_sem] Ou
set_option maxRecDepth 100000
set_option maxHeartbeats 1600000
theorem wR {S w rb bv bs s} (h:Rd S w rb bv bs s):Calls Tryz.prog 279 #[.pointer (some ⟨rb,0,none⟩)] w fun e w'=>e= .returned (Ou (dT bs s).1)∧Rd S w' rb bv bs (dT bs s).2∧Fr [rb] w w':=by
 have hS:=dj.start h
 have hle:=h.le
 have hsm:=h.small
 by_cases h1:(rS bs 33 s).2.err=0
 ·have q1:((rS bs 33 s).2.err !=0)=false:=by simp[h1]
  by_cases h2:0≤(rS bs 33 s).1
  ·have e0:dT bs s=(⟨2,aF.zero,(rS bs 33 s).1⟩,(rS bs 33 s).2):=by unfold dT;rw[if_neg (by omega),if_pos h2]
   rw[e0]
   clear e0 h1
   exact y2
  ·by_cases h3:1< (rS bs 33 s).2.at_-s.at_
   ·have e0:dT bs s=(bJ.zero,(rS bs 33 s).2.fail 60 s.at_):=by unfold dT;rw[if_neg (by omega),if_neg h2,if_pos h3]
    rw[e0]
    have i3:(1:Int)< ((rS bs 33 s).2.at_:Nat)-(s.at_:Nat):=by omega
    clear e0 h1 h3
    exact y2
   ·have e0:dT bs s=iU bs (iH (rS bs 33 s).1) s.at_ (rS bs 33 s).2:=by unfold dT;rw[if_neg (by omega),if_neg h2,if_neg h3]
    rw[e0]
    have i3:¬(1:Int)< ((rS bs 33 s).2.at_:Nat)-(s.at_:Nat):=by omega
    have hc:bits BinOp.and IntKind.i64 (rS bs 33 s).1 127% 256=((iH (rS bs 33 s).1:Nat):Int):=by rw[i64_and127];unfold iH;omega
    have hlow:iH (rS bs 33 s).1<128:=by unfold iH;omega
    have hB:Hid (B (UInt8.ofNat (iH (rS bs 33 s).1))= .int .u8 (iH (rS bs 33 s).1:Nat)):=by
     refine Lib.hid ?_
     unfold B
     rw[UInt8.toNat_ofNat_of_lt' (by show iH (rS bs 33 s).1<256;omega)]
    unfold iU
    clear e0 h1 h3
    by_cases h4:iH (rS bs 33 s).1=64
    ·rw[if_pos h4]
     have q4:(((iH (rS bs 33 s).1:Nat):Int)==64)=true:=by simp;omega
     clear h4
     exact y2
    ·rw[if_neg h4]
     have q4:(((iH (rS bs 33 s).1:Nat):Int)==64)=false:=by simp;omega
     clear h4
     by_cases h5:(bw [UInt8.ofNat (iH (rS bs 33 s).1)] ah).2.err=0
     ·rw[if_pos h5]
      have q5:((bw [UInt8.ofNat (iH (rS bs 33 s).1)] ah).2.err==0)=true:=by simp[h5]
      clear h5
      exact y2
     ·rw[if_neg h5]
      have q5:((bw [UInt8.ofNat (iH (rS bs 33 s).1)] ah).2.err==0)=false:=by simp[h5]
      clear h5
      by_cases h6:(bw [UInt8.ofNat (iH (rS bs 33 s).1)] ah).2.err=10
      ·rw[if_pos h6]
       have q6:((bw [UInt8.ofNat (iH (rS bs 33 s).1)] ah).2.err==10)=true:=by simp[h6]
       have q7:(((iH (rS bs 33 s).1:Nat):Int)==99)=(iH (rS bs 33 s).1==99):=by rw[Bool.eq_iff_iff];simp;omega
       clear h6
       exact y2
      ·rw[if_neg h6]
       have q6:((bw [UInt8.ofNat (iH (rS bs 33 s).1)] ah).2.err==10)=false:=by simp[h6]
       clear h6
       exact y2
 ·have q1:((rS bs 33 s).2.err !=0)=true:=by simp[h1]
  have e0:dT bs s=(bJ.zero,(rS bs 33 s).2):=by unfold dT;rw[if_pos h1]
  rw[e0]
  clear e0 h1
  exact y2
theorem KY {S w rb bv bs s} (h:Rd S w rb bv bs s):
 Calls Tryz.prog 284 #[.pointer (some ⟨rb,0,none⟩),.func (.func 254) #[.pointer (some ⟨rb,0,none⟩)] #[]] w fun e w'=>
  ∃v,e= .returned v∧bf [] w' 61 4 v (bX bs (bw bs) s).1.length ((bX bs (bw bs) s).1.flatMap cj)∧jS w v∧Rd S w' rb bv bs (bX bs (bw bs) s).2∧Fr [rb] w w':=by
 have hrb:=h.loc.lt
 have hsm:=h.small
 have hN:=cn bs s
 have hl:bX bs (bw bs) s=((av (bw bs) (af bs s).1 (af bs s).2).2.told [] (av (bw bs) (af bs s).1 (af bs s).2).1,(av (bw bs) (af bs s).1 (af bs s).2).2):=rfl
 rw[hl]
 clear hl
 go_enter Tryz.func284,Tryz.ntmps284
 go_wp2_with (go_at_call 199;refine(cZ h).mono ?_;rintro e w1 ⟨rfl,hR1,hF1⟩)
 go_loopw [5,6] (fun v n wr=>∃(k:Nat) (xs:List aF) (t:ax),n= .int .i64 k∧bf [] wr 61 4 v xs.length (xs.flatMap cj)∧jS w v∧Rd S wr rb bv bs t∧Fr [rb] w wr∧k+xs.length=(af bs s).1∧Hid (av (bw bs) (af bs s).1 (af bs s).2=(xs++(av (bw bs) k t).1,(av (bw bs) k t).2))) (fun _ n _=>(intOf n).toNat)
 case atStart=>exact⟨(af bs s).1,[],_,rfl,bf.nil _ _ _ _,jS.nil _,hR1,hF1,by simp,Lib.hid rfl⟩
 case round=>
  obtain⟨k,xs,t,rfl,hown,hnew,hR,hF,hks,hg⟩:=hrel
  have Hks:=Lib.hid hks
  have hbnd:xs.length+1≤1099511627776∨k=0:=by omega
  clear hks
  have hexit:(k=0∨t.err≠0)→av (bw bs) (af bs s).1 (af bs s).2=(xs,t):=by
   exact Tz
  by_cases hk:k=0
  ·have hE:=Lib.hid (hexit (.inl hk))
   subst hk
   clear hexit hbnd
   by_cases he:t.err=0
   ·have g1:(t.err==0)=true:=by simp[he]
    go_wp2_with first|(go_at_call 291;refine(pN hR _).mono ?_;rintro e w' ⟨rfl,rfl⟩)|(go_at_call 228;refine(be hR).mono ?_;rintro e w' ⟨rfl,rfl⟩)
    go_ret
    refine⟨_,rfl,?_,?_,by rw[hE.out];exact hR,hF⟩
    ·rw[hE.out]
     simp only[ax.told,if_pos he]
     exact hown
    ·exact hnew
   ·have g1:(t.err==0)=false:=by simp[he]
    exact XF
  ·by_cases he:t.err=0
   ·exact XC
   ·have g1:(t.err==0)=false:=by simp[he]
    have hE:=Lib.hid (hexit (.inr he))
    have hkp:0<k:=by omega
    clear hexit hbnd
    exact XF
theorem M3 {S w rb bv bs s} (h:Rd S w rb bv bs s):
 Calls Tryz.prog 267 #[.pointer (some ⟨rb,0,none⟩)] w fun e w'=>∃v,e= .returned v∧dj S w w' rb bv bs (eT bs s).2 [.own 61 4 v (eT bs s).1.length ((eT bs s).1.flatMap cj)]:=by
 have hmf:∀(fn:Fn) (first cap:Array Value) (w:World),(Instr.makeFunc fn first cap).run Tryz.prog w= .ok (.func fn first cap) w:=fun _ _ _ _=>rfl
 go_enter Tryz.func267,Tryz.ntmps267
 go_wp2_with (go_at_call 284;refine(KY h).mono ?_;rintro e w2 ⟨v2,rfl,hO2,hN2,hR2,hF2⟩)
 go_ret
 refine⟨v2,rfl,⟨⟨hF2,?_,?_,List.pairwise_singleton _ _⟩,⟨s,h⟩,hR2.loc,hR2.le⟩⟩
 ·intro r hr
  obtain rfl:=List.mem_singleton.1 hr
  exact hO2
 ·intro r hr b hb
  obtain rfl:=List.mem_singleton.1 hr
  exact hN2 b hb
def wO (i:aa):Prop:=lJ i 4294967295
theorem lJ.small {i:aa} {k:Nat} (h:lJ i k) (hk:k≤4294967295):wO i:=⟨h.1,Nat.le_trans h.2.1 hk,Nat.le_trans h.2.2.1 hk,Nat.le_trans h.2.2.2 hk⟩
theorem aQ {i:aa} {b:Bool} {j:aa} (hm:dx i=true) (hp:cu i=(b,j)):b=true∧j=aa.of i.op:=by
 rw[iJ (cU hm) hp,Bool.and_eq_true,decide_eq_true_eq]at hm
 exact hm
theorem Xs {i:aa} (hj:({i with x:=0,y:=0}:aa)=aa.of i.op):i={aa.of i.op with x:=i.x,y:=i.y}:=by(obtain⟨op,x,y,u,a,b,c,d,e,f,g,j⟩:=i;simp only[aa.of,aa.mk.injEq]at hj⊢;simp[hj])
theorem Xb {i:aa} (hj:({i with x:=0,labels:= []}:aa)=aa.of i.op):i={aa.of i.op with labels:=i.labels,x:=i.x}:=by(obtain⟨op,x,y,u,a,b,c,d,e,f,g,j⟩:=i;simp only[aa.of,aa.mk.injEq]at hj⊢;simp[hj])
theorem Xo {i:aa} (hj:({i with x:=0,y:=0,u:=0}:aa)=aa.of i.op):i={aa.of i.op with x:=i.x,y:=i.y,u:=i.u}:=by(obtain⟨op,x,y,u,a,b,c,d,e,f,g,j⟩:=i;simp only[aa.of,aa.mk.injEq]at hj⊢;simp[hj])
theorem Uy {i:aa} (hj:({i with u:=0}:aa)=aa.of i.op):i={aa.of i.op with u:=i.u}:=by(obtain⟨op,x,y,u,a,b,c,d,e,f,g,j⟩:=i;simp only[aa.of,aa.mk.injEq]at hj⊢;simp[hj])
theorem UA {i:aa} (hj:({i with heap:=aC.zero}:aa)=aa.of i.op):i={aa.of i.op with heap:=i.heap}:=by(obtain⟨op,x,y,u,a,b,c,d,e,f,g,j⟩:=i;simp only[aa.of,aa.mk.injEq]at hj⊢;simp[hj])
theorem UF {i:aa} (hj:({i with types:= []}:aa)=aa.of i.op):i={aa.of i.op with types:=i.types}:=by(obtain⟨op,x,y,u,a,b,c,d,e,f,g,j⟩:=i;simp only[aa.of,aa.mk.injEq]at hj⊢;simp[hj])
theorem Xw {i:aa} (hj:({i with block:=bJ.zero}:aa)=aa.of i.op):i={aa.of i.op with block:=i.block}:=by(obtain⟨op,x,y,u,a,b,c,d,e,f,g,j⟩:=i;simp only[aa.of,aa.mk.injEq]at hj⊢;simp[hj])
theorem WV {i:aa} (hj:({i with block:=bJ.zero,catches:= []}:aa)=aa.of i.op):i={aa.of i.op with block:=i.block,catches:=i.catches}:=by(obtain⟨op,x,y,u,a,b,c,d,e,f,g,j⟩:=i;simp only[aa.of,aa.mk.injEq]at hj⊢;simp[hj])
theorem WE {i:aa} (hj:({i with x:=0,null:=false,null2:=false,heap:=aC.zero,heap2:=aC.zero}:aa)=aa.of i.op):i={aa.of i.op with null:=i.null,null2:=i.null2,x:=i.x,heap:=i.heap,heap2:=i.heap2}:=by(obtain⟨op,x,y,u,a,b,c,d,e,f,g,j⟩:=i;simp only[aa.of,aa.mk.injEq]at hj⊢;simp[hj])
theorem RT.to {α:Type} {F:bb α} {b:List UInt8} {x y:α} (h:RT F b x) (e:y=x):RT F b y:=e▸h
theorem RT.bytes {α:Type} {F:bb α} {b b':List UInt8} {x:α} (h:RT F b x) (e:b'=b):RT F b' x:=e▸h
theorem xH {u:Nat} (h:u<4294967296): -2147483648≤j0 u∧j0 u<2147483648∧(j0 u% 4294967296).toNat=u:=by unfold j0;split<;>omega
theorem wx {u:Nat} (h:u<18446744073709551616): -9223372036854775808≤fC u∧fC u<9223372036854775808∧(fC u% 18446744073709551616).toNat=u:=by unfold fC;split<;>omega
theorem z9 (a b:Bool):(ke a b).toNat≤3∧((ke a b).toNat% 2==1)=a∧((ke a b).toNat/2% 2==1)=b:=by cases a<;>cases b<;>decide
theorem MZ {i:aa} (hm:dx i=true) (hs:wO i):RT (fw i.op) (aW i) i:=by
 obtain⟨u1,u2,u3,u4⟩:=hs
 rcases fL i.op with h|h|h|h|h|h|h|h|h|h|h|h
 ·rw[FG h,FC h]
  exact(RT.ret _).to (aQ hm (FD h)).2
 ·obtain⟨h1,h2⟩:=wc h hm
  rw[NG h,vz h]
  exact((dZ h1).map fun x=>({aa.of i.op with x:=x}:aa)).to h2
 ·obtain⟨h1,h2⟩:=aQ hm (x6 h)
  rw[Bool.and_eq_true]at h1
  rw[RF h,FI h]
  exact((dZ h1.1).bind (G:=fun _ x=>cM aD fun y=>({aa.of i.op with x:=x,y:=y}:aa)) fun _=>(dZ h1.2).map _).to (Xs h2)
 ·obtain⟨h1,h2⟩:=aQ hm (zd h)
  rw[Bool.and_eq_true]at h1
  rw[RJ h,A8 h]
  exact((kD i.labels (by omega) (fun x hx=>⟨dZ (List.all_eq_true.1 h1.2 x hx),j9 x⟩)).bind (G:=fun _ l=>cM aD fun x=>({aa.of i.op with labels:=l,x:=x}:aa)) fun _=>(dZ h1.1).map _).to (Xb h2)
 ·obtain⟨h1,h2⟩:=aQ hm (yF h)
  simp only[Bool.and_eq_true,decide_eq_true_eq]at h1
  rw[RX h,F6 h]
  exact((PV h1.1.1 h1.1.2 h1.2 u1).map fun p=>({aa.of i.op with x:=p.1,y:=p.2.1,u:=p.2.2}:aa)).to (Xo h2)
 ·obtain⟨h1,h2⟩:=aQ hm (ym h)
  rw[decide_eq_true_eq]at h1
  obtain⟨t1,t2,t3⟩:=xH h1
  rw[RK h,F3 h]
  have:=(Ca 32 (j0 i.u) (by decide) (by decide) (by omega) (by omega)).map fun n=>({aa.of i.op with u:=(n% 4294967296).toNat}:aa)
  rw[t3]at this
  exact this.to (Uy h2)
 ·obtain⟨h1,h2⟩:=aQ hm (zO h)
  obtain⟨t1,t2,t3⟩:=wx u1
  rw[Ll h,zB h]
  have:=(Ca 64 (fC i.u) (by decide) (by decide) (by omega) (by omega)).map fun n=>({aa.of i.op with u:=(n% 18446744073709551616).toNat}:aa)
  rw[t3]at this
  exact this.to (Uy h2)
 ·obtain⟨h1,h2⟩:=aQ hm (tj h)
  rw[pH]at h1
  rw[Lp h,A1 h,kN h1]
  exact((mY _ h1).map fun x=>({aa.of i.op with heap:=x}:aa)).to (UA h2)
 ·obtain⟨h1,h2⟩:=aQ hm (qU h)
  rw[N1 h,xu h,tr h1]
  exact((vF _ (by omega) h1).map fun x=>({aa.of i.op with types:=x}:aa)).to (UF h2)
 ·obtain⟨h1,h2⟩:=aQ hm (yt h)
  rw[RB h,GK h]
  exact((zj h1).map fun x=>({aa.of i.op with block:=x}:aa)).to (Xw h2)
 ·obtain⟨h1,h2⟩:=aQ hm (yC h)
  rw[Bool.and_eq_true]at h1
  rw[RD h,CE h]
  exact((zj h1.1).bind (G:=fun _ b=>cM (gM cP) fun l=>({aa.of i.op with block:=b,catches:=l}:aa)) fun _=>(kD i.catches (by omega) (fun x hx=>⟨IZ (List.all_eq_true.1 h1.2 x hx),qE x⟩)).map _).to (WV h2)
 ·obtain⟨h1,h2⟩:=aQ hm (tt h)
  simp only[Bool.and_eq_true,pH]at h1
  obtain⟨n1,n2,n3⟩:=z9 i.null i.null2
  rw[Nn h,AC h,kN h1.1.2,kN h1.2]
  refine RT.to (x:={aa.of i.op with null:=i.null,null2:=i.null2,x:=i.x,heap:=i.heap,heap2:=i.heap2}) ((vw 3 _ n1).bind (G:=fun _ c=>Rl i.op c) fun _=> ?_) (WE h2)
  refine(dZ h1.1.1).bind (G:=fun _ x=>Qf i.op _ x) fun _=> ?_
  refine(mY _ h1.1.2).bind (G:=fun _ a=>MK i.op _ _ a) fun _=> ?_
  have:=(mY _ h1.2).map fun b=>({aa.of i.op with null:=(ke i.null i.null2).toNat% 2==1,null2:=(ke i.null i.null2).toNat/2% 2==1,x:=i.x,heap:=i.heap,heap2:=b}:aa)
  rw[n2,n3]at this
  unfold MK
  rw[n2,n3]
  exact this
theorem uF (op:Int):ci (fw op):=by
 by_cases h:ag op=0
 ·rw[FG (by unfold oS;omega)]
  exact kT _
 ·exact(vj h).stuck
theorem rN:mH aY (aJ bA fun _ op=>fw op):=fun bs s=>by
 unfold aY aJ
 by_cases h:(bA bs s).2.err≠0
 ·rw[if_pos h]
  have:=uF (bA bs s).1 bs (bA bs s).2 h
  exact⟨this.symm,fun h2=>absurd (by rw[this]at h2;exact h2) h⟩
 ·rw[if_neg h]
  exact⟨rfl,fun _=>rfl⟩
def S8 (i:aa) (k:Nat):Prop:=dx i=true∧(de i).length≤k∧1≤k∧lJ i k
theorem j5:dL aY S8:=by
 refine dL.alike rN ((Ot.bind (G:=fun _ op=>fw op) (Q:=fun op i k=>VC op i k) (fun _ op=>uF op) (fun _ op k h=>vj h.1)).mono ?_)
 rintro i k ⟨op,k1,k2,rfl,⟨h1,h2,h3⟩,rfl,h4,h5,h6⟩
 refine⟨h4,?_,by omega,h6.1,?_,?_,?_⟩
 ·unfold de;rw[List.length_append];omega
 ·have:=h6.2.1;omega
 ·have:=h6.2.2.1;omega
 ·have:=h6.2.2.2;omega
theorem yi {i:aa} (hm:dx i=true) (hs:wO i):RT aY (de i) i:=
 RT.alike rN ((TL (cU hm)).bind (G:=fun _ op=>fw op) fun _=>MZ hm hs)
theorem Dm (i:aa):1≤(de i).length:=by
 unfold de
 rw[List.length_append]
 have:=FH i.op
 omega
theorem VX:dx (aa.of 11)=true:=by decide+kernel
theorem CP:de (aa.of 11)= [11]:=by decide+kernel
theorem ML (op:Int):wO (aa.of op):=mc _ rfl rfl rfl rfl
theorem yA:∀(l:List aa) (n:List Bool) (f:Nat),(∀i,i∈l→dx i=true∧wO i)→jZ n l=some []→l.length<f→∀(bs:List UInt8) (s:ax) (r:List UInt8),At bs s (l.flatMap de++ [11]++r)→
 dE bs f n s=(some l,s.adv (l.flatMap de++ [11]).length)
 | [],n,f+1,_,hn,_,bs,s,r,ha=>by
  have hn:n= []:=by simpa [jZ]using hn
  subst hn
  have h:=yi VX (ML 11) bs s r (by rw[CP];simpa using ha)
  rw[CP]at h
  unfold dE
  rw[h]
  simp[aa.of,ha.ok]
 |i::l,n,f+1,hm,hn,hf,bs,s,r,ha=>by
  have hi:=hm i (by simp)
  have h:=yi hi.1 hi.2 bs s (l.flatMap de++ [11]++r) (by simpa using ha)
  have ha2:At bs (s.adv (de i).length) (l.flatMap de++ [11]++r):=At.adv (by simpa using ha)
  unfold jZ at hn
  cases hst:kp n i.op with
  |none=>rw[hst]at hn;cases hn
  |some m=>
   rw[hst]at hn
   have ih:=yA l m f (fun j hj=>hm j (by simp[hj])) hn (by simpa using hf) bs _ r ha2
   have hne:¬(i.op=11∧n= []):=by
    rintro⟨h1,h2⟩
    rw[h1,h2]at hst
    simp[kp]at hst
   unfold dE
   rw[h]
   simp only[adv_err,ha.ok,hne,hst,ih]
   simp[dt,Nat.add_assoc]
theorem uD:∀(f:Nat) (bs:List UInt8) (n:List Bool) (s:ax),s.err=0→s.at_≤bs.length→bs.length<s.at_+f→(dE bs f n s).2.err=0→
 ∃l k,dE bs f n s=(some l,s.adv k)∧s.at_+k≤bs.length∧(∀i,i∈l→dx i=true∧lJ i k)∧jZ n l=some []∧(l.flatMap de).length+1≤k
 |0,bs,n,s,_,ha,hf,_=>by omega
 |f+1,bs,n,s,he,ha,hf,h=>by
  unfold dE at h⊢
  by_cases h1:(aY bs s).2.err≠0
  ·rw[if_pos h1]at h;exact absurd h h1
  ·have h1':(aY bs s).2.err=0:=Classical.byContradiction h1
   obtain⟨k1,e1,l1,p1,p2,p3,p4⟩:=j5.back bs s he ha h1'
   rw[if_neg h1]at h⊢
   by_cases h2:(aY bs s).1.op=11∧n= []
   ·rw[if_pos h2]at h⊢
    refine⟨[],k1,by rw[e1],l1,fun i hi=>(by cases hi),by rw[h2.2];rfl,by simpa using p3⟩
   ·rw[if_neg h2]at h⊢
    cases hst:kp n (aY bs s).1.op with
    |none=>
     rw[hst]at h
     simp only at h
     rw[eg h1' (by decide)]at h
     exact absurd h (by show(60:Int)≠0;decide)
    |some m=>
     rw[hst]at h
     simp only at h⊢
     obtain⟨l,k2,e2,l2,q1,q2,q3⟩:=uD f bs m (aY bs s).2 h1' (by rw[e1];exact l1) (by rw[e1];simp;omega) h
     rw[e2]
     refine⟨(aY bs s).1::l,k1+k2,?_,?_,?_,?_,?_⟩
     ·rw[e1,dt];rfl
     ·rw[e1]at l2;simp at l2;omega
     ·intro i hi
      rcases List.mem_cons.1 hi with rfl|hi
      ·exact⟨p1,p4.1,Nat.le_trans p4.2.1 (Nat.le_add_right _ _),Nat.le_trans p4.2.2.1 (Nat.le_add_right _ _),Nat.le_trans p4.2.2.2 (Nat.le_add_right _ _)⟩
      ·obtain⟨a,b⟩:=q1 i hi
       exact⟨a,b.1,Nat.le_trans b.2.1 (Nat.le_add_left _ _),Nat.le_trans b.2.2.1 (Nat.le_add_left _ _),Nat.le_trans b.2.2.2 (Nat.le_add_left _ _)⟩
     ·unfold jZ
      rw[hst]
      exact q2
     ·rw[List.flatMap_cons,List.length_append];omega
theorem Mc (l:List aa):l.length≤(l.flatMap de).length:=fZ de l fun i _=>Dm i
structure eA where
 wide:Bool
 min:Nat
 max:Nat
 hasMax:Bool
deriving DecidableEq,Inhabited
structure dJ where
 elem:aF
 lim:eA
deriving DecidableEq,Inhabited
structure dW where
 val:aF
 mut_:Bool
deriving DecidableEq,Inhabited
structure i9 where
 kind:Int
 n:Int
 table:dJ
 mem:eA
 global:dW
deriving DecidableEq,Inhabited
structure jp where
 modu:List UInt8
 name:List UInt8
 what:i9
deriving DecidableEq,Inhabited
structure fN where
 n:Int
 val:aF
deriving DecidableEq,Inhabited
structure dh where
 type:Int
 locals:List fN
 body:List aa
deriving DecidableEq,Inhabited
structure lO where
 type:dJ
 hasInit:Bool
 init:List aa
deriving DecidableEq,Inhabited
structure mD where
 type:dW
 init:List aa
deriving DecidableEq,Inhabited
structure kB where
 name:List UInt8
 kind:Int
 n:Int
deriving DecidableEq,Inhabited
structure eb where
 type:aF
 inits:List (List aa)
 mode:Int
 table:Int
 offset:List aa
deriving DecidableEq,Inhabited
structure jG where
 mode:Int
 mem:Int
 offset:List aa
 bytes:List UInt8
deriving DecidableEq,Inhabited
structure aV where
 types:List (List bu)
 imports:List jp
 funcs:List dh
 tables:List lO
 mems:List eA
 tags:List Int
 globals:List mD
 exports:List kB
 start:Int
 elems:List eb
 datas:List jG
deriving DecidableEq,Inhabited
def eA.zero:eA:=⟨false,0,0,false⟩
def dJ.zero:dJ:=⟨aF.zero,eA.zero⟩
def dW.zero:dW:=⟨aF.zero,false⟩
def aV.none:aV:=⟨[],[],[],[],[],[],[],[],-1,[],[]⟩
def jc (s:List UInt8):Nat:=
 match s with
 | []=>0
 |a::r=>
  if a<128 then 1
  else match r with
   | []=>0
   |b::r=>
    if 194≤a∧a≤223∧128≤b∧b≤191 then 2
    else match r with
     | []=>0
     |c::r=>
      if (a=224∧160≤b∧b≤191∨225≤a∧a≤239∧a≠237∧128≤b∧b≤191∨a=237∧128≤b∧b≤159)∧128≤c∧c≤191 then 3
      else match r with
       | []=>0
       |d:: _=>
        if (a=240∧144≤b∧b≤191∨241≤a∧a≤243∧128≤b∧b≤191∨a=244∧128≤b∧b≤143)∧128≤c∧c≤191∧128≤d∧d≤191 then 4
        else 0
def um:Nat→List UInt8→Bool
 | _,[]=>true
 |0,_:: _=>true
 |f+1,a::r=>if jc (a::r)=0 then false else um f ((a::r).drop (jc (a::r)))
def iY (s:List UInt8):Bool:=um s.length s
def dS (bs:List UInt8) (at_:Nat):List UInt8×Nat×Nat:=
 if (ak bs at_ 32 false).2.2≠0 then([],0,(ak bs at_ 32 false).2.2)
 else if bs.length-(ak bs at_ 32 false).2.1< (ak bs at_ 32 false).1 then([],0,10)
 else if iY ((bs.drop (ak bs at_ 32 false).2.1).take (ak bs at_ 32 false).1)then
  ((bs.drop (ak bs at_ 32 false).2.1).take (ak bs at_ 32 false).1,(ak bs at_ 32 false).2.1+(ak bs at_ 32 false).1,0)
 else([],0,20)
def cC (bs:List UInt8) (s:ax):List UInt8×ax:=
 if s.err=0 then
  if (dS bs s.at_).2.2=0 then((dS bs s.at_).1,{s with at_:=(dS bs s.at_).2.1})
  else([],s.fail (dS bs s.at_).2.2 s.at_)
 else([],s)
def dD (n:Nat) (bs:List UInt8) (s:ax):List UInt8×ax:=
 if s.err=0 then
  if bs.length-s.at_<n then([],s.fail 10 s.at_)else((bs.drop s.at_).take n,{s with at_:=s.at_+n})
 else([],s)
def dA (bits most c:Nat):Bool:=decide (Nat.land c (255-bits)≠0)||decide (most<c)
def bm (bits most:Nat) (bs:List UInt8) (s:ax):Nat×ax:=
 if dA bits most (ai bs s).1 then(0,(ai bs s).2.fail 60 s.at_)else ai bs s
def gA (c:Nat):Bool:=c% 2==1
def js (c:Nat):Bool:=c/2% 2==1
def Cq (c:Nat):Bool:=c/4% 2==1
def rp (bs:List UInt8) (has:Bool) (s:ax):Nat×ax:=if has then rU bs 64 s else(0,s)
def jr (bs:List UInt8) (s:ax):eA×ax:=
 (⟨Cq (bm 5 5 bs s).1,(rU bs 64 (bm 5 5 bs s).2).1,(rp bs (gA (bm 5 5 bs s).1) (rU bs 64 (bm 5 5 bs s).2).2).1,gA (bm 5 5 bs s).1⟩,
   (rp bs (gA (bm 5 5 bs s).1) (rU bs 64 (bm 5 5 bs s).2).2).2)
def sN (bs:List UInt8) (s:ax):aF×ax:=((bw bs s).1,if (bw bs s).1.kind=3 then(bw bs s).2 else(bw bs s).2.fail 60 s.at_)
def jJ (bs:List UInt8) (s:ax):dJ×ax:=(⟨(sN bs s).1,(jr bs (sN bs s).2).1⟩,(jr bs (sN bs s).2).2)
def jx (bs:List UInt8) (s:ax):dW×ax:=(⟨(bw bs s).1,(bm 1 1 bs (bw bs s).2).1 !=0⟩,(bm 1 1 bs (bw bs s).2).2)
def kU (bs:List UInt8) (s:ax):Int×ax:=aD bs (bm 0 0 bs s).2
def Ax (k:Nat) (bs:List UInt8) (s:ax):i9×ax:=
 if k=0 then(⟨0,(aD bs s).1,dJ.zero,eA.zero,dW.zero⟩,(aD bs s).2)
 else if k=1 then(⟨1,0,(jJ bs s).1,eA.zero,dW.zero⟩,(jJ bs s).2)
 else if k=2 then(⟨2,0,dJ.zero,(jr bs s).1,dW.zero⟩,(jr bs s).2)
 else if k=3 then(⟨3,0,dJ.zero,eA.zero,(jx bs s).1⟩,(jx bs s).2)
 else(⟨k,(kU bs s).1,dJ.zero,eA.zero,dW.zero⟩,(kU bs s).2)
def B3 (bs:List UInt8) (s:ax):i9×ax:=Ax (bm 7 4 bs s).1 bs (bm 7 4 bs s).2
def mV (bs:List UInt8) (s:ax):jp×ax:=
 (⟨(cC bs s).1,(cC bs (cC bs s).2).1,(B3 bs (cC bs (cC bs s).2).2).1⟩,(B3 bs (cC bs (cC bs s).2).2).2)
def nz (bs:List UInt8) (s:ax):dh×ax:=(⟨(aD bs s).1,[],[]⟩,(aD bs s).2)
def dl (bs:List UInt8) (s:ax):Bool×ax:=
 if s.at_<bs.length∧bs.getD s.at_ 0=64 then(true,(bm 0 0 bs (ai bs s).2).2)else(false,s)
def mX (has:Bool) (bs:List UInt8) (s:ax):List aa×ax:=if has then bI bs s else([],s)
def nt (bs:List UInt8) (s:ax):lO×ax:=
 (⟨(jJ bs (dl bs s).2).1,(dl bs s).1,(mX (dl bs s).1 bs (jJ bs (dl bs s).2).2).1⟩,(mX (dl bs s).1 bs (jJ bs (dl bs s).2).2).2)
def nZ (bs:List UInt8) (s:ax):mD×ax:=(⟨(jx bs s).1,(bI bs (jx bs s).2).1⟩,(bI bs (jx bs s).2).2)
def mG (bs:List UInt8) (s:ax):kB×ax:=
 (⟨(cC bs s).1,(bm 7 4 bs (cC bs s).2).1,(aD bs (bm 7 4 bs (cC bs s).2).2).1⟩,(aD bs (bm 7 4 bs (cC bs s).2).2).2)
def jl (n:Int):aa:={aa.of 210 with x:=n}
def jK (bs:List UInt8) (s:ax):List aa×ax:=([jl (aD bs s).1],(aD bs s).2)
def qI (c:Nat) (bs:List UInt8) (s:ax):Int×ax:=if js c then aD bs s else(0,s)
def jR (c:Nat) (bs:List UInt8) (s:ax):(Int×Int×List aa)×ax:=
 if gA c=false then((1,(qI c bs s).1,(bI bs (qI c bs s).2).1),(bI bs (qI c bs s).2).2)
 else if js c then((2,0,[]),s)else((0,0,[]),s)
def mN:aF:=⟨3,false,⟨7,0⟩⟩
def nP (c:Nat) (bs:List UInt8) (s:ax):aF×ax:=
 if c=4 then(⟨3,true,⟨7,0⟩⟩,s)
 else if 4<c then sN bs s
 else if 0<c then(mN,(bm 0 0 bs s).2)
 else(mN,s)
def mO (c:Nat) (bs:List UInt8) (s:ax):List (List aa)×ax:=if c<4 then am bs (jK bs) s else am bs (bI bs) s
def zL (c:Nat) (bs:List UInt8) (s:ax):eb×ax:=
 (⟨(nP c bs (jR c bs s).2).1,(mO c bs (nP c bs (jR c bs s).2).2).1,(jR c bs s).1.1,(jR c bs s).1.2.1,(jR c bs s).1.2.2⟩,(mO c bs (nP c bs (jR c bs s).2).2).2)
def eS (bs:List UInt8) (s:ax):eb×ax:=zL (bm 7 7 bs s).1 bs (bm 7 7 bs s).2
def kw (bs:List UInt8) (s:ax):fN×ax:=(⟨(aD bs s).1,(bw bs (aD bs s).2).1⟩,(bw bs (aD bs s).2).2)
def ri (l:List fN):Nat:=(l.map fun r=>r.n.toNat).sum
def gY (l:List fN):Nat:=ri l% 18446744073709551616
def bL (bs:List UInt8) (s:ax):List fN×ax:=
 ((am bs (kw bs) s).1,if 4294967295<gY (am bs (kw bs) s).1 then(am bs (kw bs) s).2.fail 11 s.at_ else(am bs (kw bs) s).2)
def jU (c:Nat) (bs:List UInt8) (s:ax):Int×ax:=if c=2 then aD bs s else(0,s)
def ky (c:Nat) (bs:List UInt8) (s:ax):(Int×List aa)×ax:=if c=1 then((0,[]),s)else((1,(bI bs s).1),(bI bs s).2)
def lA (bs:List UInt8) (s:ax):List UInt8×ax:=dD (af bs s).1 bs (af bs s).2
def LN (c:Nat) (bs:List UInt8) (s:ax):jG×ax:=
 (⟨(ky c bs (jU c bs s).2).1.1,(jU c bs s).1,(ky c bs (jU c bs s).2).1.2,(lA bs (ky c bs (jU c bs s).2).2).1⟩,(lA bs (ky c bs (jU c bs s).2).2).2)
def mI (bs:List UInt8) (s:ax):jG×ax:=LN (bm 3 2 bs s).1 bs (bm 3 2 bs s).2
def SR (n:Int):Int:=(n+9223372036854775808)% 18446744073709551616-9223372036854775808
def jF (bs:List UInt8) (s:ax):ax:=if s.at_<bs.length then s.fail 82 s.at_ else s
def ox (i:aa):Bool:=decide (i.op=64520∨i.op=64521∨i.op=64265∨i.op=64274)
def bD (l:List aa):Bool:=l.any ox
def bo (known:Int) (bs:List UInt8) (s:ax):Nat×ax:=
 if 0≤known∧((af bs s).1:Int)≠known then(0,(af bs s).2.fail 83 s.at_)else af bs s
def gb (bs:List UInt8):(List fN×List aa)×ax:=
 (((bL bs ah).1,(bI bs (bL bs ah).2).1),jF bs (bI bs (bL bs ah).2).2)
def dC (bs:List UInt8) (s:ax):(List fN×List aa)×ax:=
 ((gb (dD (af bs s).1 bs (af bs s).2).1).1,
   if (gb (dD (af bs s).1 bs (af bs s).2).1).2.err=0 then(dD (af bs s).1 bs (af bs s).2).2
   else(dD (af bs s).1 bs (af bs s).2).2.fail (gb (dD (af bs s).1 bs (af bs s).2).1).2.err (SR ((af bs s).2.at_+(gb (dD (af bs s).1 bs (af bs s).2).1).2.errAt)))
def bh (bs:List UInt8):List dh→Nat→ax→(List dh×Bool)×ax
 |fs,0,s=>((fs,false),s)
 | [],_+1,s=>(([],false),s)
 |f::fs,n+1,s=>if s.err=0 then
  (({f with locals:=(dC bs s).1.1,body:=(dC bs s).1.2}::(bh bs fs n (dC bs s).2).1.1,bD (dC bs s).1.2||(bh bs fs n (dC bs s).2).1.2),(bh bs fs n (dC bs s).2).2)
  else((f::fs,false),s)
structure bT where
 m:aV
 count:Int
 codes:Bool
 datas:Bool
 needs:Bool
deriving DecidableEq,Inhabited
def RQ (bs:List UInt8) (s:ax):Unit×ax:=((),(dD (bs.length-(cC bs s).2.at_) bs (cC bs s).2).2)
def eC (id:Nat) (bs:List UInt8) (L:bT):bT×ax:=
 if id=1 then({L with m:={L.m with types:=(am bs (gy bs) ah).1}},(am bs (gy bs) ah).2)
 else if id=2 then({L with m:={L.m with imports:=(am bs (mV bs) ah).1}},(am bs (mV bs) ah).2)
 else if id=3 then({L with m:={L.m with funcs:=(am bs (nz bs) ah).1}},(am bs (nz bs) ah).2)
 else if id=4 then({L with m:={L.m with tables:=(am bs (nt bs) ah).1}},(am bs (nt bs) ah).2)
 else if id=5 then({L with m:={L.m with mems:=(am bs (jr bs) ah).1}},(am bs (jr bs) ah).2)
 else if id=13 then({L with m:={L.m with tags:=(am bs (kU bs) ah).1}},(am bs (kU bs) ah).2)
 else if id=6 then({L with m:={L.m with globals:=(am bs (nZ bs) ah).1}},(am bs (nZ bs) ah).2)
 else if id=7 then({L with m:={L.m with exports:=(am bs (mG bs) ah).1}},(am bs (mG bs) ah).2)
 else if id=8 then({L with m:={L.m with start:=(aD bs ah).1}},(aD bs ah).2)
 else if id=9 then({L with m:={L.m with elems:=(am bs (eS bs) ah).1}},(am bs (eS bs) ah).2)
 else if id=12 then({L with count:=(aD bs ah).1},(aD bs ah).2)
 else if id=10 then
  ({L with codes:=true,m:={L.m with funcs:=(bh bs L.m.funcs (bo L.m.funcs.length bs ah).1 (bo L.m.funcs.length bs ah).2).1.1},needs:=L.needs||(bh bs L.m.funcs (bo L.m.funcs.length bs ah).1 (bo L.m.funcs.length bs ah).2).1.2},
    (bh bs L.m.funcs (bo L.m.funcs.length bs ah).1 (bo L.m.funcs.length bs ah).2).2)
 else if id=11 then
  ({L with datas:=true,m:={L.m with datas:=(av (mI bs) (bo L.count bs ah).1 (bo L.count bs ah).2).1}},(av (mI bs) (bo L.count bs ah).1 (bo L.count bs ah).2).2)
 else(L,(RQ bs ah).2)
def cr (id:Nat):Option Nat:=
 if id=1 then some 0 else if id=2 then some 1 else if id=3 then some 2 else if id=4 then some 3 else if id=5 then some 4 else if id=13 then some 5 else if id=6 then some 6
 else if id=7 then some 7 else if id=8 then some 8 else if id=9 then some 9 else if id=12 then some 10 else if id=10 then some 11 else if id=11 then some 12 else none
def eP (L:bT):Bool:=(decide (0<L.m.funcs.length)&&!L.codes)||(decide (0<L.count)&&!L.datas)||(L.needs&&decide (L.count<0))
def fM (b:List UInt8):Nat→Int→Nat→bT→bT×Int×Int
 |0,_,at_,L=>(L,0,at_)
 |f+1,last,at_,L=>
  if b.length≤at_ then(L,if eP L then 83 else 0,if eP L then at_ else 0)
  else if (b.getD at_ 0)≠0∧cr (b.getD at_ 0).toNat=none then(L,60,at_)
  else if (b.getD at_ 0)≠0∧(((cr (b.getD at_ 0).toNat).getD 0:Nat):Int)≤last then(L,81,at_)
  else if (ak b (at_+1) 32 false).2.2≠0 then(L,(ak b (at_+1) 32 false).2.2,at_+1)
  else if b.length-(ak b (at_+1) 32 false).2.1< (ak b (at_+1) 32 false).1 then(L,10,at_+1)
  else if (jF ((b.drop (ak b (at_+1) 32 false).2.1).take (ak b (at_+1) 32 false).1) (eC (b.getD at_ 0).toNat ((b.drop (ak b (at_+1) 32 false).2.1).take (ak b (at_+1) 32 false).1) L).2).err≠0 then
   ((eC (b.getD at_ 0).toNat ((b.drop (ak b (at_+1) 32 false).2.1).take (ak b (at_+1) 32 false).1) L).1,
     (jF ((b.drop (ak b (at_+1) 32 false).2.1).take (ak b (at_+1) 32 false).1) (eC (b.getD at_ 0).toNat ((b.drop (ak b (at_+1) 32 false).2.1).take (ak b (at_+1) 32 false).1) L).2).err,
     SR ((ak b (at_+1) 32 false).2.1+(jF ((b.drop (ak b (at_+1) 32 false).2.1).take (ak b (at_+1) 32 false).1) (eC (b.getD at_ 0).toNat ((b.drop (ak b (at_+1) 32 false).2.1).take (ak b (at_+1) 32 false).1) L).2).errAt))
  else fM b f (if (b.getD at_ 0)=0 then last else(((cr (b.getD at_ 0).toNat).getD 0:Nat):Int)) ((ak b (at_+1) 32 false).2.1+(ak b (at_+1) 32 false).1)
   (eC (b.getD at_ 0).toNat ((b.drop (ak b (at_+1) 32 false).2.1).take (ak b (at_+1) 32 false).1) L).1
def aP:List UInt8:= [0,97,115,109,1,0,0,0]
def cg:bT:=⟨aV.none,-1,false,false,false⟩
def eE (b:List UInt8):bT×Int×Int:=if b.take 8=aP then fM b (b.length+1) (-1) 8 cg else(cg,80,0)
def dw (b:List UInt8):aV×Int×Int:=if (eE b).2.1=0 then((eE b).1.m,0,0)else(aV.none,(eE b).2.1,(eE b).2.2)
def jD (l:eA):Bool:=l.hasMax||decide (l.max=0)
def fy (v:aF):Bool:=decide (v.kind=3)&&aj v
def eL (t:dJ):Bool:=fy t.elem&&jD t.lim
def cG (l:List aa):Bool:=l.all dx&&jI l
def ez (x:i9):Bool:=
 if x.kind=0∨x.kind=4 then ev x.n&&decide (x=⟨x.kind,x.n,dJ.zero,eA.zero,dW.zero⟩)
 else if x.kind=1 then eL x.table&&decide (x=⟨x.kind,0,x.table,eA.zero,dW.zero⟩)
 else if x.kind=2 then jD x.mem&&decide (x=⟨x.kind,0,dJ.zero,x.mem,dW.zero⟩)
 else if x.kind=3 then aj x.global.val&&decide (x=⟨x.kind,0,dJ.zero,eA.zero,x.global⟩)
 else false
def kl (i:jp):Bool:=iY i.modu&&iY i.name&&ez i.what
def kY (f:dh):Bool:=ev f.type&&f.locals.all (fun r=>ev r.n&&aj r.val)&&decide (gY f.locals≤4294967295)&&cG f.body
def gC (t:lO):Bool:=eL t.type&&cG t.init&&(t.hasInit||decide (t.init.length=0))
def hJ (g:mD):Bool:=aj g.type.val&&cG g.init
def kj (e:kB):Bool:=iY e.name&&decide (0≤e.kind)&&decide (e.kind≤4)&&ev e.n
def fP (e:eb):Bool:=
 if fy e.type&&e.inits.all cG then
  (if e.mode=1 then ev e.table&&cG e.offset
   else if e.mode=0∨e.mode=2 then decide (e.table=0)&&decide (e.offset.length=0)
   else false)
 else false
def ix (d:jG):Bool:=
 if d.mode=1 then ev d.mem&&cG d.offset
 else if d.mode=0 then decide (d.mem=0)&&decide (d.offset.length=0)
 else false
def cy (m:aV):Bool:=
 m.types.all (fun g=>g.all bP)&&m.imports.all kl&&m.funcs.all kY&&m.tables.all gC&&m.mems.all jD&&m.tags.all ev&&
 m.globals.all hJ&&m.exports.all kj&&(decide (m.start= -1)||ev m.start)&&m.elems.all fP&&m.datas.all ix
def dX (s:List UInt8):List UInt8:=aI s.length++s
def ea (l:eA):List UInt8:=UInt8.ofNat ((if l.hasMax then 1 else 0)+(if l.wide then 4 else 0))::(aI l.min++(if l.hasMax then aI l.max else []))
def em (t:dJ):List UInt8:=es t.elem++ea t.lim
def ga (t:dW):List UInt8:=es t.val++ [if t.mut_ then 1 else 0]
def eW (n:Int):List UInt8:=0::au n
def oA (x:i9):List UInt8:=UInt8.ofNat (x.kind% 256).toNat::
 (if x.kind=1 then em x.table else if x.kind=2 then ea x.mem else if x.kind=3 then ga x.global else if x.kind=4 then eW x.n else au x.n)
def dR (i:jp):List UInt8:=dX i.modu++dX i.name++oA i.what
def fD (t:lO):List UInt8:=if t.hasInit then 64::0::(em t.type++al t.init)else em t.type
def gg (g:mD):List UInt8:=ga g.type++al g.init
def fF (e:kB):List UInt8:=dX e.name++UInt8.ofNat (e.kind% 256).toNat::au e.n
def cW (l:List aa):Bool:=decide (l.length=1)&&decide ((l.head?.map (·.op))=some 210)
def aG (e:eb):Bool:=decide (e.type=mN)&&e.inits.all cW
def lV:aF:=⟨3,true,⟨7,0⟩⟩
def uH (e:eb):Bool:=decide (e.table≠0)||(!aG e&&decide (e.type≠lV))
def cf (e:eb):Nat:=(if aG e then 0 else 4)+(if e.mode=0 then 1 else if e.mode=2 then 3 else if uH e then 2 else 0)
def ch (l:List aa):List UInt8:=au ((l.head?.map (·.x)).getD 0)
def cw (e:eb):List UInt8:=
 UInt8.ofNat (cf e)::((if cf e% 4=2 then au e.table else [])++(if e.mode=1 then al e.offset else [])++
  (if aG e then(if cf e≠0 then [0]else [])++ae ch e.inits
   else(if cf e≠4 then es e.type else [])++ae al e.inits))
def ee (r:fN):List UInt8:=au r.n++es r.val
def aX (b:List UInt8):List UInt8:=aI b.length++b
def dq (f:dh):List UInt8:=aX (ae ee f.locals++al f.body)
def eu (d:jG):List UInt8:=(if d.mode=0 then [1]else if d.mem=0 then 0::al d.offset else 2::(au d.mem++al d.offset))++aX d.bytes
def cm (g:List bu):List UInt8:=if g.length=0 then [78,0]else qO g
def bO {α:Type} (id:UInt8) (l:List α) (p:α→List UInt8):List UInt8:=if l.length=0 then []else id::aX (ae p l)
def km (m:aV):List (List UInt8):=
 [bO 1 m.types cm,bO 2 m.imports dR,bO 3 m.funcs (fun f=>au f.type),bO 4 m.tables fD,bO 5 m.mems ea,bO 13 m.tags eW,bO 6 m.globals gg,bO 7 m.exports fF,
  (if 0≤m.start then 8::aX (au m.start)else []),bO 9 m.elems cw,
  (if m.funcs.any (fun f=>bD f.body)then 12::aX (aI m.datas.length)else []),bO 10 m.funcs dq,bO 11 m.datas eu]
def dy (m:aV):List UInt8:=if cy m then aP++(km m).flatten else []
def iI (l:List UInt8):Value:= .string ⟨l.toArray⟩
def J6:List UInt8:= [239,191,189]
theorem XA (a b:UInt8):(a=b)=(a.toNat=b.toNat):=propext UInt8.toNat_inj.symm
theorem PR (a b:UInt8):(a<b)=(a.toNat<b.toNat):=propext UInt8.lt_iff_toNat_lt
theorem SM (a b:UInt8):(a≤b)=(a.toNat≤b.toNat):=propext UInt8.le_iff_toNat_le
def Nt (d:Nat×Nat) (l:List UInt8):Prop:=d.1=65533∧Lib.hasPrefix l J6=false
theorem Xj (l:List UInt8):Lib.hasPrefix l J6=true↔∃r,l=239::191::189::r:=by
 unfold Lib.hasPrefix J6
 rw[List.isPrefixOf_iff_prefix]
 constructor
 ·rintro⟨r,h⟩
  exact⟨r,by simpa using h.symm⟩
 ·rintro⟨r,rfl⟩
  exact⟨r,rfl⟩
theorem kz {c w:Nat} {p:Prop} (hc:c=65533) (hp:¬p):(0=0↔(c,w).1=65533∧¬p)∧(0≠0→(c,w).2=0):=⟨⟨fun _=>⟨hc,hp⟩,fun _=>rfl⟩,fun h=>absurd rfl h⟩
theorem kn {c w k:Nat} {p:Prop} (hk:k≠0) (hw:w=k) (h:c=65533→p):(k=0↔(c,w).1=65533∧¬p)∧(k≠0→(c,w).2=k):=⟨⟨fun e=>absurd e hk,fun e=>absurd (h e.1) e.2⟩,fun _=>hw⟩
theorem xg (l:List UInt8) (hne:l≠ []):
 (jc l=0↔Nt (Lib.decodeN l.length (l.getD 0 0).toNat (l.getD 1 0).toNat (l.getD 2 0).toNat (l.getD 3 0).toNat) l)∧
 (jc l≠0→(Lib.decodeN l.length (l.getD 0 0).toNat (l.getD 1 0).toNat (l.getD 2 0).toNat (l.getD 3 0).toNat).2=jc l):=by
 have hp:Lib.hasPrefix l J6=decide (l.length≥3∧(l.getD 0 0).toNat=239∧(l.getD 1 0).toNat=191∧(l.getD 2 0).toNat=189):=by
  rw[Bool.eq_iff_iff,Xj,decide_eq_true_eq]
  constructor
  ·rintro⟨r,rfl⟩
   simp
  ·match l,hne with
   | [],h=>exact absurd rfl h
   | [a],_=>simp
   | [a,b],_=>simp
   |a::b::c::r,_=>
    simp only[List.length_cons,List.getD_cons_zero,List.getD_cons_succ]
    rintro⟨_,h1,h2,h3⟩
    refine⟨r,?_⟩
    have e1:a=239:=UInt8.toNat_inj.1 h1
    have e2:b=191:=UInt8.toNat_inj.1 h2
    have e3:c=189:=UInt8.toNat_inj.1 h3
    rw[e1,e2,e3]
 unfold Nt
 rw[hp]
 clear hp
 have key:∀n b0 b1 b2 b3:Nat,b0<256→b1<256→b2<256→b3<256→0<n→
  ∀k:Nat,(k=if b0<128 then 1 else if 1<n then(if 194≤b0∧b0≤223∧128≤b1∧b1≤191 then 2 else if 2<n then
   (if (b0=224∧160≤b1∧b1≤191∨225≤b0∧b0≤239∧b0≠237∧128≤b1∧b1≤191∨b0=237∧128≤b1∧b1≤159)∧128≤b2∧b2≤191 then 3 else if 3<n then
    (if (b0=240∧144≤b1∧b1≤191∨241≤b0∧b0≤243∧128≤b1∧b1≤191∨b0=244∧128≤b1∧b1≤143)∧128≤b2∧b2≤191∧128≤b3∧b3≤191 then 4 else 0)else 0)else 0)else 0)→
  (k=0↔(Lib.decodeN n b0 b1 b2 b3).1=65533∧¬(n≥3∧b0=239∧b1=191∧b2=189))∧(k≠0→(Lib.decodeN n b0 b1 b2 b3).2=k):=by
  intro n b0 b1 b2 b3 h0 h1 h2 h3 hn k hk
  unfold Lib.decodeN
  by_cases c0:b0<128
  ·rw[if_pos c0]at hk
   subst hk
   rw[if_pos c0]
   exact RN
  ·rw[if_neg c0]at hk⊢
   by_cases c1:b0/32=6∧1<n∧b1/64=2
   ·rw[if_pos c1]
    rw[if_pos c1.2.1]at hk
    have e3:¬((b0=224∧160≤b1∧b1≤191∨225≤b0∧b0≤239∧b0≠237∧128≤b1∧b1≤191∨b0=237∧128≤b1∧b1≤159)∧128≤b2∧b2≤191):=by omega
    have e4:¬((b0=240∧144≤b1∧b1≤191∨241≤b0∧b0≤243∧128≤b1∧b1≤191∨b0=244∧128≤b1∧b1≤143)∧128≤b2∧b2≤191∧128≤b3∧b3≤191):=by omega
    rw[if_neg e3,if_neg e4]at hk
    by_cases c2:b0% 32*64+b1% 64≥128
    ·rw[if_pos c2]
     rw[if_pos (by omega)]at hk
     subst hk
     exact RN
    ·rw[if_neg c2]
     rw[if_neg (by omega)]at hk
     simp only[ite_self]at hk
     subst hk
     exact RN
   ·rw[if_neg c1]
    have e2:¬(1<n∧194≤b0∧b0≤223∧128≤b1∧b1≤191):=by omega
    by_cases c2:b0/16=14∧(1<n∧b1/64=2)∧(2<n∧b2/64=2)
    ·rw[if_pos c2]
     have e4:¬((b0=240∧144≤b1∧b1≤191∨241≤b0∧b0≤243∧128≤b1∧b1≤191∨b0=244∧128≤b1∧b1≤143)∧128≤b2∧b2≤191∧128≤b3∧b3≤191):=by omega
     rw[if_pos c2.2.1.1,if_neg (fun h=>e2 ⟨c2.2.1.1,h⟩),if_pos c2.2.2.1,if_neg e4]at hk
     simp only[ite_self]at hk
     by_cases c3:b0% 16*4096+b1% 64*64+b2% 64≥2048∧(b0% 16*4096+b1% 64*64+b2% 64<55296∨(57344≤b0% 16*4096+b1% 64*64+b2% 64∧b0% 16*4096+b1% 64*64+b2% 64≤1114111))
     ·rw[if_pos c3]
      rw[if_pos (by omega)]at hk
      subst hk
      exact RN
     ·rw[if_neg c3]
      rw[if_neg (by omega)]at hk
      subst hk
      exact RN
    ·rw[if_neg c2]
     have e3:¬(1<n∧2<n∧(b0=224∧160≤b1∧b1≤191∨225≤b0∧b0≤239∧b0≠237∧128≤b1∧b1≤191∨b0=237∧128≤b1∧b1≤159)∧128≤b2∧b2≤191):=by omega
     by_cases c3:b0/8=30∧(1<n∧b1/64=2)∧(2<n∧b2/64=2)∧(3<n∧b3/64=2)
     ·rw[if_pos c3]
      rw[if_pos c3.2.1.1,if_neg (fun h=>e2 ⟨c3.2.1.1,h⟩),if_pos c3.2.2.1.1,if_neg (fun h=>e3 ⟨c3.2.1.1,c3.2.2.1.1,h⟩),if_pos c3.2.2.2.1]at hk
      by_cases c4:b0% 8*262144+b1% 64*4096+b2% 64*64+b3% 64≥65536∧(b0% 8*262144+b1% 64*4096+b2% 64*64+b3% 64<55296∨(57344≤b0% 8*262144+b1% 64*4096+b2% 64*64+b3% 64∧b0% 8*262144+b1% 64*4096+b2% 64*64+b3% 64≤1114111))
      ·rw[if_pos c4]
       rw[if_pos (by omega)]at hk
       subst hk
       exact RN
      ·rw[if_neg c4]
       rw[if_neg (by omega)]at hk
       subst hk
       exact RN
     ·rw[if_neg c3]
      have e4:¬(1<n∧2<n∧3<n∧(b0=240∧144≤b1∧b1≤191∨241≤b0∧b0≤243∧128≤b1∧b1≤191∨b0=244∧128≤b1∧b1≤143)∧128≤b2∧b2≤191∧128≤b3∧b3≤191):=by omega
      have hk0:k=0:=by
       rw[hk]
       split
       ·rename_i n1
        rw[if_neg (fun h=>e2 ⟨n1,h⟩)]
        split
        ·rename_i n2
         rw[if_neg (fun h=>e3 ⟨n1,n2,h⟩)]
         split
         ·rename_i n3
          rw[if_neg (fun h=>e4 ⟨n1,n2,n3,h⟩)]
         ·rfl
        ·rfl
       ·rfl
      subst hk0
      exact RN
 have hb:∀i,(l.getD i 0).toNat<256:=fun i=>(l.getD i 0).toNat_lt
 have hn:0<l.length:=by
  cases l with
  |nil=>exact absurd rfl hne
  |cons=>simp
 have h:=key l.length _ _ _ _ (hb 0) (hb 1) (hb 2) (hb 3) hn (jc l) ?_
 ·simpa using h
 ·match l,hne with
  | [],h=>exact absurd rfl h
  | [a],_=>simp only[jc,PR,List.length_cons,List.length_nil,List.getD_cons_zero];rfl
  | [a,b],_=>simp only[jc,PR,SM,List.length_cons,List.length_nil,List.getD_cons_zero,List.getD_cons_succ];rfl
  | [a,b,c],_=>simp only[jc,PR,SM,XA,List.length_cons,List.length_nil,List.getD_cons_zero,List.getD_cons_succ,ne_eq];rfl
  |a::b::c::d::r,_=>
   simp only[jc,PR,SM,XA,List.length_cons,List.getD_cons_zero,List.getD_cons_succ,ne_eq]
   rw[if_pos (by omega:1<r.length+1+1+1+1),if_pos (by omega:2<r.length+1+1+1+1),if_pos (by omega:3<r.length+1+1+1+1)]
   rfl
def pd (s:ByteArray):Nat→Nat→Bool
 |0,_=>true
 |f+1,pos=>if pos<s.size then(if (Utf8.decode s pos).1=65533∧Lib.hasPrefix (s.data.toList.drop pos) J6=false then false else pd s f (pos+(Utf8.decode s pos).2))else true
theorem uY:∀(f g:Nat) (l:List UInt8),l.length≤f→l.length≤g→um f l=um g l
 | _,_,[],_,_=>by simp[um]
 |0,_,_:: _,h,_=>by simp at h
 | _+1,0,_:: _,_,h=>by simp at h
 |f+1,g+1,a::r,h1,h2=>by
  unfold um
  split
  ·rfl
  ·exact uY f g _ (by simp only[List.length_drop,List.length_cons]at*;omega) (by simp only[List.length_drop,List.length_cons]at*;omega)
theorem Be (s:ByteArray) (pos:Nat):Utf8.decode s pos=Lib.decodeN (s.data.toList.drop pos).length ((s.data.toList.drop pos).getD 0 0).toNat ((s.data.toList.drop pos).getD 1 0).toNat ((s.data.toList.drop pos).getD 2 0).toNat ((s.data.toList.drop pos).getD 3 0).toNat:=by
 have hg:∀k,s.get! k=s.data.toList.getD k 0:=fun k=>by
  show s.data[k]! = _
  rw[List.getD_eq_getElem?_getD,Array.getElem?_toList,getElem!_def]
  cases s.data[k]? <;>rfl
 have hd:∀k,(s.data.toList.drop pos).getD k 0=s.data.toList.getD (pos+k) 0:=fun k=>by
  rw[List.getD_eq_getElem?_getD,List.getD_eq_getElem?_getD,List.getElem?_drop]
 rw[Lib.decode_at,hd,hd,hd,hd,List.length_drop,hg,hg,hg,hg]
 rfl
theorem yv (s:ByteArray):∀(f pos:Nat),s.size≤pos+f→pd s f pos=um (s.data.toList.drop pos).length (s.data.toList.drop pos)
 |0,pos,h=>by
  have e:s.data.toList.drop pos= []:=List.drop_eq_nil_of_le (by rw[←Lib.size_eq];omega)
  rw[e]
  rfl
 |f+1,pos,h=>by
  unfold pd
  by_cases hp:pos<s.size
  ·rw[if_pos hp,Be]
   have hl:(s.data.toList.drop pos).length=s.size-pos:=by rw[List.length_drop,←Lib.size_eq]
   have hdd:∀n,s.data.toList.drop (pos+n)=(s.data.toList.drop pos).drop n:=fun n=>by rw[List.drop_drop]
   have ih:=fun n (hn:1≤n)=>yv s f (pos+n) (by omega)
   simp only[hdd]at ih
   generalize s.data.toList.drop pos=l at hl ih⊢
   have hne:l≠ []:=by rintro rfl;simp at hl;omega
   obtain⟨h1,h2⟩:=xg l hne
   unfold Nt at h1
   obtain⟨a,r,rfl⟩:∃a r,l=a::r:=by
    cases l with
    |nil=>exact absurd rfl hne
    |cons a r=>exact⟨a,r,rfl⟩
   rw[List.length_cons,um,←List.length_cons (a:=a)]
   by_cases h0:jc (a::r)=0
   ·rw[if_pos (h1.1 h0),if_pos h0]
   ·rw[if_neg (fun h=>h0 (h1.2 h)),if_neg h0,h2 h0,ih _ (by omega)]
    exact uY _ _ _ (Nat.le_refl _) (by simp only[List.length_drop,List.length_cons];omega)
  ·rw[if_neg hp]
   have e:s.data.toList.drop pos= []:=List.drop_eq_nil_of_le (by rw[←Lib.size_eq];omega)
   rw[e]
   rfl
theorem Kj (s:ByteArray):pd s s.size 0=iY s.data.toList:=by
 rw[yv s s.size 0 (by omega)]
 rfl
theorem M8 (s:ByteArray) (f pos:Nat) (h:¬pos<s.size):pd s f pos=true:=by
 cases f with
 |zero=>rfl
 |succ f=>simp[pd,h]
end Go.Proofs.YtpdlmdlkecnpgaaGreatDoor
