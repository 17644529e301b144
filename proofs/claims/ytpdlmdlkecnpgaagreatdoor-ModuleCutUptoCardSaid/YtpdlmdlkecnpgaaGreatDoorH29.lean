/- Texts: IbMay ModL1 MdC2. -/
import Derived.Test.YtpdlmdlkecnpgaaGreatDoorH0
import Derived.Test.YtpdlmdlkecnpgaaGreatDoorH19
import Derived.Test.YtpdlmdlkecnpgaaGreatDoorH20
import Derived.Test.YtpdlmdlkecnpgaaGreatDoorH21
import Derived.Test.YtpdlmdlkecnpgaaGreatDoorH22
import Derived.Test.YtpdlmdlkecnpgaaGreatDoorH12
import Derived.Test.YtpdlmdlkecnpgaaGreatDoorH23
import Derived.Test.YtpdlmdlkecnpgaaGreatDoorH10
import Derived.Test.YtpdlmdlkecnpgaaGreatDoorH28
set_option linter.unusedSimpArgs false
set_option linter.unusedVariables false
namespace Go.Proofs.YtpdlmdlkecnpgaaGreatDoor
open Go.RowKit
theorem NB:FZ:=by
 intro w hg i tv lv cv hR hw
 obtain⟨o,x,y,u,⟨hk,hn⟩,⟨jk,jn⟩,n1,n2,ts,ls,⟨bk,⟨vk,vn,⟨wk,wn⟩⟩,bn⟩,cs⟩:=i
 obtain⟨h1,h2,hts,hls,hcs⟩:=hw
 have h0:=BW o
 by_cases k0:ag o=0
 ·exact Uw hg o x y u hk hn jk jn n1 n2 ts ls bk vk vn wk wn bn cs tv lv cv hR h1 h2 hts hls hcs k0 rfl
 by_cases k1:ag o=1
 ·exact V9 hg o x y u hk hn jk jn n1 n2 ts ls bk vk vn wk wn bn cs tv lv cv hR h1 h2 hts hls hcs k1 rfl
 rcases fL o with hk'|(hk'|hk')|hk'|hk'|hk'|hk'|hk'|hk'|hk'|hk'|hk'|hk'
 ·exfalso
  obtain⟨h4,h6,h7,h5,h8,h9,h10,h11,h12,h2',h3,h13⟩:=hk'
  omega
 ·exact Wl hg o x y u hk hn jk jn n1 n2 ts ls bk vk vn wk wn bn cs tv lv cv hR h1 h2 hts hls hcs hk' rfl
 ·exact Vz hg o x y u hk hn jk jn n1 n2 ts ls bk vk vn wk wn bn cs tv lv cv hR h1 h2 hts hls hcs hk' rfl
 ·exact Wc hg o x y u hk hn jk jn n1 n2 ts ls bk vk vn wk wn bn cs tv lv cv hR h1 h2 hts hls hcs hk' rfl
 ·exact Va hg o x y u hk hn jk jn n1 n2 ts ls bk vk vn wk wn bn cs tv lv cv hR h1 h2 hts hls hcs hk' rfl
 ·exact VT hg o x y u hk hn jk jn n1 n2 ts ls bk vk vn wk wn bn cs tv lv cv hR h1 h2 hts hls hcs hk' rfl
 ·exact UI hg o x y u hk hn jk jn n1 n2 ts ls bk vk vn wk wn bn cs tv lv cv hR h1 h2 hts hls hcs hk' rfl
 ·exact Tv hg o x y u hk hn jk jn n1 n2 ts ls bk vk vn wk wn bn cs tv lv cv hR h1 h2 hts hls hcs hk' rfl
 ·exact TU hg o x y u hk hn jk jn n1 n2 ts ls bk vk vn wk wn bn cs tv lv cv hR h1 h2 hts hls hcs hk' rfl
 ·exact TA hg o x y u hk hn jk jn n1 n2 ts ls bk vk vn wk wn bn cs tv lv cv hR h1 h2 hts hls hcs hk' rfl
 ·exact V5 hg o x y u hk hn jk jn n1 n2 ts ls bk vk vn wk wn bn cs tv lv cv hR h1 h2 hts hls hcs hk' rfl
 ·exact Up hg o x y u hk hn jk jn n1 n2 ts ls bk vk vn wk wn bn cs tv lv cv hR h1 h2 hts hls hcs hk' rfl
 ·exact Uc hg o x y u hk hn jk jn n1 n2 ts ls bk vk vn wk wn bn cs tv lv cv hR h1 h2 hts hls hcs hk' rfl
structure cT {α:Type} (F:bb α) (P:α→Nat→Prop):Prop where
 stuck:ci F
 back:cD F P
theorem dL.fine {α:Type} {F:bb α} {P:α→Nat→Prop} (h:dL F P):cT F P:=⟨h.stuck,h.back⟩
theorem cT.mono {α:Type} {F:bb α} {P Q:α→Nat→Prop} (h:cT F P) (hq:∀x k,P x k→Q x k):cT F Q:=⟨h.stuck,h.back.mono hq⟩
theorem gO {α β:Type} {F:bb α} {G:Nat→α→bb β} (hF:ci F) (hS:∀a x,ci (G a x)):ci (aJ F G):=fun bs s h=>by
 unfold aJ
 have h1:=hF bs s h
 rw[hS _ _ bs _ (by rw[h1];exact h),h1]
theorem cT.bind {α β:Type} {F:bb α} {G:Nat→α→bb β} {P:α→Nat→Prop} {Q:α→β→Nat→Prop} (hF:cT F P) (hG:∀a x,ci (G a x)) (hB:∀a x k,P x k→cD (G a x) (Q x)):
 cT (aJ F G) (fun y k=>∃x k1 k2,k=k1+k2∧P x k1∧Q x y k2):=
 ⟨gO hF.stuck hG,cD.bind hF.back hF.stuck (fun _ _ _=>hG _ _) hB⟩
theorem cT.map {α β:Type} {F:bb α} {P:α→Nat→Prop} (h:cT F P) (m:α→β):cT (cM F m) (fun y k=>∃x,y=m x∧P x k):=⟨h.stuck,gS h.back m fun x _ hp=>⟨x,rfl,hp⟩⟩
theorem cT.ret {α:Type} (x:α):cT (kc x) (fun y k=>y=x∧k=0):=⟨kT x,mM ⟨rfl,rfl⟩⟩
theorem cT.bad {α:Type} (c:Bool) {e:Int} (he:e≠0) (a:Nat) (x:α):cT (jb c e a x) (fun y k=>c=false∧y=x∧k=0):=⟨iq c e a x,nh c he a x⟩
theorem yx {bs:List UInt8} {s:ax} {bits n k:Nat} (he:s.err=0) (h:rU bs bits s=(n,s.adv k)):ak bs s.at_ bits false=(n,s.at_+k,0):=by
 have h0:(rU bs bits s).2.err=0:=by rw[h];exact he
 obtain⟨v,nx,h1,h2⟩:=Fe he h0
 rw[h2]at h
 injection h with e1 e2
 have:=congrArg ax.at_ e2
 simp at this
 rw[h1,e1,this]
theorem sF:cT (fun bs=>rU bs 64) fun x k=>(aI x).length≤k∧x<18446744073709551616:=⟨oJ 64,nS 64 (by decide) (by decide)⟩
theorem Fx {n:Nat} (h:n<18446744073709551616):RT (fun bs=>rU bs 64) (aI n) n:=vm 64 n (by decide) (by decide) h
theorem zC {n:Nat} (h:n<4294967296):RT (fun bs=>rU bs 32) (aI n) n:=vm 32 n (by decide) (by decide) h
def OL (n:List UInt8) (k:Nat):Prop:=iY n=true∧(dX n).length≤k∧1≤k
theorem tZ:ci cC:=fun bs s h=>by simp[cC,h]
theorem Da:cD cC OL:=fun bs s he ha h0=>by
 have h1:(dS bs s.at_).2.2=0:=by
  apply Classical.byContradiction
  intro hn
  unfold cC at h0
  rw[if_pos he,if_neg hn,eg he (by omega)]at h0
  exact hn (by simpa using h0)
 have h2:cC bs s=((dS bs s.at_).1,{s with at_:=(dS bs s.at_).2.1}):=by
  unfold cC
  rw[if_pos he,if_pos h1]
 rw[h2]
 unfold dS at h1⊢
 by_cases q1:(ak bs s.at_ 32 false).2.2≠0
 ·rw[if_pos q1]at h1;exact absurd h1 q1
 ·rw[if_neg q1]at h1⊢
  by_cases q2:bs.length-(ak bs s.at_ 32 false).2.1< (ak bs s.at_ 32 false).1
  ·rw[if_pos q2]at h1;cases h1
  ·rw[if_neg q2]at h1⊢
   by_cases q3:iY ((bs.drop (ak bs s.at_ 32 false).2.1).take (ak bs s.at_ 32 false).1)=true
   ·rw[if_pos q3]
    have q1:(ak bs s.at_ 32 false).2.2=0:=Classical.byContradiction q1
    have hu:rU bs 32 s=((ak bs s.at_ 32 false).1,{s with at_:=(ak bs s.at_ 32 false).2.1}):=by
     unfold rU
     rw[if_pos he,if_pos q1]
    obtain⟨k,e,l,p1,p2⟩:=nS 32 (by decide) (by decide) bs s he ha (by show(rU bs 32 s).2.err=0;rw[hu];exact he)
    simp only[hu]at e p1 p2
    have e:=congrArg ax.at_ e
    simp only[adv_at]at e
    generalize hv:(ak bs s.at_ 32 false).1=v at*
    generalize hx:(ak bs s.at_ 32 false).2.1=nx at*
    subst e
    have hl:((bs.drop (s.at_+k)).take v).length=v:=by rw[List.length_take,List.length_drop];omega
    refine⟨k+v,by simp[ax.adv,Nat.add_assoc],by omega,q3,?_,by have:=dQ v;omega⟩
    unfold dX
    rw[List.length_append,hl]
    omega
   ·rw[if_neg q3]at h1;cases h1
theorem qC:cT cC OL:=⟨tZ,Da⟩
theorem xF {n:List UInt8} (h:iY n=true) (hl:n.length<4294967296):RT cC (dX n) n:=fun bs s l ha=>by
 have ha1:At bs s (aI n.length++(n++l)):=by simpa [dX]using ha
 have h1:=yx ha.ok (zC hl bs s _ ha1)
 have h2:=ha1.adv.eq
 simp only[adv_at]at h2
 have h3:=congrArg List.length h2
 simp only[List.length_drop,List.length_append]at h3
 have hr:dS bs s.at_=(n,s.at_+(aI n.length).length+n.length,0):=by
  unfold dS
  rw[h1]
  simp only[h2,List.take_left',ne_eq,not_true_eq_false,if_false]
  rw[if_neg (by omega),if_pos h]
 unfold cC
 rw[if_pos ha.ok,hr]
 simp[ax.adv,dX,Nat.add_assoc]
theorem Ki (n:List UInt8):1≤(dX n).length:=by
 have:=dQ n.length
 unfold dX
 exact zV
theorem uv (n:Nat):ci (dD n):=fun bs s h=>by simp[dD,h]
theorem vW (n:Nat):cD (dD n) fun x k=>x.length=n∧k=n:=fun bs s he ha h0=>by
 unfold dD at h0⊢
 rw[if_pos he]at h0⊢
 by_cases h:bs.length-s.at_<n
 ·rw[if_pos h,eg he (by decide)]at h0;cases h0
 ·rw[if_neg h]
  exact⟨n,rfl,by omega,by rw[List.length_take,List.length_drop];omega,rfl⟩
theorem Cf (b:List UInt8):RT (dD b.length) b b:=fun bs s l ha=>by
 have h3:=congrArg List.length ha.eq
 simp only[List.length_drop,List.length_append]at h3
 unfold dD
 rw[if_pos ha.ok,if_neg (by omega),ha.eq]
 simp[ax.adv]
theorem mj:cD af fun x k=>(aI x).length≤k∧x<4294967296:=fun bs s he ha h0=>by
 obtain⟨k1,e0,e1,l1,p1,p2,p3⟩:=qy he ha h0
 rw[e0]
 exact⟨k1,e1,l1,p1,p3⟩
theorem uf:cT af fun x k=>(aI x).length≤k∧x<4294967296:=⟨rB,mj⟩
theorem tC {bs:List UInt8} {s:ax} {n:Nat} {l:List UInt8} (ha:At bs s (aI n++l)) (hn:n<4294967296) (hl:n≤l.length):af bs s=(n,s.adv (aI n).length):=by
 have h1:rU bs 32 s= _:=zC hn bs s l ha
 have h2:=ha.adv.eq
 have h3:=congrArg List.length h2
 simp only[adv_at,List.length_drop]at h3
 unfold af
 rw[h1]
 simp only[adv_at]
 exact if_neg (by omega)
def Ti (b:List UInt8) (k:Nat):Prop:=(aX b).length≤k∧1≤k
theorem Ii:lA=aJ af fun _ n=>dD n:=rfl
theorem uC:cT lA Ti:=by
 rw[Ii]
 refine(uf.bind (G:=fun _ n=>dD n) (Q:=fun n x k=>x.length=n∧k=n) (fun _ n=>uv n) (fun _ n _ _=>vW n)).mono ?_
 rintro y k ⟨n,k1,k2,rfl,⟨h1,_⟩,h3,rfl⟩
 have:=dQ k2
 refine⟨?_,by omega⟩
 unfold aX
 rw[List.length_append,h3]
 omega
theorem KV {b:List UInt8} (h:b.length<4294967296):RT lA (aX b) b:=fun bs s l ha=>by
 have ha1:At bs s (aI b.length++(b++l)):=by simpa [aX]using ha
 have h1:=tC ha1 h (by simp)
 have h2:=Cf b bs _ l ha1.adv
 unfold lA
 rw[h1]
 simp only[h2,dt,aX,List.length_append]
def nQ (bits most a c:Nat):bb Nat:=fun _ s=>if dA bits most c then(0,s.fail 60 a)else(c,s)
theorem BV (bits most:Nat):bm bits most=aJ ai fun a c=>nQ bits most a c:=by
 funext bs s
 unfold bm aJ
 cases h:dA bits most (ai bs s).1<;>simp[nQ,h]
theorem Av (bits most a c:Nat):ci (nQ bits most a c):=fun bs s h=>by
 unfold nQ
 split
 ·exact fU h _ _
 ·rfl
theorem BC (bits most a c:Nat):cD (nQ bits most a c) fun x k=>dA bits most c=false∧x=c∧k=0:=fun bs s he ha h0=>by
 unfold nQ at h0⊢
 cases hc:dA bits most c with
 |true=>
  rw[hc,if_pos rfl,eg he (by decide)]at h0
  cases h0
 |false=>exact⟨0,rfl,by simpa using ha,rfl,rfl,rfl⟩
theorem ei (bits most:Nat):cT (bm bits most) fun x k=>dA bits most x=false∧x<256∧k=1:=by
 rw[BV]
 refine(xf.fine.bind (G:=fun a c=>nQ bits most a c) (Q:=fun c x k=>dA bits most c=false∧x=c∧k=0) (fun a c=>Av bits most a c) (fun a c _ _=>BC bits most a c)).mono ?_
 rintro y k ⟨c,k1,k2,rfl,⟨rfl,h1⟩,h2,rfl,rfl⟩
 exact⟨h2,h1,rfl⟩
theorem gc {bits most:Nat} {c:UInt8} (h:dA bits most c.toNat=false):RT (bm bits most) [c] c.toNat:=by
 rw[BV]
 have:=(ep c).bind (G:=fun a c=>nQ bits most a c) (b2:= []) (y:=c.toNat) (fun a bs s l _=>by
  unfold nQ
  rw[h]
  rfl)
 simpa using this
theorem wj (bits most:Nat) (P:Nat→Bool) (h:(List.range 256).all (fun c=>dA bits most c||P c)=true) {c:Nat} (hc:c<256) (hp:dA bits most c=false):P c=true:=by
 have:=List.all_eq_true.1 h c (List.mem_range.2 hc)
 rw[hp]at this
 simpa using this
def fK (l:eA):Prop:=l.min<18446744073709551616∧l.max<18446744073709551616
def WZ (l:eA) (k:Nat):Prop:=jD l=true∧(ea l).length≤k∧1≤k∧fK l
def rn (has:Bool):bb Nat:=fun bs s=>rp bs has s
theorem ud (has:Bool):rn has=if has then(fun bs=>rU bs 64)else kc 0:=by
 cases has<;>rfl
theorem qd (has:Bool):cT (rn has) fun x k=>(has=false→x=0)∧(if has then aI x else []).length≤k∧x<18446744073709551616:=by
 rw[ud]
 cases has with
 |true=>exact sF.mono fun x k h=>⟨(fun h=>by cases h),h.1,h.2⟩
 |false=>exact(cT.ret 0).mono fun x k h=>⟨fun _=>h.1,by simp,by rw[h.1];decide⟩
def tG (c mn:Nat):bb eA:=cM (rn (gA c)) fun mx=>⟨Cq c,mn,mx,gA c⟩
def CV (c:Nat):bb eA:=aJ (fun bs=>rU bs 64) fun _ mn=>tG c mn
theorem Fp:jr=aJ (bm 5 5) fun _ c=>CV c:=rfl
theorem rZ (c mn:Nat):ci (tG c mn):=(qd _).stuck
theorem BT (c:Nat):ci (CV c):=gO sF.stuck fun _ mn=>rZ c mn
theorem B2 (c mn:Nat):cT (tG c mn) fun l k=>l.wide=Cq c∧l.min=mn∧l.hasMax=gA c∧(l.hasMax=false→l.max=0)∧(if l.hasMax then aI l.max else []).length≤k∧l.max<18446744073709551616:=by
 refine((qd _).map _).mono ?_
 rintro y k ⟨x,rfl,h1,h2,h3⟩
 exact⟨rfl,rfl,rfl,h1,h2,h3⟩
theorem D4 (c:Nat):cT (CV c) fun l k=>l.wide=Cq c∧l.hasMax=gA c∧(l.hasMax=false→l.max=0)∧(aI l.min++(if l.hasMax then aI l.max else [])).length≤k∧fK l:=by
 refine(sF.bind (G:=fun _ mn=>tG c mn) (fun _ mn=>rZ c mn) (fun _ mn _ _=>(B2 c mn).back)).mono ?_
 rintro l k ⟨mn,k1,k2,rfl,⟨h1,h2⟩,h3,rfl,h5,h6,h7,h8⟩
 exact⟨h3,h5,h6,by rw[List.length_append];omega,h2,h8⟩
theorem nn:cT jr WZ:=by
 rw[Fp]
 refine((ei 5 5).bind (G:=fun _ c=>CV c) (fun _ c=>BT c) (fun _ c _ _=>(D4 c).back)).mono ?_
 rintro l k ⟨c,k1,k2,rfl,⟨h1,h2,rfl⟩,h3,h4,h5,h6,h7⟩
 refine⟨?_,?_,by omega,h7⟩
 ·unfold jD
  cases hh:l.hasMax with
  |true=>rfl
  |false=>simp[h5 hh]
 ·unfold ea
  exact Dj
def uW (l:eA):Nat:=(if l.hasMax then 1 else 0)+(if l.wide then 4 else 0)
theorem G7 (w hm:Bool):dA 5 5 (UInt8.ofNat ((if hm then 1 else 0)+(if w then 4 else 0))).toNat=false∧gA (UInt8.ofNat ((if hm then 1 else 0)+(if w then 4 else 0))).toNat=hm∧Cq (UInt8.ofNat ((if hm then 1 else 0)+(if w then 4 else 0))).toNat=w:=by
 cases w<;>cases hm<;>decide
theorem EI (l:eA):dA 5 5 (UInt8.ofNat (uW l)).toNat=false∧gA (UInt8.ofNat (uW l)).toNat=l.hasMax∧Cq (UInt8.ofNat (uW l)).toNat=l.wide:=G7 l.wide l.hasMax
theorem AJ {l:eA} (h:jD l=true) (hs:fK l):RT jr (ea l) l:=by
 rw[Fp]
 obtain⟨b1,b2,b3⟩:=EI l
 refine(gc (c:=UInt8.ofNat (uW l)) b1).bind (G:=fun _ c=>CV c) (b2:=aI l.min++(if l.hasMax then aI l.max else [])) fun a=> ?_
 refine(Fx hs.1).bind (G:=fun _ mn=>tG _ mn) fun a=> ?_
 unfold tG
 rw[b2,b3]
 have hm:RT (rn l.hasMax) (if l.hasMax then aI l.max else []) l.max:=by
  rw[ud]
  cases hh:l.hasMax with
  |true=>exact Fx hs.2
  |false=>
   unfold jD at h
   rw[hh]at h
   have:l.max=0:=by simpa using h
   rw[this]
   exact RT.ret 0
 exact hm.map fun mx=>(⟨l.wide,l.min,mx,l.hasMax⟩:eA)
theorem vJ (l:eA):1≤(ea l).length:=by simp[ea]
theorem sM:cT bw Wr:=⟨qV,pS⟩
theorem FB:sN=aJ bw fun a v=>jb (decide (v.kind≠3)) 60 a v:=by
 funext bs s
 unfold sN aJ jb
 by_cases h:(bw bs s).1.kind=3
 ·rw[if_pos h];simp[h]
 ·rw[if_neg h];simp[h]
def Xa (v:aF) (k:Nat):Prop:=fy v=true∧(es v).length≤k∧1≤k
theorem yU:cT sN Xa:=by
 rw[FB]
 refine(sM.bind (G:=fun a v=>jb (decide (v.kind≠3)) 60 a v) (fun a v=>iq _ 60 a v) (fun a v _ _=>nh _ (by decide) a v)).mono ?_
 rintro y k ⟨v,k1,k2,rfl,⟨h1,h2,h3⟩,h4,rfl,rfl⟩
 have h4:y.kind=3:=by simpa using h4
 refine⟨by simp[fy,h4,h1],?_,by omega⟩
 rw[ig h1]
 omega
theorem ma {v:aF} (h:fy v=true):v.kind=3∧aj v=true:=by simpa [fy]using h
theorem Gy {v:aF} (h:fy v=true):RT sN (es v) v:=by
 obtain⟨h1,h2⟩:=ma h
 rw[FB,ig h2]
 have:=(nU v h2).bind (G:=fun a v=>jb (decide (v.kind≠3)) 60 a v) (b2:= []) (y:=v) (fun a=>qZ (by simp[h1]) 60 a v)
 simpa using this
theorem Cw {v:aF} (h:aj v=true):1≤(es v).length:=by rw[ig h];exact iR v h
def TM (t:dJ) (k:Nat):Prop:=eL t=true∧(em t).length≤k∧1≤k∧fK t.lim
theorem zk:jJ=aJ sN fun _ v=>cM jr fun l=>⟨v,l⟩:=rfl
theorem ms:cT jJ TM:=by
 rw[zk]
 refine(yU.bind (G:=fun _ v=>cM jr fun l=>(⟨v,l⟩:dJ)) (fun _ v=>nn.stuck) (fun _ v _ _=>(nn.map _).back)).mono ?_
 rintro y k ⟨v,k1,k2,rfl,⟨h1,h2,h3⟩,l,rfl,h4,h5,h6,h7⟩
 refine⟨by simp[eL,h1,h4],?_,by omega,h7⟩
 unfold em
 rw[List.length_append]
 simp only
 omega
theorem yN {t:dJ} (h:eL t=true) (hs:fK t.lim):RT jJ (em t) t:=by
 unfold eL at h
 rw[Bool.and_eq_true]at h
 rw[zk]
 exact(Gy h.1).bind (G:=fun _ v=>cM jr fun l=>(⟨v,l⟩:dJ)) fun _=>(AJ h.2 hs).map _
def Ts (t:dW) (k:Nat):Prop:=aj t.val=true∧(ga t).length≤k∧1≤k
theorem xZ:jx=aJ bw fun _ v=>cM (bm 1 1) fun c=>⟨v,c !=0⟩:=rfl
theorem pq:cT jx Ts:=by
 rw[xZ]
 refine(sM.bind (G:=fun _ v=>cM (bm 1 1) fun c=>(⟨v,c !=0⟩:dW)) (fun _ v=>(ei 1 1).stuck) (fun _ v _ _=>((ei 1 1).map _).back)).mono ?_
 rintro y k ⟨v,k1,k2,rfl,⟨h1,h2,h3⟩,c,rfl,h4,h5,rfl⟩
 refine⟨h1,?_,by omega⟩
 unfold ga
 rw[List.length_append,ig h1]
 simp only[List.length_cons,List.length_nil]
 omega
theorem zr {t:dW} (h:aj t.val=true):RT jx (ga t) t:=by
 rw[xZ]
 unfold ga
 rw[ig h]
 refine(nU t.val h).bind (G:=fun _ v=>cM (bm 1 1) fun c=>(⟨v,c !=0⟩:dW)) fun _=> ?_
 obtain⟨v,m⟩:=t
 cases m with
 |true=>exact(gc (c:=1) (by decide)).map fun c=>(⟨v,c !=0⟩:dW)
 |false=>exact(gc (c:=0) (by decide)).map fun c=>(⟨v,c !=0⟩:dW)
def W7 (n:Int) (k:Nat):Prop:=ev n=true∧(eW n).length≤k∧1≤k
theorem GR:kU=aJ (bm 0 0) fun _ _=>aD:=rfl
theorem sG:cT kU W7:=by
 rw[GR]
 refine((ei 0 0).bind (G:=fun _ _=>aD) (fun _ _=>bH.stuck) (fun _ _ _ _=>bH.back)).mono ?_
 rintro y k ⟨c,k1,k2,rfl,⟨h1,h2,rfl⟩,h3,h4,h5⟩
 refine⟨h3,?_,by omega⟩
 unfold eW
 exact Dj
theorem FP {n:Int} (h:ev n=true):RT kU (eW n) n:=by
 rw[GR]
 exact(gc (c:=0) (by decide)).bind (G:=fun _ _=>aD) fun _=>dZ h
def yw (x:i9):Prop:=fK x.mem∧fK x.table.lim
theorem z5:fK eA.zero:=⟨by decide,by decide⟩
def VY (x:i9) (k:Nat):Prop:=ez x=true∧(oA x).length≤k∧1≤k∧yw x
def tY (c:Nat):bb i9:=Ax c
theorem Gh:B3=aJ (bm 7 4) fun _ c=>tY c:=rfl
theorem kS (c:Nat):tY c=if c=0 then cM aD fun n=>⟨0,n,dJ.zero,eA.zero,dW.zero⟩
 else if c=1 then cM jJ fun t=>⟨1,0,t,eA.zero,dW.zero⟩
 else if c=2 then cM jr fun l=>⟨2,0,dJ.zero,l,dW.zero⟩
 else if c=3 then cM jx fun g=>⟨3,0,dJ.zero,eA.zero,g⟩
 else cM kU fun n=>⟨c,n,dJ.zero,eA.zero,dW.zero⟩:=by
 funext bs s
 unfold tY Ax
 by_cases h0:c=0
 ·rw[if_pos h0,if_pos h0];rfl
 ·rw[if_neg h0,if_neg h0]
  by_cases h1:c=1
  ·rw[if_pos h1,if_pos h1];rfl
  ·rw[if_neg h1,if_neg h1]
   by_cases h2:c=2
   ·rw[if_pos h2,if_pos h2];rfl
   ·rw[if_neg h2,if_neg h2]
    by_cases h3:c=3
    ·rw[if_pos h3,if_pos h3];rfl
    ·rw[if_neg h3,if_neg h3];rfl
theorem B9 (c:Nat):ci (tY c):=by
 rw[kS]
 split
 ·exact bH.stuck
 ·split
  ·exact ms.stuck
  ·split
   ·exact nn.stuck
   ·split
    ·exact pq.stuck
    ·exact sG.stuck
theorem Ds {c:Nat} (hc:c≤4):cD (tY c) fun x k=>ez x=true∧(oA x).length≤1+k∧yw x:=by
 rw[kS]
 have hz:yw ⟨0,0,dJ.zero,eA.zero,dW.zero⟩:=⟨z5,z5⟩
 by_cases h0:c=0
 ·rw[if_pos h0]
  refine(bH.fine.map _).back.mono ?_
  rintro y k ⟨n,rfl,h1,h2,h3⟩
  exact⟨by simp[ez,h1],by simp[oA];omega,hz⟩
 ·rw[if_neg h0]
  by_cases h1:c=1
  ·rw[if_pos h1]
   refine(ms.map _).back.mono ?_
   rintro y k ⟨t,rfl,h1,h2,h3,h4⟩
   exact⟨by simp[ez,h1],by simp[oA];omega,z5,h4⟩
  ·rw[if_neg h1]
   by_cases h2:c=2
   ·rw[if_pos h2]
    refine(nn.map _).back.mono ?_
    rintro y k ⟨t,rfl,h1,h2,h3,h4⟩
    exact⟨by simp[ez,h1],by simp[oA];omega,h4,z5⟩
   ·rw[if_neg h2]
    by_cases h3:c=3
    ·rw[if_pos h3]
     refine(pq.map _).back.mono ?_
     rintro y k ⟨t,rfl,h1,h2,h3⟩
     exact⟨by simp[ez,h1],by simp[oA];omega,hz⟩
    ·rw[if_neg h3]
     obtain rfl:c=4:=by omega
     refine(sG.map _).back.mono ?_
     rintro y k ⟨n,rfl,h1,h2,h3⟩
     exact⟨by simp[ez,h1],by simp[oA];omega,hz⟩
theorem LG {c:Nat} (hc:c<256) (h:dA 7 4 c=false):c≤4:=by
 have:=wj 7 4 (fun c=>decide (c≤4)) (by decide+kernel) hc h
 simpa using this
theorem sI:cT B3 VY:=by
 rw[Gh]
 refine((ei 7 4).bind (G:=fun _ c=>tY c) (fun _ c=>B9 c) (fun _ c _ h=>Ds (LG h.2.1 h.1))).mono ?_
 rintro y k ⟨c,k1,k2,rfl,⟨h1,h2,rfl⟩,h3,h4,h5⟩
 exact⟨h3,by omega,by omega,h5⟩
theorem PO {x:i9} (h:ez x=true) (hs:yw x):RT B3 (oA x) x:=by
 obtain⟨kd,n,t,l,g⟩:=x
 have key:∀(c:Nat) (b:List UInt8) (x:i9),c≤4→RT (tY c) b x→RT B3 (UInt8.ofNat c::b) x:=by
  intro c b x hc hr
  rw[Gh]
  have e:(UInt8.ofNat c).toNat=c:=fh c (by omega)
  have hp:dA 7 4 (UInt8.ofNat c).toNat=false:=by
   rw[e]
   exact Wd
  have:=(gc hp).bind (G:=fun _ c=>tY c) (b2:=b) (y:=x) (fun _=>by rw[e];exact hr)
  simpa using this
 unfold ez at h
 simp only at h
 unfold oA
 simp only
 by_cases h0:kd=0∨kd=4
 ·rw[if_pos h0]at h
  simp only[Bool.and_eq_true,decide_eq_true_eq,i9.mk.injEq,true_and]at h
  obtain⟨hi,rfl,rfl,rfl⟩:=h
  rcases h0 with rfl|rfl
  ·exact key 0 (au n) _ (by decide) (by rw[kS];exact(dZ hi).map fun n=>(⟨0,n,dJ.zero,eA.zero,dW.zero⟩:i9))
  ·exact key 4 (eW n) _ (by decide) (by rw[kS];exact(FP hi).map fun n=>(⟨4,n,dJ.zero,eA.zero,dW.zero⟩:i9))
 ·rw[if_neg h0]at h
  by_cases h1:kd=1
  ·rw[if_pos h1]at h
   simp only[Bool.and_eq_true,decide_eq_true_eq,i9.mk.injEq,true_and]at h
   obtain⟨hi,rfl,rfl,rfl⟩:=h
   subst h1
   exact key 1 (em t) _ (by decide) (by rw[kS];exact(yN hi hs.2).map fun t=>(⟨1,0,t,eA.zero,dW.zero⟩:i9))
  ·rw[if_neg h1]at h
   by_cases h2:kd=2
   ·rw[if_pos h2]at h
    simp only[Bool.and_eq_true,decide_eq_true_eq,i9.mk.injEq,true_and]at h
    obtain⟨hi,rfl,rfl,rfl⟩:=h
    subst h2
    exact key 2 (ea l) _ (by decide) (by rw[kS];exact(AJ hi hs.1).map fun l=>(⟨2,0,dJ.zero,l,dW.zero⟩:i9))
   ·rw[if_neg h2]at h
    by_cases h3:kd=3
    ·rw[if_pos h3]at h
     simp only[Bool.and_eq_true,decide_eq_true_eq,i9.mk.injEq,true_and]at h
     obtain⟨hi,rfl,rfl,rfl,_⟩:=h
     subst h3
     exact key 3 (ga g) _ (by decide) (by rw[kS];exact(zr hi).map fun g=>(⟨3,0,dJ.zero,eA.zero,g⟩:i9))
    ·rw[if_neg h3]at h
     cases h
def FE (i:jp) (k:Nat):Prop:=i.modu.length≤k∧i.name.length≤k∧yw i.what
def W3 (i:jp) (k:Nat):Prop:=kl i=true∧(dR i).length≤k∧1≤k∧FE i k
def Dr (a b:List UInt8):bb jp:=cM B3 fun x=>⟨a,b,x⟩
def Cz (a:List UInt8):bb jp:=aJ cC fun _ b=>Dr a b
theorem GH:mV=aJ cC fun _ a=>Cz a:=rfl
theorem Bu (a:List UInt8):ci (Cz a):=gO tZ fun _ _=>sI.stuck
theorem Dq (a:List UInt8):cT (Cz a) fun i k=>∃k1 k2,k=k1+k2∧i.modu=a∧OL i.name k1∧VY i.what k2:=by
 refine(qC.bind (G:=fun _ b=>Dr a b) (fun _ _=>sI.stuck) (fun _ b _ _=>(sI.map _).back)).mono ?_
 rintro y k ⟨b,k1,k2,rfl,h1,x,rfl,h2⟩
 exact⟨k1,k2,rfl,rfl,h1,h2⟩
theorem IQ:cT mV W3:=by
 rw[GH]
 refine(qC.bind (G:=fun _ a=>Cz a) (fun _ a=>Bu a) (fun _ a _ _=>(Dq a).back)).mono ?_
 rintro i k ⟨a,k1,k2,rfl,⟨a1,a2,a3⟩,k3,k4,rfl,rfl,⟨b1,b2,b3⟩,c1,c2,c3,c4⟩
 refine⟨by simp[kl,a1,b1,c1],?_,by omega,?_,?_,c4⟩
 ·unfold dR
  exact Px
 ·unfold dX at a2
  rw[List.length_append]at a2
  omega
 ·unfold dX at b2
  rw[List.length_append]at b2
  omega
theorem QG {i:jp} (h:kl i=true) (hs:FE i 4294967295):RT mV (dR i) i:=by
 unfold kl at h
 simp only[Bool.and_eq_true]at h
 obtain⟨s1,s2,s3⟩:=hs
 rw[GH]
 unfold dR
 rw[List.append_assoc]
 exact(xF h.1.1 (by omega)).bind (G:=fun _ a=>Cz a) fun _=>(xF h.1.2 (by omega)).bind (G:=fun _ b=>Dr _ b) fun _=>(PO h.2 s3).map _
theorem CT (i:jp):1≤(dR i).length:=by
 have:=Ki i.modu
 unfold dR
 exact Px
def yL (e:kB) (k:Nat):Prop:=e.name.length≤k
def W6 (e:kB) (k:Nat):Prop:=kj e=true∧(fF e).length≤k∧1≤k∧yL e k
def DS (a:List UInt8) (c:Nat):bb kB:=cM aD fun n=>⟨a,c,n⟩
def Ba (a:List UInt8):bb kB:=aJ (bm 7 4) fun _ c=>DS a c
theorem Gr:mG=aJ cC fun _ a=>Ba a:=rfl
theorem BF (a:List UInt8):ci (Ba a):=gO (ei 7 4).stuck fun _ _=>bH.stuck
theorem EG (a:List UInt8):cT (Ba a) fun e k=>∃k1,k=1+k1∧e.name=a∧0≤e.kind∧e.kind≤4∧Mv e.n k1:=by
 refine((ei 7 4).bind (G:=fun _ c=>DS a c) (fun _ _=>bH.stuck) (fun _ c _ _=>(bH.fine.map _).back)).mono ?_
 rintro y k ⟨c,k1,k2,rfl,⟨h1,h2,rfl⟩,x,rfl,h3⟩
 have:=LG h2 h1
 exact⟨k2,rfl,rfl,by simp,by simp;omega,h3⟩
theorem Kx:cT mG W6:=by
 rw[Gr]
 refine(qC.bind (G:=fun _ a=>Ba a) (fun _ a=>BF a) (fun _ a _ _=>(EG a).back)).mono ?_
 rintro i k ⟨a,k1,k2,rfl,⟨a1,a2,a3⟩,k3,rfl,rfl,h1,h2,b1,b2,b3⟩
 refine⟨by simp[kj,a1,h1,h2,b1],?_,by omega,?_⟩
 ·unfold fF
  simp only[List.length_append,List.length_cons]
  omega
 ·unfold dX at a2
  rw[List.length_append]at a2
  unfold yL
  omega
theorem Rf {e:kB} (h:kj e=true) (hs:yL e 4294967295):RT mG (fF e) e:=by
 obtain⟨a,kd,n⟩:=e
 unfold kj at h
 simp only[Bool.and_eq_true,decide_eq_true_eq]at h
 obtain⟨⟨⟨h1,h2⟩,h3⟩,h4⟩:=h
 unfold yL at hs
 simp only at hs
 rw[Gr]
 unfold fF
 obtain⟨c,rfl⟩:=Int.eq_ofNat_of_zero_le h2
 have e1:(((c:Int)% 256).toNat)=c:=by omega
 have e2:(UInt8.ofNat c).toNat=c:=fh c (by omega)
 simp only[e1]
 refine(xF h1 (by omega)).bind (G:=fun _ a=>Ba a) (b2:= [UInt8.ofNat c]++au n) fun _=> ?_
 refine(gc (c:=UInt8.ofNat c) ?_).bind (G:=fun _ c=>DS a c) fun _=> ?_
 ·rw[e2]
  exact Wd
 ·rw[e2]
  exact(dZ h4).map fun n=>(⟨a,c,n⟩:kB)
theorem Cp (e:kB):1≤(fF e).length:=by
 unfold fF
 simp only[List.length_append,List.length_cons]
 omega
def LV.Z (V:LV) (rs:List Nat) (lb:Nat):List Nat:=rs++lb::(Value.blk V.fu++V.xs)
structure ow (w0 w:World) (lb:Nat) (rs:List Nat) (V:LV) (L:bT):Prop where
 fr:Fr [] w0 w
 loc:bB w lb (om V L) 108
 own:bf [] w 55 3 V.fu L.m.funcs.length V.fcs
 newl:w0.heap.size≤lb
 newf:jS w0 V.fu
 ap:lb∉Value.blk V.fu
 apr:∀r,r∈rs→w0.heap.size≤r∧r≠lb∧r∉Value.blk V.fu
 xl:XL w0 w lb rs V
 stay:cE (V.Z rs lb) w (Pw V L)
theorem vB.g {w0 w:World} {lb rb:Nat} {V:LV} {L:bT} (h:vB w0 w lb rb V L):ow w0 w lb [rb] V L:=
 ⟨h.fr,h.loc,h.own,h.newl,h.newf,h.ap,fun r hr=>by simp at hr;subst hr;exact⟨h.newr,h.apr⟩,h.xl,h.stay⟩
theorem ow.t {w0 w:World} {lb rb:Nat} {V:LV} {L:bT} (h:ow w0 w lb [rb] V L):vB w0 w lb rb V L:=
 have h1:=h.apr rb (by simp)
 ⟨h.fr,h.loc,h.own,h.newl,h.newf,h.ap,h1.1,h1.2,h.xl,h.stay⟩
section
variable {w0 w w' : World} {lb : Nat} {rs : List Nat} {V V' : LV} {L L' : bT} {P : World → Prop}
theorem ow.step (h:ow w0 w lb rs V L) {X:List Nat} (hf:Fr X w w') (hX:∀b,b∈X→b∈rs):ow w0 w' lb rs V L:=
 ⟨h.fr.then hf (fun b hb=> .inr (h.apr b (hX b hb)).1),h.loc.fr hf (fun hm=>(h.apr lb (hX lb hm)).2.1 rfl),h.own.fr hf (fun b hb=>(h.apr b (hX b hb)).2.2),h.newl,h.newf,h.ap,h.apr,h.xl.fr hf (fun b hb=> .inr (.inl (hX b hb))),
  h.stay.go hf (fun b _ hb=>by simp[LV.Z,hX b hb]) (fun _ _ hb=>hb)⟩
theorem ow.more (h:ow w0 w lb rs V L) (hf:Fr [] w w') {r:Nat} (hr:w.heap.size≤r):ow w0 w' lb (r::rs) V L:=by
 have h1:=h.step hf (by simp)
 have hlb:=h.loc.lt
 have hsz:=h.fr.size
 refine⟨h1.fr,h1.loc,h1.own,h.newl,h.newf,h.ap,fun b hb=> ?_,h.xl.more hf hr,h.stay.go hf (by simp) fun b hlt hb=> ?_⟩
 ·rcases List.mem_cons.1 hb with rfl|hb
  ·refine⟨by omega,by omega,fun hm=> ?_⟩
   have:=(h.own.blk_lt b hm).1
   omega
  ·exact h.apr b hb
 ·simp only[LV.Z,List.cons_append,List.mem_cons]at hb
  rcases hb with rfl|hb
  ·omega
  ·exact hb
theorem ow.less {r:Nat} (h:ow w0 w lb (r::rs) V L):ow w0 w lb rs V L:=
 ⟨h.fr,h.loc,h.own,h.newl,h.newf,h.ap,fun b hb=>h.apr b (List.mem_cons_of_mem _ hb),h.xl.less,h.stay.sub fun b _ hb=>by simp only[LV.Z,List.cons_append]at hb⊢;exact List.mem_cons_of_mem _ hb⟩
theorem ow.set (h:ow w0 w lb rs V L) {i:Nat} {v:Value} (hp:cE (V.Z rs lb) w P) (hC:(om V L).set i v=om V' L') (hfu:V'.fu=V.fu) (hxs:V'.xo=V.xo) (hfc:V'.fcs=V.fcs) (hfs:L'.m.funcs.length=L.m.funcs.length) (hP:∀w,Pw V L w→P w→Pw V' L' w):
 ow w0 (w.setCell ⟨lb,i,none⟩ v) lb rs V' L':=by
 have hf:Fr [lb] w (w.setCell ⟨lb,i,none⟩ v):=(Fr.refl [lb] w).setCell (p:=⟨lb,i,none⟩) (by simp) v
 refine⟨h.fr.then hf (fun b hb=>by simp at hb;subst hb;exact .inr h.newl),?_,?_,h.newl,by rw[hfu];exact h.newf,by rw[hfu];exact h.ap,by rw[hfu];exact h.apr,(h.xl.fr hf (fun b hb=>by simp at hb;exact .inl hb)).as hfu hxs,?_⟩
 ·rw[←hC]
  exact h.loc.set i v
 ·rw[hfu,hfc,hfs]
  exact h.own.fr hf fun b hb hm=>by simp at hb;subst hb;exact h.ap hm
 ·have e:V'.Z rs lb=V.Z rs lb:=by unfold LV.Z LV.xs;rw[hfu,hxs]
  rw[e]
  exact((h.stay.and hp).imp fun w hw=>hP w hw.1 hw.2).go hf (fun b _ hb=>by simp at hb;subst hb;simp[LV.Z]) (fun _ _ hb=>hb)
theorem ow.setF (h:ow w0 w lb rs V L) {g c j:Nat} (hfu:V.fu= .slice (some ⟨g,0,none⟩) L.m.funcs.length c) (hj:j<L.m.funcs.length*3) {u:Value} (hu:u.oneCell'=true) (hp:cE (V.Z rs lb) w P) {m:aV} (hm:m={L.m with funcs:=m.funcs}) (hfs:m.funcs.length=L.m.funcs.length)
 (hP:∀w,bU ku L.m.funcs V.fcs w→P w→bU ku m.funcs (V.fcs.set j u) w):
 ow w0 (w.setCell ⟨g,j,none⟩ u) lb rs {V with fcs:=V.fcs.set j u} {L with m:=m}:=by
 have hbl:Value.blk V.fu= [g]:=by rw[hfu];rfl
 have hf:Fr [g] w (w.setCell ⟨g,j,none⟩ u):=(Fr.refl [g] w).setCell (p:=⟨g,j,none⟩) (by simp) u
 have hgn:lb≠g:=fun e=>h.ap (by rw[hbl,e];simp)
 have ho:=h.own
 rw[hfu]at ho
 have ho2:=ho.setAt hj hu
 refine⟨h.fr.then hf (fun b hb=> .inr (h.newf b (by rw[hbl];exact hb))),?_,?_,h.newl,h.newf,h.ap,h.apr,(h.xl.fr hf (fun b hb=> .inr (.inr (by rw[hbl];exact hb)))).as rfl rfl,?_⟩
 ·have e:om {V with fcs:=V.fcs.set j u} {L with m:=m}=om V L:=by
   unfold om
   rw[hm]
  rw[e]
  exact h.loc.fr hf (by simpa using hgn)
 ·show bf [] _ _ 3 V.fu m.funcs.length (V.fcs.set j u)
  rw[hfs,hfu]
  exact ho2
 ·refine((h.stay.and hp).imp fun w hw=> ?_).go hf (fun b _ hb=>by simp at hb;subst hb;simp[LV.Z,hbl]) (fun _ _ hb=>hb)
  obtain⟨⟨a1,a2,a3,a4⟩,hq⟩:=hw
  rw[hm]
  exact⟨a1,a2,hP w a3 hq,a4⟩
theorem ow.rd (h:ow w0 w lb rs V L) {r:Nat} (hr:r∈rs) {bv:Value} {bs:List UInt8} {s:ax} (hR:Rd (V.Z rs lb) w r bv bs s) {X:List Nat} (hf:Fr X w w') (hX:∀b,b∈X→b∈V.Z rs lb) (hn:r∉X):Rd (V.Z rs lb) w' r bv bs s:=
 hR.fr hf (fun b _ hb=>hX b hb) hn
end
theorem bU.split {α:Type} {R:α→List Value→World→Prop} {w:World}:∀{xs ys:List α} {cs:List Value},bU R (xs++ys) cs w→∃c1 c2,cs=c1++c2∧bU R xs c1 w∧bU R ys c2 w
 | [],_,cs,h=>⟨[],cs,rfl,rfl,h⟩
 |x::xs,ys,_,⟨c,r,e,h1,h2⟩=>by
  obtain⟨c1,c2,e2,h3,h4⟩:=bU.split (xs:=xs) (ys:=ys) h2
  subst e e2
  exact⟨c++c1,c2,by simp,⟨c,c1,rfl,h1,h3⟩,h4⟩
theorem bU.append {α:Type} {R:α→List Value→World→Prop} {w:World} {ys:List α} {c2:List Value} (h2:bU R ys c2 w):∀{xs:List α} {c1:List Value},bU R xs c1 w→bU R (xs++ys) (c1++c2) w
 | [],_,h=>by
  have h: _= []:=h
  subst h
  exact h2
 |x::xs,_,⟨c,r,e,h1,h3⟩=>by
  subst e
  exact⟨c,r++c2,by simp,h1,bU.append h2 h3⟩
theorem BE (f:dh) (c:List Value) (w:World) (h:ku f c w):c.length=3:=by
 obtain⟨lv,bv,rfl,_⟩:=h
 rfl
theorem Cr {done rest:List dh} {f:dh} {fcs:List Value} {w:World} {v:Value} {l:List fN} (h:bU ku (done++f::rest) fcs w) (hv:an 5 (aE fk) v l w):
 bU ku (done++{f with locals:=l}::rest) (fcs.set (done.length*3+1) v) w:=by
 obtain⟨c1,c2,e,h1,⟨c,r,e2,⟨lv,bv,e3,h3,h4⟩,h5⟩⟩:=h.split
 subst e e2 e3
 have hl:=bU.len (fun x c h=>BE x c w h) h1
 rw[List.set_append,if_neg (by omega),hl,show done.length*3+1-done.length*3=1 by omega]
 exact bU.append (R:=ku) (ys:={f with locals:=l}::rest) ⟨[.int .i64 f.type,v,bv],r,rfl,⟨v,bv,rfl,hv,h4⟩,h5⟩ h1
theorem J1 {done rest:List dh} {f:dh} {fcs:List Value} {w:World} {v:Value} {l:List aa} (h:bU ku (done++f::rest) fcs w) (hv:eo v l w):
 bU ku (done++{f with body:=l}::rest) (fcs.set (done.length*3+2) v) w:=by
 obtain⟨c1,c2,e,h1,⟨c,r,e2,⟨lv,bv,e3,h3,h4⟩,h5⟩⟩:=h.split
 subst e e2 e3
 have hl:=bU.len (fun x c h=>BE x c w h) h1
 rw[List.set_append,if_neg (by omega),hl,show done.length*3+2-done.length*3=2 by omega]
 exact bU.append (R:=ku) (ys:={f with body:=l}::rest) ⟨[.int .i64 f.type,lv,v],r,rfl,⟨lv,v,rfl,h3,hv⟩,h5⟩ h1
end Go.Proofs.YtpdlmdlkecnpgaaGreatDoor
