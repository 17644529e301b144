/- Texts: ArgB ArgK MdP8 ModL2 ModL3 ModL4 ModL5 ModL6 ModL7 LawK7 Arg7K MdWt MdPb MdCv MdPu. -/
import Derived.Test.YtpdlmdlkecnpgaaGreatDoorH0
import Derived.Test.YtpdlmdlkecnpgaaGreatDoorH7
import Derived.Test.YtpdlmdlkecnpgaaGreatDoorH8
import Derived.Deep.Slices
import Derived.Lib.SmallJoins
import Derived.Test.YtpdlmdlkecnpgaaGreatDoorH33
import Derived.Test.YtpdlmdlkecnpgaaGreatDoorH36
import Derived.Test.YtpdlmdlkecnpgaaGreatDoorH29
import Derived.Test.YtpdlmdlkecnpgaaGreatDoorH37
import Derived.Test.YtpdlmdlkecnpgaaGreatDoorH34
import Derived.Test.YtpdlmdlkecnpgaaGreatDoorH40
set_option linter.unusedSimpArgs false
set_option linter.unusedVariables false
namespace Go.Proofs.YtpdlmdlkecnpgaaGreatDoor
open Go.ChangeShapes Go.WideShapes Go.ChangeAt Go.RowKit Go.Joins
theorem fg:Tryz.prog.underlying 3=some (.int .i64):=by kernel_rfl
theorem ji:Tryz.prog.underlying 4=some .bool:=by kernel_rfl
theorem Sq:Tryz.prog.underlying 5=some (.int .u8):=by kernel_rfl
theorem IX:Tryz.prog.underlying 56=some (.int .i64):=by kernel_rfl
theorem KJ:Tryz.prog.underlying 130=some (.int .i64):=by kernel_rfl
theorem Ie:Tryz.prog.underlying 57=some (.int .i64):=by kernel_rfl
theorem eh:Tryz.prog.cellsOf 3=1:=by kernel_rfl
theorem ir:Tryz.prog.cellsOf 4=1:=by kernel_rfl
theorem Cu:Tryz.prog.cellsOf 5=1:=by kernel_rfl
theorem CL:Tryz.prog.cellsOf 57=1:=by kernel_rfl
theorem Bp:Tryz.prog.cellsOf 56=1:=by kernel_rfl
theorem Ck:Tryz.prog.cellsOf 130=1:=by kernel_rfl
theorem nJ:Tryz.prog.cellsOf 59=2:=by kernel_rfl
theorem gf:Tryz.prog.cellsOf 61=4:=by kernel_rfl
theorem BG:Tryz.prog.cellsOf 206=5:=by kernel_rfl
theorem uz:Tryz.prog.cellsOf 208=6:=by kernel_rfl
theorem EB:Tryz.prog.cellsOf 134=4:=by kernel_rfl
theorem yJ:Tryz.prog.cellsOf 136=6:=by kernel_rfl
theorem vV:Tryz.prog.cellsOf 131=1:=by kernel_rfl
theorem B4:Tryz.prog.cellsOf 129=1:=by kernel_rfl
theorem Au:Tryz.prog.cellsOf 132=1:=by kernel_rfl
section
set_option maxRecDepth 100000
variable {H : Type} {enc : TypeId × Value → H} {w : World} {sp : Nat → Bool} {held : Bool} {fuel : Nat} {cs : List Value} {x : DataW H × List MemPlace}
def sw (n:Int):Prop:= -9223372036854775808≤n∧n<9223372036854775808
def aF.ok (v:aF):Prop:=sw v.kind∧v.heap.ok
def ey.ok (f:ey):Prop:=sw f.pack∧f.val.ok
theorem se (h:DataW.trod enc Tryz.prog w 0 sp held fuel 59 cs=some x):∃t:aC,cs=ju t∧t.ok:=by
 obtain⟨y0,y1,n,_,hl,h0,h1⟩:=trod_struct2 Tryz.underlying59 h
 rw[nJ]at hl
 match cs,hl with
 | [c0,c1],_=>
  simp only[List.drop,List.take,CL,eh]at h0 h1
  obtain⟨k,e0,_,w0⟩:=DataW.trod_int Ie h0
  obtain⟨m,e1,_,w1⟩:=DataW.trod_int fg h1
  simp only[List.cons.injEq,and_true]at e0 e1
  subst e0 e1
  exact⟨⟨k,m⟩,rfl,iy w0,iy w1⟩
theorem kA (h:DataW.trod enc Tryz.prog w 0 sp held fuel 61 cs=some x):∃t:aF,cs=cj t∧t.ok:=by
 obtain⟨y0,y1,y2,n,_,hl,h0,h1,h2⟩:=Go.Deep.trod_struct3 Tryz.underlying61 h
 rw[gf]at hl
 match cs,hl with
 | [c0,c1,c2,c3],_=>
  simp only[List.drop,List.take,Bp,ir,nJ]at h0 h1 h2
  obtain⟨k,e0,_,w0⟩:=DataW.trod_int IX h0
  obtain⟨b,e1,_⟩:=DataW.trod_bool ji h1
  obtain⟨t,e2,ok⟩:=se h2
  simp only[ju,List.cons.injEq,and_true]at e0 e1 e2
  obtain⟨e2,e3⟩:=e2
  subst e0 e1 e2 e3
  exact⟨⟨k,b,t⟩,rfl,iy w0,ok⟩
theorem IK (h:DataW.trod enc Tryz.prog w 0 sp held fuel 208 cs=some x):∃t:ey,cs=fG t∧t.ok:=by
 obtain⟨y0,y1,n,_,hl,h0,h1⟩:=trod_struct2 Tryz.underlying208 h
 rw[uz]at hl
 match cs,hl with
 | [c0,c1,c2,c3,c4,c5],_=>
  simp only[List.drop,List.take,BG,ir]at h0 h1
  obtain⟨z0,z1,m,_,_,g0,g1⟩:=trod_struct2 Tryz.underlying206 h0
  simp only[List.drop,List.take,eh,gf]at g0 g1
  obtain⟨k,e0,_,w0⟩:=DataW.trod_int fg g0
  obtain⟨t,e1,ok⟩:=kA g1
  obtain⟨b,e5,_⟩:=DataW.trod_bool ji h1
  simp only[cj,List.cons.injEq,and_true]at e0 e1 e5
  obtain⟨e1,e2,e3,e4⟩:=e1
  subst e0 e1 e2 e3 e4 e5
  exact⟨⟨k,t,b⟩,rfl,iy w0,ok⟩
def B8 (n:UInt8):List Value:= [B n]
theorem Gj (l:List UInt8):l.flatMap B8=l.map B:=by
 induction l with
 |nil=>rfl
 |cons a l ih=>rw[List.flatMap_cons,ih];rfl
theorem My (h:DataW.trod enc Tryz.prog w 0 sp held fuel 5 cs=some x):∃c:UInt8,cs=B8 c:=by
 obtain⟨n,rfl,_,w0⟩:=DataW.trod_int Sq h
 obtain⟨a,b⟩:=Vn w0
 refine⟨UInt8.ofNat n.toNat,?_⟩
 unfold B8 B
 congr 2
 rw[UInt8.toNat_ofNat_of_lt' (by show n.toNat<256;omega)]
 omega
theorem Hg (h:DataW.trod enc Tryz.prog w 0 sp held fuel 34 cs=some x):∃(v:Value) (l:List UInt8),cs= [v]∧Sl [] w 1 v l.length (l.map B):=by
 obtain⟨v,l,h1,h2,_⟩:=xT B8 1 (fun _=>True) aB Cu (by decide) (fun _=>rfl) (fun a _ u hu=>by simp[B8]at hu;subst hu;rfl) (fun _ _ _ h=>(My h).imp fun _ h=>⟨h,trivial⟩) h
 refine⟨v,l,h1,?_⟩
 rwa [Gj]at h2
end
set_option maxRecDepth 100000
section
variable {H : Type} {enc : TypeId × Value → H} {w : World} {sp : Nat → Bool} {held : Bool} {fuel : Nat} {cs : List Value} {x : DataW H × List MemPlace}
structure bu.num (t:bu):Prop where
 kind:sw t.comp.kind
 sup:∀h,h∈t.supers→h.ok
 par:∀x,x∈t.comp.params→x.ok
 res:∀x,x∈t.comp.results→x.ok
 fld:∀x,x∈t.comp.fields→x.ok
structure V7 where
 t:bu
 hv:Value
 pv:Value
 rv:Value
 fv:Value
deriving Inhabited
def V7.cells (s:V7):List Value:=Kd s.t s.hv s.pv s.rv s.fv
end
open Go.RowKit
set_option maxRecDepth 100000
set_option maxHeartbeats 3200000
theorem DF {w0:World} (hg:cq [] w0) (f:dh) (c:List Value) (h:ku f c w0) (hr:∀r∈f.locals,(0≤r.n∧r.n<9223372036854775808)∧r.val.heap.ok) (hp:jq f.body) (hll:(ae ee f.locals).length≤17592186044000):d9 Tryz.prog 36 w0 (.agg c.toArray) (dq f) 35184372088832:=by
 intro G w v xs hS hx
 obtain⟨lv,bv,rfl,hi,hb⟩:=h
 have hi2:=hi
 have hb2:=hb
 obtain⟨a,cc,rfl⟩:=hi.shape
 obtain⟨a2,cc2,rfl⟩:=an.shape hb
 have HR:Hid (∀r∈f.locals,∀c,aE fk r c w0→d9 Tryz.prog 100 w0 (.agg c.toArray) (ee r) 35184372088832):=Lib.hid fun r hrm c hR=>by
  obtain rfl:c=fk r:=hR
  intro G w v xs hS hx
  exact QY hS hg r (hr r hrm).1 (hr r hrm).2 (by omega)
 have hl3:([]:List UInt8).length+(ae ee f.locals).length≤35184372088832:=by simp;omega
 have lp:=hp.len
 have e:xs++dq f=xs++aX (ae ee f.locals++al f.body):=rfl
 rw[e]
 clear e hi hb hr
 go_enter Tryz.func36,Tryz.ntmps36
 go_wp2_with first|(go_at_call 99;refine(IR ik (p:=ee) (xs:= []) (St.dst (G:= _) (by exact aA) (.nil rfl)) hi2 (N:=35184372088832) (by decide) hl3 HR.out).mono ?_;rintro e w4 ⟨v4,rfl,hS⟩;rw[List.nil_append]at hS;(try clear hQ);have hQ:=St.fq hS)|(go_at_call 87;refine tD hg f.body hb2 hp ?_;refine kv ?_;intro vN wN hS;(try clear hQ);have hQ:=St.fq hS)|(go_at_call 30;refine oQ ?_;refine QV ?_;intro vN wN hS;(try clear hQ);have hQ:=St.fq hS)|fail
 exact sz
theorem zf {w0 w:World} {v sv:Value} {s:List UInt8} {Q:Ending→World→Prop} (hb:Sl [] w0 1 sv s.length (s.map B)) (h:∃G G' xs,St [] w0 w G∧bg G (.own 5 1 (v) (xs).length ((xs).map B)) G'∧s.length≤35184372088832∧xs.length≤70368744177000∧∀v' w',St [] w0 w' (.own 5 1 (v') (xs++aX s).length ((xs++aX s).map B)::G')→Q (.returned v') w'):Calls Tryz.prog 30 #[v,sv] w Q:=by
 obtain⟨G,G',xs,h1,h2,h4,h5,h6⟩:=h
 exact(Dc (S:= []) (h1.pick h2) hb h4 h5).mono fun e w' ⟨v',e1,e2⟩=>e1▸h6 v' w' e2
theorem DT {w0:World} (hg:cq [] w0) (d:jG) (c:List Value) (h:rK d c w0) (hm:0≤d.mem∧d.mem<9223372036854775808) (hp:jq d.offset) (hl:d.bytes.length≤35184372088832):d9 Tryz.prog 38 w0 (.agg c.toArray) (eu d) 35184372088832:=by
 intro G w v xs hS hx
 obtain⟨v1,v2,rfl,hr,hb⟩:=h
 have hb2:=hr
 have bs2:=hb
 obtain⟨a,cc,rfl⟩:=an.shape hr
 obtain⟨a2,cc2,rfl⟩:=hb.shape
 have lp:=hp.len
 have ln:=az d.mem hm.2
 clear hr hb
 by_cases h0:d.mode=0
 ·have q:(d.mode==0)=true:=by simp[h0]
  have e:xs++eu d=xs++ [UInt8.ofNat (1:Int).toNat]++aX d.bytes:=by unfold eu;simp[h0]
  rw[e]
  clear e h0
  go_enter Tryz.func38,Tryz.ntmps38
  go_wp2_with first|(at_builtin;(try clear hQ);refine wb fun vN wN hS hQ=> ?_)|(go_at_call 30;refine zf bs2 ?_;refine VA ?_;intro vN wN hS;(try clear hQ);have hQ:=St.fq hS)|fail
  exact sz
 ·have q:(d.mode==0)=false:=by simp[h0]
  by_cases h1:d.mem=0
  ·have q1:(d.mem==0)=true:=by simp[h1]
   have e:xs++eu d=xs++ [UInt8.ofNat (0:Int).toNat]++al d.offset++aX d.bytes:=by unfold eu;simp[h0,h1]
   rw[e]
   clear e h0 h1
   go_enter Tryz.func38,Tryz.ntmps38
   go_wp2
   go_region_held3 (fun w'=>w'.cell? ⟨w.heap.size,2,none⟩=some (.slice a d.offset.length cc)) (first|(go_keep;done)|(simp[hQ];done)) (first|((try clear hQ);refine JK fun vN wN hS hQ=> ?_)|(go_at_call 87;refine tD hg d.offset hb2 hp ?_;refine kv ?_;intro vN wN hS;(try clear hQ);have hQ:=St.fq hS))
   exact U0
  ·have q1:(d.mem==0)=false:=by simp[h1]
   have e:xs++eu d=xs++ [UInt8.ofNat (2:Int).toNat]++au d.mem++al d.offset++aX d.bytes:=by unfold eu;simp[h0,h1]
   rw[e]
   clear e h0 h1
   go_enter Tryz.func38,Tryz.ntmps38
   go_wp2
   go_region_held3 (fun w'=>w'.cell? ⟨w.heap.size,1,none⟩=some (.int .i64 d.mem)∧w'.cell? ⟨w.heap.size,2,none⟩=some (.slice a d.offset.length cc)) (first|(go_keep;done)|(simp[hQ];done)) (first|((try clear hQ);refine JK fun vN wN hS hQ=> ?_)|(go_at_call 19;refine ki ?_;refine sC ?_;intro vN wN hS;(try clear hQ);have hQ:=St.fq hS)|(go_at_call 87;refine tD hg d.offset hb2 hp ?_;refine kv ?_;intro vN wN hS;(try clear hQ);have hQ:=St.fq hS))
   exact U0
def gu (l:List aa) (k:Nat):Prop:=∀i,i∈l→lJ i k
theorem lJ.up {i:aa} {k m:Nat} (h:lJ i k) (hk:k≤m):lJ i m:=⟨h.1,Nat.le_trans h.2.1 hk,Nat.le_trans h.2.2.1 hk,Nat.le_trans h.2.2.2 hk⟩
theorem gu.up {l:List aa} {k m:Nat} (h:gu l k) (hk:k≤m):gu l m:=fun i hi=>(h i hi).up hk
theorem mK (k:Nat):gu [] k:=fun _ h=>by cases h
def Sp (l:List aa) (k:Nat):Prop:=cG l=true∧(al l).length≤k∧1≤k∧gu l k
theorem zX:∀(f:Nat) (bs:List UInt8) (n:List Bool) (s:ax),s.err≠0→dE bs f n s=(none,s)
 |0,_,_,_,_=>rfl
 |f+1,bs,n,s,h=>by
  have h1:=j5.stuck bs s h
  unfold dE
  rw[h1,if_pos h]
theorem j7:ci bI:=fun bs s h=>by
 unfold bI
 rw[zX _ bs [] s h]
theorem uR {l:List aa} (h:cG l=true):al l=l.flatMap de++ [11]:=by
 unfold al
 unfold cG at h
 rw[h]
 rfl
theorem jE:cT bI Sp:=⟨j7,fun bs s he ha h0=>by
 obtain⟨l,k,e,h1,h2,h3,h4⟩:=uD (bs.length+1-s.at_) bs [] s he ha (by omega) h0
 have hok:cG l=true:=by
  unfold cG
  rw[Bool.and_eq_true]
  exact⟨List.all_eq_true.2 fun i hi=>(h2 i hi).1,(qL l).2 h3⟩
 have e1:bI bs s=(l,s.adv k):=by unfold bI;rw[e];rfl
 rw[e1]
 refine⟨k,rfl,h1,hok,?_,by omega,fun i hi=>(h2 i hi).2⟩
 rw[uR hok,List.length_append]
 exact h4⟩
theorem ly {l:List aa} (h:cG l=true) (hs:gu l 4294967295):RT bI (al l) l:=fun bs s r ha=>by
 have hp:=uR h
 unfold cG at h
 rw[Bool.and_eq_true]at h
 have hf:=Mc l
 rw[hp]at ha⊢
 have h3:=congrArg List.length ha.eq
 simp only[List.length_drop,List.length_append,List.length_cons,List.length_nil]at h3
 have:=yA l [] (bs.length+1-s.at_) (fun i hi=>⟨List.all_eq_true.1 h.1 i hi,hs i hi⟩) ((qL l).1 h.2) (by omega) bs s r ha
 unfold bI
 rw[this]
 rfl
theorem qK {l:List aa} (h:cG l=true):1≤(al l).length:=by
 rw[uR h]
 simp
def Q7 {α:Type} (P:α→Nat→Prop) (put:α→List UInt8) (l:List α) (k:Nat):Prop:=(ae put l).length≤k∧1≤k∧∀x,x∈l→∃j,j≤k∧P x j
theorem Pi {α:Type} {P:α→Nat→Prop} {l:List α} {ks:List Nat} (h:D9 P l ks):∀x,x∈l→∃j,j≤ks.sum∧P x j:=by
 induction h with
 |nil=>intro x hx;cases hx
 | @cons a b l m hp _ ih=>
  intro x hx
  rcases List.mem_cons.1 hx with rfl|hx
  ·exact⟨b,by simp,hp⟩
  ·obtain⟨j,h1,h2⟩:=ih x hx
   exact⟨j,by simp only[List.sum_cons];omega,h2⟩
theorem ti {α:Type} {F:bb α} {P:α→Nat→Prop} {put:α→List UInt8} (hF:cT F P) (hP:∀x k,P x k→(put x).length≤k∧1≤k) (n:Nat):
 cT (fun bs s=>av (F bs) n s) (fun l k=>l.length=n∧(l.flatMap put).length≤k∧n≤k∧∀x,x∈l→∃j,j≤k∧P x j):=
 ⟨gJ n,(nr hF.back n).mono fun l k ⟨h1,ks,h2,h3⟩=>by
  have hs:=E9 put hP h3
  subst h2
  exact⟨h1,hs.1,by omega,Pi h3⟩⟩
theorem LU {α:Type} (F:bb α):gM F=aJ af fun _ n=>fun bs s=>av (F bs) n s:=rfl
theorem od {α:Type} {F:bb α} {P:α→Nat→Prop} {put:α→List UInt8} (hF:cT F P) (hP:∀x k,P x k→(put x).length≤k∧1≤k):cT (gM F) (Q7 P put):=by
 rw[LU]
 refine(uf.bind (G:=fun _ n=>fun bs s=>av (F bs) n s) (fun _ n=>(ti hF hP n).stuck) (fun _ n _ _=>(ti hF hP n).back)).mono ?_
 rintro l k ⟨n,k1,k2,rfl,⟨h1,h2⟩,rfl,h3,h4,h5⟩
 have:=dQ l.length
 refine⟨?_,by omega,fun x hx=> ?_⟩
 ·exact xX
 ·obtain⟨j,a,b⟩:=h5 x hx
  exact⟨j,by omega,b⟩
theorem Q7.len {α:Type} {P:α→Nat→Prop} {put:α→List UInt8} {l:List α} {k:Nat} (h:Q7 P put l k) (hP:∀x,x∈l→1≤(put x).length):l.length≤k:=by
 have:=fZ put l hP
 have h1:=h.1
 unfold ae at h1
 rw[List.length_append]at h1
 omega
theorem Q7.all {α:Type} {P:α→Nat→Prop} {put:α→List UInt8} {l:List α} {k:Nat} (h:Q7 P put l k) {p:α→Bool} (hp:∀x j,P x j→p x=true):l.all p=true:=
 List.all_eq_true.2 fun x hx=>let⟨j,_,hj⟩:=h.2.2 x hx;hp x j hj
def CG (t:lO) (k:Nat):Prop:=fK t.type.lim∧gu t.init k
def Xl (t:lO) (k:Nat):Prop:=gC t=true∧(fD t).length≤k∧1≤k∧CG t k
def pC (has:Bool):bb (List aa):=mX has
theorem rW (has:Bool):pC has=if has then bI else kc []:=by cases has<;>rfl
def C8 (has:Bool) (t:dJ):bb lO:=cM (pC has) fun l=>⟨t,has,l⟩
def yn (has:Bool):bb lO:=aJ jJ fun _ t=>C8 has t
theorem Gf:nt=aJ dl fun _ h=>yn h:=rfl
theorem wU:ci dl:=fun bs s h=>by
 unfold dl
 split
 ·have h1:=eF bs s h
  have:=(ei 0 0).stuck bs (ai bs s).2 (by rw[h1];exact h)
  show(bm 0 0 bs (ai bs s).2).2=s
  rw[this,h1]
 ·rfl
theorem xV:cD dl fun h k=>k=if h then 2 else 0:=fun bs s he ha h0=>by
 unfold dl at h0⊢
 by_cases hc:s.at_<bs.length∧bs.getD s.at_ 0=64
 ·rw[if_pos hc]at h0⊢
  have h1:(ai bs s).2=s.adv 1:=by
   unfold ai
   rw[if_pos ⟨he,hc.1⟩]
   rfl
  simp only[h1]at h0⊢
  obtain⟨k,e,l,p1,p2,rfl⟩:=(ei 0 0).back bs (s.adv 1) he (by simp;omega) h0
  simp at l
  exact⟨2,by rw[e,dt],by omega,rfl⟩
 ·rw[if_neg hc]
  exact⟨0,rfl,by simpa using ha,rfl⟩
theorem lu (has:Bool):cT (pC has) fun l k=>cG l=true∧(has=false→l= [])∧(if has then al l else []).length≤k∧gu l k:=by
 rw[rW]
 cases has with
 |true=>exact jE.mono fun l k h=>⟨h.1,(fun h=>by cases h),h.2.1,h.2.2.2⟩
 |false=>exact(cT.ret []).mono fun l k ⟨h,_⟩=>⟨by rw[h];rfl,fun _=>h,by simp,by rw[h];exact mK k⟩
theorem Bk (has:Bool):ci (yn has):=gO ms.stuck fun _ _=>(lu has).stuck
theorem Dx (has:Bool):cT (yn has) fun t k=>t.hasInit=has∧gC t=true∧(em t.type++(if has then al t.init else [])).length≤k∧1≤k∧CG t k:=by
 refine(ms.bind (G:=fun _ t=>C8 has t) (fun _ _=>(lu has).stuck) (fun _ t _ _=>((lu has).map _).back)).mono ?_
 rintro y k ⟨t,k1,k2,rfl,⟨h1,h2,h3,h4⟩,l,rfl,g1,g2,g3,g4⟩
 refine⟨rfl,?_,?_,by omega,h4,g4.up (by omega)⟩
 ·unfold gC
  simp only[h1,g1,Bool.true_and,Bool.or_eq_true,decide_eq_true_eq]
  cases has with
  |true=>exact .inl rfl
  |false=>right;rw[g2 rfl];rfl
 ·rw[List.length_append]
  simp only
  omega
theorem KQ:cT nt Xl:=by
 rw[Gf]
 refine((⟨wU,xV⟩:cT dl _).bind (G:=fun _ h=>yn h) (fun _ h=>Bk h) (fun _ h _ _=>(Dx h).back)).mono ?_
 rintro t k ⟨h,k1,k2,rfl,rfl,rfl,g1,g2,g3,g4,g5⟩
 refine⟨g1,?_,by omega,g4,g5.up (by omega)⟩
 unfold fD
 rw[List.length_append]at g2
 cases hh:t.hasInit with
 |true=>
  simp only[hh,if_true,List.length_cons,List.length_append]at g2⊢
  omega
 |false=>
  simp only[hh]at g2⊢
  simp at g2⊢
  omega
theorem KD {v:aF} (h:fy v=true):∃b r,es v=b::r∧b≠64:=by
 obtain⟨h1,h2⟩:=ma h
 rw[ig h2]
 obtain⟨kd,nu,hk,hn⟩:=v
 simp only at h1
 subst h1
 unfold bZ
 simp only
 rw[if_neg (by decide:¬(3:Int)=1),if_neg (by decide:¬(3:Int)=2)]
 by_cases c1:nu=false
 ·rw[if_pos c1]
  exact⟨100,_,rfl,by decide⟩
 ·rw[if_neg c1]
  by_cases c2:hk=13
  ·rw[if_pos c2]
   exact⟨99,_,rfl,by decide⟩
  ·rw[if_neg c2]
   have hg:1≤hk∧hk≤12:=by
    unfold aj at h2
    simp only at h2
    rw[if_neg (by decide:¬((3:Int)=1∨(3:Int)=2)),if_pos trivial,Bool.or_eq_true]at h2
    rcases h2 with h2|h2
    ·have:=of_decide_eq_true h2
     exact⟨this.1,this.2.1⟩
    ·have:=of_decide_eq_true h2
     exact absurd this.1 c2
   unfold d8
   rw[if_neg c2]
   obtain⟨m,rfl⟩:=Int.eq_ofNat_of_zero_le (by omega:0≤hk)
   have key:∀m∈List.range 13,m=0∨(match nc ((m:Nat):Int)with|b:: _=>decide (b≠64)| []=>false)=true:=by decide
   have:=key m (List.mem_range.2 (by omega))
   rcases this with rfl|this
   ·omega
   ·cases hb:nc ((m:Nat):Int)with
    |nil=>rw[hb]at this;cases this
    |cons b r=>
     rw[hb]at this
     exact⟨b,r,rfl,by simpa using this⟩
theorem AL {has:Bool} {l:List aa} (h:cG l=true) (hs:gu l 4294967295) (h0:has=false→l= []):RT (pC has) (if has then al l else []) l:=by
 rw[rW]
 cases has with
 |true=>exact ly h hs
 |false=>rw[h0 rfl];exact RT.ret []
theorem Qx {t:lO} (h:gC t=true) (hs:CG t 4294967295):RT nt (fD t) t:=by
 obtain⟨ty,has,init⟩:=t
 unfold gC at h
 simp only[Bool.and_eq_true,Bool.or_eq_true,decide_eq_true_eq,List.length_eq_zero_iff]at h
 obtain⟨⟨h1,h2⟩,h3⟩:=h
 obtain⟨s1,s2⟩:=hs
 have h3':has=false→init= []:=fun e=>by
  rcases h3 with h3|h3
  ·rw[e]at h3;cases h3
  ·exact h3
 have hG:RT (yn has) (em ty++(if has then al init else [])) ⟨ty,has,init⟩:=
  (yN h1 s1).bind (G:=fun _ t=>C8 has t) fun _=>(AL h2 s2 h3').map _
 rw[Gf]
 cases has with
 |true=>
  have hH:RT dl [64,0] true:=fun bs s l ha=>by
   have h64:=At.head (bs:=bs) (s:=s) (c:=64) (l:= [0]++l) (by simpa using ha)
   have e1:(ai bs s).2=s.adv 1:=by
    have:=ep 64 bs s ([0]++l) (by simpa using ha)
    rw[this]
    rfl
   have ha2:At bs (s.adv 1) ([0]++l):=At.adv (b:= [64]) (by simpa using ha)
   have e2:=gc (bits:=0) (most:=0) (c:=0) (by decide) bs (s.adv 1) l ha2
   unfold dl
   rw[if_pos h64,e1,e2]
   rfl
  have:=hH.bind (G:=fun _ h=>yn h) fun _=>hG
  simpa [fD]using this
 |false=>
  intro bs s l ha
  have hp:fD ⟨ty,false,init⟩=em ty:=rfl
  rw[hp]at ha⊢
  have h1':=h1
  unfold eL at h1'
  rw[Bool.and_eq_true]at h1'
  obtain⟨b,r,e,hb⟩:=KD h1'.1
  have hh:=At.head (bs:=bs) (s:=s) (c:=b) (l:=r++(ea ty.lim++l)) (by
   have:=ha
   unfold em at this
   rw[e]at this
   simpa using this)
  have e1:dl bs s=(false,s):=by
   unfold dl
   rw[if_neg (fun h=>hb (hh.2.symm.trans h.2))]
  have:=hG bs s l (by simpa using ha)
  unfold aJ
  rw[e1]
  simpa using this
theorem xx {t:lO} (h:gC t=true):1≤(fD t).length:=by
 unfold gC eL at h
 simp only[Bool.and_eq_true]at h
 have:=Cw (ma h.1.1.1).2
 unfold fD em
 split
 ·simp
 ·rw[List.length_append];omega
def WY (g:mD) (k:Nat):Prop:=hJ g=true∧(gg g).length≤k∧1≤k∧gu g.init k
theorem FY:nZ=aJ jx fun _ t=>cM bI fun l=>⟨t,l⟩:=rfl
theorem K7:cT nZ WY:=by
 rw[FY]
 refine(pq.bind (G:=fun _ t=>cM bI fun l=>(⟨t,l⟩:mD)) (fun _ _=>j7) (fun _ t _ _=>(jE.map _).back)).mono ?_
 rintro y k ⟨t,k1,k2,rfl,⟨h1,h2,h3⟩,l,rfl,g1,g2,g3,g4⟩
 refine⟨by simp[hJ,h1,g1],?_,by omega,g4.up (by omega)⟩
 unfold gg
 exact Uj
theorem QM {g:mD} (h:hJ g=true) (hs:gu g.init 4294967295):RT nZ (gg g) g:=by
 unfold hJ at h
 rw[Bool.and_eq_true]at h
 rw[FY]
 exact(zr h.1).bind (G:=fun _ t=>cM bI fun l=>(⟨t,l⟩:mD)) fun _=>(ly h.2 hs).map _
theorem B5 {g:mD} (h:hJ g=true):1≤(gg g).length:=by
 unfold hJ at h
 rw[Bool.and_eq_true]at h
 have:=qK h.2
 unfold gg
 exact Uj
def Xq (f:dh) (k:Nat):Prop:=ev f.type=true∧(au f.type).length≤k∧1≤k∧f.locals= []∧f.body= []
theorem Gx:nz=cM aD fun n=>⟨n,[],[]⟩:=rfl
theorem Hz:cT nz Xq:=by
 rw[Gx]
 refine(bH.fine.map _).mono ?_
 rintro y k ⟨n,rfl,h1,h2,h3⟩
 exact⟨h1,h2,h3,rfl,rfl⟩
def VK (r:fN) (k:Nat):Prop:=ev r.n=true∧aj r.val=true∧(ee r).length≤k∧1≤k
theorem FT:kw=aJ aD fun _ n=>cM bw fun v=>⟨n,v⟩:=rfl
theorem JD:cT kw VK:=by
 rw[FT]
 refine(bH.fine.bind (G:=fun _ n=>cM bw fun v=>(⟨n,v⟩:fN)) (fun _ _=>qV) (fun _ n _ _=>(sM.map _).back)).mono ?_
 rintro y k ⟨n,k1,k2,rfl,⟨h1,h2,h3⟩,v,rfl,g1,g2,g3⟩
 refine⟨h1,g1,?_,by omega⟩
 unfold ee
 rw[List.length_append,ig g1]
 try simp only
 omega
theorem Rx {r:fN} (h1:ev r.n=true) (h2:aj r.val=true):RT kw (ee r) r:=by
 rw[FT]
 unfold ee
 rw[ig h2]
 exact(dZ h1).bind (G:=fun _ n=>cM bw fun v=>(⟨n,v⟩:fN)) fun _=>(nU r.val h2).map _
theorem wT (r:fN):1≤(ee r).length:=by
 have:=j9 r.n
 unfold ee
 exact Uj
def ry (r:fN):Bool:=ev r.n&&aj r.val
def Vp (l:List fN) (k:Nat):Prop:=l.all ry=true∧gY l≤4294967295∧(ae ee l).length≤k∧1≤k∧l.length≤k
theorem xc:bL=aJ (gM kw) fun a l=>jb (decide (4294967295<gY l)) 11 a l:=by
 funext bs s
 unfold bL aJ jb gM
 by_cases h:4294967295<gY (am bs (kw bs) s).1
 ·rw[if_pos h];simp[h]
 ·rw[if_neg h];simp[h]
theorem DM:cT (gM kw) (Q7 VK ee):=od JD fun _ _ h=>h.2.2
theorem zW:cT bL Vp:=by
 rw[xc]
 refine(DM.bind (G:=fun a l=>jb (decide (4294967295<gY l)) 11 a l) (fun a l=>iq _ 11 a l) (fun a l _ _=>nh _ (by decide) a l)).mono ?_
 rintro y k ⟨l,k1,k2,rfl,h,h4,rfl,rfl⟩
 refine⟨h.all fun r j hr=>by simp[ry,hr.1,hr.2.1],by simpa using h4,h.1,h.2.1,h.len fun x _=>wT x⟩
theorem EJ {l:List fN} (h:l.all ry=true) (hm:gY l≤4294967295) (hl:l.length<4294967296):RT bL (ae ee l) l:=by
 rw[xc]
 have h1:RT (gM kw) (ae ee l) l:=kD l hl fun r hr=>by
  have:=List.all_eq_true.1 h r hr
  unfold ry at this
  rw[Bool.and_eq_true]at this
  exact⟨Rx this.1 this.2,wT r⟩
 have:=h1.bind (G:=fun a l=>jb (decide (4294967295<gY l)) 11 a l) (b2:= []) (y:=l) fun a=>qZ (by simp;omega) 11 a l
 simpa using this
theorem QL {bs:List UInt8} {s:ax} (h:(jF bs s).err=0) (ha:s.at_≤bs.length) (he:s.err=0):s.at_=bs.length∧jF bs s=s:=by
 unfold jF at h⊢
 by_cases hc:s.at_<bs.length
 ·rw[if_pos hc,eg he (by decide)]at h;cases h
 ·rw[if_neg hc]
  exact⟨by omega,rfl⟩
theorem nf {bs:List UInt8} {s:ax} (h:(jF bs s).err=0):s.err=0:=by
 unfold jF at h
 split at h
 ·apply Classical.byContradiction
  intro hn
  rw[fU hn]at h
  exact hn h
 ·exact h
def nD (x:List fN×List aa) (k:Nat):Prop:=x.1.length≤k∧gu x.2 k
def Fj (x:List fN×List aa) (n:Nat):Prop:=x.1.all ry=true∧gY x.1≤4294967295∧cG x.2=true∧(ae ee x.1++al x.2).length≤n∧nD x n
theorem Yk (bs:List UInt8):ah.at_≤bs.length:=Nat.zero_le _
theorem Jm {l:List fN} {b:List aa} {k1 k2 n:Nat} (h1:Vp l k1) (h2:Sp b k2) (h:k1+k2≤n):Fj (l,b) n:=by
 obtain⟨p1,p2,p3,p4,p5⟩:=h1
 obtain⟨q1,q2,q3,q4⟩:=h2
 refine⟨p1,p2,q1,?_,Nat.le_trans p5 (by omega),q4.up (by omega)⟩
 rw[List.length_append]
 show(ae ee l).length+(al b).length≤n
 omega
theorem AG (bs:List UInt8) (h:(gb bs).2.err=0):Fj (gb bs).1 bs.length:=by
 have h1:(bI bs (bL bs ah).2).2.err=0:=nf (bs:=bs) h
 have h2:(bL bs ah).2.err=0:=by
  apply Classical.byContradiction
  intro hn
  rw[j7 bs _ hn]at h1
  exact hn h1
 obtain⟨k1,e1,l1,p⟩:=zW.back bs ah rfl (Yk bs) h2
 obtain⟨k2,e2,l2,q⟩:=jE.back bs (bL bs ah).2 h2 (by rw[e1];exact l1) h1
 rw[e1]at l2
 have l2:0+k1+k2≤bs.length:=l2
 exact Jm p q (by omega)
theorem DV {l:List fN} {b:List aa} (h1:l.all ry=true) (h2:gY l≤4294967295) (h3:cG b=true) (hs:nD (l,b) 4294967295):gb (ae ee l++al b)=((l,b),⟨(ae ee l++al b).length,0,0⟩):=by
 have a1:=EJ h1 h2 (by have:=hs.1;simp only at this;omega) (ae ee l++al b) ah (al b) ⟨rfl,by simp[ah],by simp[ah]⟩
 have ha2:At (ae ee l++al b) (ah.adv (ae ee l).length) (al b++ []):=At.adv ⟨rfl,by simp[ah],by simp[ah]⟩
 have a2:=ly h3 hs.2 _ _ [] ha2
 unfold gb
 rw[a1]
 simp only[a2]
 have hf:jF (ae ee l++al b) ((ah.adv (ae ee l).length).adv (al b).length)=(ah.adv (ae ee l).length).adv (al b).length:=by
  unfold jF
  rw[if_neg (by simp[ah])]
 rw[hf,dt]
 simp[ax.adv,ah]
def Np (x:List fN×List aa) (k:Nat):Prop:=∃n,Fj x n∧(aI n).length+n≤k∧1≤k
theorem zm {n:Nat} (h:¬n<128):(aI n).length=(aI (n/128)).length+1:=by
 rw[aI,if_neg h]
 rfl
theorem Fq (a b:Nat) (h:a≤b):(aI a).length≤(aI b).length:=by
 induction a using Nat.strongRecOn generalizing b with
 | _ a ih=>
  by_cases hb:b<128
  ·rw[dH a (by omega),dH b hb]
   exact Nat.le_refl _
  ·rw[zm hb]
   by_cases ha:a<128
   ·rw[dH a ha]
    simp
   ·rw[zm ha]
    have:=ih (a/128) (by omega) (b/128) (by omega)
    omega
theorem Ed:cD dC Np:=fun bs s he ha h0=>by
 have hr:(gb (dD (af bs s).1 bs (af bs s).2).1).2.err=0∧(dD (af bs s).1 bs (af bs s).2).2.err=0:=by
  unfold dC at h0
  simp only at h0
  split at h0
  ·rename_i hc
   exact⟨hc,h0⟩
  ·rename_i hc
   exfalso
   by_cases hq:(dD (af bs s).1 bs (af bs s).2).2.err=0
   ·rw[eg hq hc]at h0
    exact hc h0
   ·rw[fU hq]at h0
    exact hq h0
 have h1:(af bs s).2.err=0:=by
  apply Classical.byContradiction
  intro hn
  have:=uv (af bs s).1 bs _ hn
  rw[this]at hr
  exact hn hr.2
 obtain⟨k1,e1,l1,p1,p2⟩:=mj bs s he ha h1
 obtain⟨k2,e2,l2,q1,q2⟩:=vW (af bs s).1 bs (af bs s).2 h1 (by rw[e1];exact l1) hr.2
 have hc:=AG _ hr.1
 rw[q1]at hc
 rw[e1]at l2
 simp at l2
 have hx:dC bs s=((gb (dD (af bs s).1 bs (af bs s).2).1).1,(dD (af bs s).1 bs (af bs s).2).2):=by
  unfold dC
  rw[if_pos hr.1]
 rw[hx]
 have:=dQ (af bs s).1
 exact⟨k1+k2,by rw[e2,e1,dt],by omega,_,hc,by omega,by omega⟩
theorem Pm {l:List fN} {b:List aa} (h1:l.all ry=true) (h2:gY l≤4294967295) (h3:cG b=true) (hs:nD (l,b) 4294967295) (hn:(ae ee l++al b).length<4294967296):
 RT dC (aX (ae ee l++al b)) (l,b):=fun bs s r ha=>by
 have ha1:At bs s (aI (ae ee l++al b).length++((ae ee l++al b)++r)):=by simpa [aX]using ha
 have c1:=tC ha1 hn (by simp)
 have c2:=Cf (ae ee l++al b) bs _ r ha1.adv
 unfold dC
 rw[c1]
 simp only[c2,DV h1 h2 h3 hs]
 rw[if_pos trivial,dt]
 simp[aX]
theorem qv (b:List UInt8):1≤(aX b).length:=by
 have:=dQ b.length
 unfold aX
 exact Uj
theorem yz {b:List UInt8} {n:Nat} (h:b.length≤n):(aX b).length≤(aI n).length+n:=by
 have:=Fq _ _ h
 unfold aX
 exact Uj
def Co (d:jG) (k:Nat):Prop:=gu d.offset k∧d.bytes.length≤k
def Xu (d:jG) (k:Nat):Prop:=ix d=true∧(eu d).length≤k∧1≤k∧Co d k
def li (c:Nat):bb Int:=jU c
def lF (c:Nat):bb (Int×List aa):=ky c
theorem mg (c:Nat):li c=if c=2 then aD else kc 0:=by
 funext bs s
 unfold li jU
 by_cases h:c=2
 ·rw[if_pos h,if_pos h]
 ·rw[if_neg h,if_neg h];rfl
theorem mf (c:Nat):lF c=if c=1 then kc (0,[])else cM bI fun l=>(1,l):=by
 funext bs s
 unfold lF ky
 by_cases h:c=1
 ·rw[if_pos h,if_pos h];rfl
 ·rw[if_neg h,if_neg h];rfl
def uZ (m:Int) (o:Int×List aa):bb jG:=cM lA fun b=>⟨o.1,m,o.2,b⟩
def yy (c:Nat) (m:Int):bb jG:=aJ (lF c) fun _ o=>uZ m o
def wu (c:Nat):bb jG:=aJ (li c) fun _ m=>yy c m
theorem Ga:mI=aJ (bm 3 2) fun _ c=>wu c:=rfl
theorem qe (c:Nat):cT (li c) fun m k=>ev m=true∧(if c=2 then au m else []).length≤k∧(c≠2→m=0):=by
 rw[mg]
 by_cases h:c=2
 ·simp only[if_pos h]
  exact bH.fine.mono fun m k g=>⟨g.1,g.2.1,fun hn=>absurd h hn⟩
 ·simp only[if_neg h]
  exact(cT.ret 0).mono fun m k ⟨g,_⟩=>⟨by rw[g];rfl,by simp,fun _=>g⟩
theorem xY (c:Nat):cT (lF c) fun o k=>(c=1→o=(0,[]))∧(c≠1→o.1=1∧cG o.2=true)∧(if c=1 then []else al o.2).length≤k∧gu o.2 k:=by
 rw[mf]
 by_cases h:c=1
 ·simp only[if_pos h]
  exact(cT.ret _).mono fun o k ⟨g,_⟩=>⟨fun _=>g,fun hn=>absurd h hn,by simp,by rw[g];exact mK k⟩
 ·simp only[if_neg h]
  refine(jE.map _).mono ?_
  rintro y k ⟨l,rfl,g1,g2,g3,g4⟩
  exact⟨fun hn=>absurd hn h,fun _=>⟨rfl,g1⟩,g2,g4⟩
theorem qH (c:Nat) (m:Int):cT (yy c m) fun d k=>d.mem=m∧(c=1→d.mode=0∧d.offset= [])∧(c≠1→d.mode=1∧cG d.offset=true)∧(if c=1 then []else al d.offset).length+(aX d.bytes).length≤k∧1≤k∧gu d.offset k:=by
 refine((xY c).bind (G:=fun _ o=>uZ m o) (fun _ _=>uC.stuck) (fun _ o _ _=>(uC.map _).back)).mono ?_
 rintro y k ⟨o,k1,k2,rfl,⟨h1,h2,h3,h4⟩,b,rfl,g1,g2⟩
 exact⟨rfl,fun hc=>by rw[h1 hc];exact⟨rfl,rfl⟩,h2,by simp only;omega,by omega,h4.up (by omega)⟩
theorem BS (c:Nat):ci (wu c):=gO (qe c).stuck fun _ m=>(qH c m).stuck
theorem DJ {c:Nat} (hc:c≤2):cT (wu c) fun d k=>ix d=true∧(eu d).length≤1+k∧Co d k:=by
 refine((qe c).bind (G:=fun _ m=>yy c m) (fun _ m=>(qH c m).stuck) (fun _ m _ _=>(qH c m).back)).mono ?_
 rintro d k ⟨m,k1,k2,rfl,⟨h1,h2,h3⟩,rfl,g1,g2,g3,g4,g5⟩
 have hb:d.bytes.length≤k1+k2:=by
  unfold aX at g3
  rw[List.length_append]at g3
  omega
 refine⟨?_,?_,g5.up (by omega),hb⟩
 ·unfold ix
  by_cases hc1:c=1
  ·obtain⟨a1,a2⟩:=g1 hc1
   rw[if_neg (by rw[a1];decide),if_pos a1,a2,h3 (by omega)]
   rfl
  ·obtain⟨a1,a2⟩:=g2 hc1
   rw[if_pos a1,h1,a2]
   rfl
 ·unfold eu
  rw[List.length_append]
  by_cases hc1:c=1
  ·obtain⟨a1,a2⟩:=g1 hc1
   rw[if_pos hc1]at g3
   rw[if_pos a1]
   simp only[List.length_cons,List.length_nil]at g3⊢
   omega
  ·obtain⟨a1,a2⟩:=g2 hc1
   rw[if_neg hc1]at g3
   rw[if_neg (by rw[a1];decide)]
   by_cases hm:d.mem=0
   ·rw[if_pos hm]
    simp only[List.length_cons]
    omega
   ·rw[if_neg hm]
    have hc2:c=2:=Classical.byContradiction fun hn=>hm (h3 hn)
    rw[if_pos hc2]at h2
    exact Sv
theorem Sy {c:Nat} (hc:c<256) (h:dA 3 2 c=false):c≤2:=by
 have:=wj 3 2 (fun c=>decide (c≤2)) (by decide+kernel) hc h
 simpa using this
theorem G8:cT mI Xu:=by
 rw[Ga]
 refine((ei 3 2).bind (G:=fun _ c=>wu c) (fun _ c=>BS c) (fun _ c _ h=>(DJ (Sy h.2.1 h.1)).back)).mono ?_
 rintro y k ⟨c,k1,k2,rfl,⟨h1,h2,rfl⟩,h3,h4,h5,h6⟩
 exact⟨h3,by omega,by omega,h5.up (by omega),by omega⟩
theorem QC {d:jG} (h:ix d=true) (hs:Co d 4294967295):RT mI (eu d) d:=by
 obtain⟨mo,me,off,by_⟩:=d
 obtain⟨s1,s2⟩:=hs
 simp only at s1 s2
 have hb:RT lA (aX by_) by_:=KV (by omega)
 rw[Ga]
 unfold eu
 unfold ix at h
 simp only at h⊢
 by_cases c1:mo=1
 ·rw[if_pos c1,Bool.and_eq_true]at h
  subst c1
  rw[if_neg (by decide)]
  by_cases c2:me=0
  ·subst c2
   rw[if_pos rfl]
   refine(gc (c:=0) (by decide)).bind (G:=fun _ c=>wu c) (b2:=al off++aX by_) fun _=> ?_
   refine RT.bind (F:=li _) (G:=fun _ m=>yy _ m) (b1:= []) (x:=0) (by rw[mg];exact RT.ret 0) fun _=> ?_
   refine RT.bind (F:=lF _) (G:=fun _ o=>uZ 0 o) (x:=((1:Int),off)) (by rw[mf];exact(ly h.2 s1).map fun l=>((1:Int),l)) fun _=> ?_
   exact hb.map fun b=>(⟨1,0,off,b⟩:jG)
  ·rw[if_neg c2]
   rw[List.cons_append,List.append_assoc]
   refine(gc (c:=2) (by decide)).bind (G:=fun _ c=>wu c) (b2:=au me++(al off++aX by_)) fun _=> ?_
   refine RT.bind (F:=li _) (G:=fun _ m=>yy _ m) (x:=me) (by rw[mg];exact dZ h.1) fun _=> ?_
   refine RT.bind (F:=lF _) (G:=fun _ o=>uZ me o) (x:=((1:Int),off)) (by rw[mf];exact(ly h.2 s1).map fun l=>((1:Int),l)) fun _=> ?_
   exact hb.map fun b=>(⟨1,me,off,b⟩:jG)
 ·rw[if_neg c1]at h
  by_cases c0:mo=0
  ·rw[if_pos c0]at h
   simp only[Bool.and_eq_true,decide_eq_true_eq,List.length_eq_zero_iff]at h
   obtain⟨rfl,rfl⟩:=h
   subst c0
   rw[if_pos rfl]
   refine(gc (c:=1) (by decide)).bind (G:=fun _ c=>wu c) (b2:=aX by_) fun _=> ?_
   refine RT.bind (F:=li _) (G:=fun _ m=>yy _ m) (b1:= []) (x:=0) (by rw[mg];exact RT.ret 0) fun _=> ?_
   refine RT.bind (F:=lF _) (G:=fun _ o=>uZ 0 o) (b1:= []) (x:=((0:Int),[])) (by rw[mf];exact RT.ret _) fun _=> ?_
   exact hb.map fun b=>(⟨0,0,[],b⟩:jG)
  ·rw[if_neg c0]at h
   cases h
theorem Lw (d:jG):1≤(eu d).length:=by
 have:=qv d.bytes
 unfold eu
 exact Uj
theorem rD:ag 210=4∨ag 210=6:=by decide+kernel
theorem Eh {l:List aa} (h:cW l=true):∃i,l= [i]∧i.op=210:=by
 unfold cW at h
 simp only[Bool.and_eq_true,decide_eq_true_eq]at h
 obtain⟨i,rfl⟩:=List.length_eq_one_iff.1 h.1
 exact⟨i,rfl,by simpa using h.2⟩
theorem vD {l:List aa} (h:cW l=true) (hr:cG l=true):∃n,ev n=true∧l= [jl n]:=by
 obtain⟨i,rfl,h1⟩:=Eh h
 unfold cG at hr
 rw[Bool.and_eq_true]at hr
 have hm:dx i=true:=by simpa using hr.1
 obtain⟨a,b⟩:=wc (by rw[h1];exact rD) hm
 rw[h1]at b
 exact⟨i.x,a,by rw[b];rfl⟩
theorem JP {n:Int} (h:ev n=true):dx (jl n)=true:=by
 have hp:cu (jl n)=(ev n,{jl n with x:=0}):=by
  unfold cu
  rw[if_pos (show ag (jl n).op=4∨ag (jl n).op=6 from rD)]
  rfl
 have h0:ag (jl n).op≠0:=by have:=rD;unfold jl aa.of;simp only;omega
 rw[iJ h0 hp]
 simp only[Bool.and_eq_true,decide_eq_true_eq]
 exact⟨h,rfl⟩
theorem JY {n:Int} (h:ev n=true):cG [jl n]=true:=by
 unfold cG
 rw[Bool.and_eq_true]
 refine⟨by simp[JP h],?_⟩
 rw[qL]
 simp[jZ,kp,jl,aa.of]
theorem Dw (n:Int):ch [jl n]=au n:=rfl
theorem UP (n:Int) (k:Nat):gu [jl n] k:=fun i hi=>by
 obtain rfl:=List.mem_singleton.1 hi
 exact mc k rfl rfl rfl rfl
def UT (l:List aa) (k:Nat):Prop:=cG l=true∧cW l=true∧(ch l).length≤k∧1≤k∧(ch l).length≤k∧gu l k
theorem zn:jK=cM aD fun n=> [jl n]:=rfl
theorem CW:cT jK UT:=by
 rw[zn]
 refine(bH.fine.map _).mono ?_
 rintro y k ⟨n,rfl,h1,h2,h3⟩
 exact⟨JY h1,by simp[cW,jl,aa.of],h2,h3,h2,UP n k⟩
theorem IU {l:List aa} (h:cW l=true) (hr:cG l=true):RT jK (ch l) l:=by
 obtain⟨n,h1,rfl⟩:=vD h hr
 rw[zn]
 exact(dZ h1).map fun n=> [jl n]
theorem tz {l:List aa} (h:cW l=true) (hr:cG l=true):(ch l).length≤(al l).length∧1≤(ch l).length:=by
 obtain⟨n,h1,rfl⟩:=vD h hr
 have h0:=j9 n
 refine⟨?_,h0⟩
 rw[uR hr]
 have:de (jl n)=xW 210++au n:=by
  unfold de
  rw[vz (i:=jl n) rD]
  rfl
 simp only[List.flatMap_cons,List.flatMap_nil,List.append_nil,this,List.length_append,Dw]
 omega
def vX (e:eb) (k:Nat):Prop:=e.inits.length≤k∧(∀r,r∈e.inits→gu r k)∧gu e.offset k
def VU (e:eb) (k:Nat):Prop:=fP e=true∧(cw e).length≤k∧1≤k∧vX e k
def iQ (c:Nat):bb (Int×Int×List aa):=jR c
def mP (c:Nat):bb aF:=nP c
def kE (c:Nat):bb (List (List aa)):=fun bs s=>mO c bs s
def MF (c:Nat) (h:Int×Int×List aa) (t:aF):bb eb:=cM (kE c) fun l=>⟨t,l,h.1,h.2.1,h.2.2⟩
def Om (c:Nat) (h:Int×Int×List aa):bb eb:=aJ (mP c) fun _ t=>MF c h t
def M2 (c:Nat):bb eb:=aJ (iQ c) fun _ h=>Om c h
theorem Cd:eS=aJ (bm 7 7) fun _ c=>M2 c:=rfl
def AQ (c:Nat):bb Int:=qI c
theorem qN (c:Nat):AQ c=if js c then aD else kc 0:=by
 funext bs s
 unfold AQ qI
 cases js c<;>rfl
theorem my (c:Nat):iQ c=if gA c=false then aJ (AQ c) (fun _ n=>cM bI fun l=>(1,n,l))else if js c then kc (2,0,[])else kc (0,0,[]):=by
 funext bs s
 unfold iQ jR
 cases gA c with
 |false=>rfl
 |true=>cases js c<;>rfl
theorem tQ (c:Nat):mP c=if c=4 then kc lV else if 4<c then sN else if 0<c then cM (bm 0 0) (fun _=>mN)else kc mN:=by
 funext bs s
 unfold mP nP
 by_cases h4:c=4
 ·rw[if_pos h4,if_pos h4];rfl
 ·rw[if_neg h4,if_neg h4]
  by_cases h5:4<c
  ·rw[if_pos h5,if_pos h5]
  ·rw[if_neg h5,if_neg h5]
   by_cases h1:0<c
   ·rw[if_pos h1,if_pos h1];rfl
   ·rw[if_neg h1,if_neg h1];rfl
theorem sb (c:Nat):kE c=if c<4 then gM jK else gM bI:=by
 funext bs s
 unfold kE mO
 by_cases h:c<4
 ·rw[if_pos h,if_pos h];rfl
 ·rw[if_neg h,if_neg h];rfl
def VF (c:Nat) (h:Int×Int×List aa) (k:Nat):Prop:=
 gu h.2.2 k∧(gA c=false→h.1=1∧ev h.2.1=true∧cG h.2.2=true∧(if js c then au h.2.1 else []).length+(al h.2.2).length≤k)∧
 (gA c=true→(h.1=0∨h.1=2)∧(h.1=2↔js c=true)∧h.2.1=0∧h.2.2= [])∧(js c=false→h.2.1=0)
theorem qf (c:Nat):cT (iQ c) (VF c):=by
 rw[my]
 cases h0:gA c with
 |false=>
  rw[if_pos rfl,qN]
  cases h1:js c with
  |true=>
   rw[if_pos rfl]
   refine(bH.fine.bind (G:=fun _ n=>cM bI fun l=>((1:Int),n,l)) (fun _ _=>j7) (fun _ n _ _=>(jE.map _).back)).mono ?_
   rintro y k ⟨n,k1,k2,rfl,⟨a1,a2,a3⟩,l,rfl,b1,b2,b3,b4⟩
   refine⟨b4.up (by omega),fun _=>⟨rfl,a1,b1,?_⟩,(fun h=>by rw[h0]at h;cases h),(fun h=>by rw[h1]at h;cases h)⟩
   simp only[h1,if_true]
   omega
  |false=>
   rw[if_neg (by decide)]
   refine((cT.ret (0:Int)).bind (G:=fun _ n=>cM bI fun l=>((1:Int),n,l)) (fun _ _=>j7) (fun _ n _ _=>(jE.map _).back)).mono ?_
   rintro y k ⟨n,k1,k2,rfl,⟨rfl,rfl⟩,l,rfl,b1,b2,b3,b4⟩
   exact⟨b4.up (by omega),fun _=>⟨rfl,rfl,b1,by simp[h1];omega⟩,(fun h=>by rw[h0]at h;cases h),fun _=>rfl⟩
 |true=>
  rw[if_neg (by decide)]
  cases h1:js c with
  |true=>
   rw[if_pos rfl]
   exact(cT.ret _).mono fun y k ⟨h,_⟩=>by
    subst h
    exact⟨mK k,(fun h=>by rw[h0]at h;cases h),fun _=>⟨.inr rfl,⟨fun _=>h1,fun _=>rfl⟩,rfl,rfl⟩,fun _=>rfl⟩
  |false=>
   rw[if_neg (by decide)]
   exact(cT.ret _).mono fun y k ⟨h,_⟩=>by
    subst h
    exact⟨mK k,(fun h=>by rw[h0]at h;cases h),fun _=>⟨.inl rfl,⟨(fun h=>by cases h),(fun h=>by rw[h1]at h;cases h)⟩,rfl,rfl⟩,fun _=>rfl⟩
def Vf (c:Nat) (t:aF) (k:Nat):Prop:=fy t=true∧(c<4→t=mN)∧(c=4→t=lV)∧(if c=0∨c=4 then 0 else if c<4 then 1 else(es t).length)≤k
theorem qk (c:Nat):cT (mP c) (Vf c):=by
 rw[tQ]
 by_cases h4:c=4
 ·rw[if_pos h4]
  exact(cT.ret _).mono fun t k ⟨h,_⟩=>by
   subst h
   exact⟨by decide,fun h=>by omega,fun _=>rfl,by rw[if_pos (.inr h4)];omega⟩
 ·rw[if_neg h4]
  by_cases h5:4<c
  ·rw[if_pos h5]
   exact yU.mono fun t k h=>⟨h.1,fun h=>by omega,fun h=>absurd h h4,by rw[if_neg (by omega),if_neg (by omega)];exact h.2.1⟩
  ·rw[if_neg h5]
   by_cases h1:0<c
   ·rw[if_pos h1]
    refine((ei 0 0).map _).mono ?_
    rintro y k ⟨x,rfl,a1,a2,rfl⟩
    exact⟨by decide,fun _=>rfl,fun h=>absurd h h4,by rw[if_neg (by omega),if_pos (by omega)];omega⟩
   ·rw[if_neg h1]
    exact(cT.ret _).mono fun t k ⟨h,_⟩=>by
     subst h
     exact⟨by decide,fun _=>rfl,fun h=>absurd h h4,by rw[if_pos (by omega)];omega⟩
def RY (c:Nat) (l:List (List aa)) (k:Nat):Prop:=l.all cG=true∧(c<4→l.all cW=true)∧(if c<4 then ae ch l else ae al l).length≤k∧1≤k∧l.length≤k∧∀r,r∈l→gu r k
theorem lH (c:Nat):cT (kE c) (RY c):=by
 rw[sb]
 by_cases h:c<4
 ·rw[if_pos h]
  have hl:cT (gM jK) (Q7 UT ch):=od CW fun _ _ h=>⟨h.2.2.1,h.2.2.2.1⟩
  refine hl.mono fun l k g=>⟨g.all fun _ _ h=>h.1,fun _=>g.all fun _ _ h=>h.2.1,by rw[if_pos h];exact g.1,g.2.1,g.len fun x hx=> ?_,fun r hr=> ?_⟩
  ·obtain⟨j,_,hj⟩:=g.2.2 x hx
   exact(tz hj.2.1 hj.1).2
  ·obtain⟨j,a,hj⟩:=g.2.2 r hr
   exact hj.2.2.2.2.2.up a
 ·rw[if_neg h]
  have hl:cT (gM bI) (Q7 Sp al):=od jE fun _ _ h=>⟨h.2.1,h.2.2.1⟩
  refine hl.mono fun l k g=>⟨g.all fun _ _ h=>h.1,fun hn=>absurd hn h,by rw[if_neg h];exact g.1,g.2.1,g.len fun x hx=> ?_,fun r hr=> ?_⟩
  ·obtain⟨j,_,hj⟩:=g.2.2 x hx
   exact qK hj.1
  ·obtain⟨j,a,hj⟩:=g.2.2 r hr
   exact hj.2.2.2.up a
theorem xO {l:List (List aa)} (h1:l.all cW=true) (h2:l.all cG=true):(ae ch l).length≤(ae al l).length:=by
 unfold ae
 simp only[List.length_append]
 have:(l.flatMap ch).length≤(l.flatMap al).length:=by
  induction l with
  |nil=>simp
  |cons a l ih=>
   simp only[List.all_cons,Bool.and_eq_true]at h1 h2
   have:=(tz h1.1 h2.1).1
   have:=ih h1.2 h2.2
   simp only[List.flatMap_cons,List.length_append]
   omega
 omega
theorem SJ {e:eb} (m:e.mode=0):cf e=(if aG e then 0 else 4)+1:=by unfold cf;rw[if_pos m]
theorem DA {e:eb} (m:e.mode=1):cf e=(if aG e then 0 else 4)+(if uH e then 2 else 0):=by unfold cf;rw[if_neg (show ¬e.mode=0 by omega),if_neg (show ¬e.mode=2 by omega)]
theorem SV {e:eb} (m:e.mode=2):cf e=(if aG e then 0 else 4)+3:=by unfold cf;rw[if_neg (show ¬e.mode=0 by omega),if_pos m]
theorem sH (e:eb):(cw e).length=1+((if cf e% 4=2 then au e.table else []).length+(if e.mode=1 then al e.offset else []).length+
 (if aG e then(if cf e≠0 then 1 else 0)+(ae ch e.inits).length else(if cf e≠4 then es e.type else []).length+(ae al e.inits).length)):=by
 unfold cw
 simp only[List.length_cons,List.length_append]
 cases aG e with
 |true=>
  by_cases hb:cf e=0
  ·simp[hb];omega
  ·simp[hb];omega
 |false=>
  simp only[Bool.false_eq_true,if_false,List.length_append]
  omega
theorem vy (c:Nat) (h:Int×Int×List aa):ci (Om c h):=gO (qk c).stuck fun _ _=>(lH c).stuck
theorem Ia (c:Nat) (h:Int×Int×List aa):cT (Om c h) fun e k=>e.mode=h.1∧e.table=h.2.1∧e.offset=h.2.2∧∃k1 k2,k=k1+k2∧Vf c e.type k1∧RY c e.inits k2:=by
 refine((qk c).bind (G:=fun _ t=>MF c h t) (fun _ _=>(lH c).stuck) (fun _ t _ _=>((lH c).map _).back)).mono ?_
 rintro y k ⟨t,k1,k2,rfl,h1,l,rfl,h2⟩
 exact⟨rfl,rfl,rfl,k1,k2,rfl,h1,h2⟩
theorem Ej (c:Nat):ci (M2 c):=gO (qf c).stuck fun _ _=>vy c _
theorem I7 {c:Nat} (hc:c≤7):cT (M2 c) fun e k=>fP e=true∧(cw e).length≤1+k∧vX e k:=by
 refine((qf c).bind (G:=fun _ h=>Om c h) (fun _ h=>vy c h) (fun _ h _ _=>(Ia c h).back)).mono ?_
 rintro e k ⟨h,k1,k2,rfl,⟨a1,a2,a3,a4⟩,b1,b2,b3,k3,k4,rfl,⟨t1,t2,t3,t4⟩,⟨i1,i2,i3,i4,i5,i6⟩⟩
 rw[←b3]at a1 a2 a3
 rw[←b2]at a2 a3 a4
 rw[←b1]at a2 a3
 clear b1 b2 b3
 refine⟨?_,?_,by omega,fun r hr=>(i6 r hr).up (by omega),a1.up (by omega)⟩
 ·unfold fP
  rw[t1,i1]
  simp only[Bool.and_self,if_true]
  cases h0:gA c with
  |false=>
   obtain⟨m1,m2,m3,_⟩:=a2 h0
   rw[if_pos m1,m2,m3]
   rfl
  |true=>
   obtain⟨m1,_,m3,m4⟩:=a3 h0
   rw[if_neg (by omega),if_pos m1,m3,m4]
   rfl
 ·rw[sH]
  have hn1:aG e=true→e.type=mN∧e.inits.all cW=true:=fun hn=>by
   unfold aG at hn
   simpa using hn
  have hn0:c<4→aG e=true:=fun hc=>by
   unfold aG
   rw[i2 hc,t2 hc]
   rfl
  have hn4:c=4→aG e=false:=fun hc=>by
   unfold aG
   rw[t3 hc]
   rfl
  have hf0:gA c=false→js c=false→uH e=false:=fun h0 h1=>by
   unfold uH
   rw[a4 h1]
   have hc04:c=0∨c=4:=by
    unfold gA at h0
    unfold js at h1
    simp only[beq_eq_false_iff_ne]at h0 h1
    omega
   rcases hc04 with hc|hc
   ·rw[hn0 (by omega)];rfl
   ·rw[t3 hc];simp
  have hInit:(if aG e then(ae ch e.inits).length else(ae al e.inits).length)≤k4:=by
   cases hn:aG e with
   |true=>
    rw[if_pos rfl]
    by_cases hc4:c<4
    ·rw[if_pos hc4]at i3;exact i3
    ·rw[if_neg hc4]at i3
     exact Nat.le_trans (xO (hn1 hn).2 i1) i3
   |false=>
    rw[if_neg (by decide)]
    have hc4:¬c<4:=fun hc=>by rw[hn0 hc]at hn;cases hn
    rw[if_neg hc4]at i3
    exact i3
  have hHead:(if cf e% 4=2 then au e.table else []).length+(if e.mode=1 then al e.offset else []).length≤k1:=by
   cases h0:gA c with
   |false=>
    obtain⟨m1,m2,m3,m4⟩:=a2 h0
    rw[if_pos m1]
    cases h1:js c with
    |true=>
     rw[h1,if_pos rfl]at m4
     split
     ·exact m4
     ·simp only[List.length_nil];omega
    |false=>
     rw[h1]at m4
     have hb:cf e% 4=0:=by
      rw[DA m1,hf0 h0 h1]
      cases aG e<;>rfl
     rw[if_neg (show ¬cf e% 4=2 by omega)]
     simp only[Bool.false_eq_true,if_false]at m4
     exact m4
   |true=>
    obtain⟨m1,m2,m3,m4⟩:=a3 h0
    have hb:cf e% 4≠2:=by
     rcases m1 with m1|m1
     ·rw[SJ m1];cases aG e<;>decide
     ·rw[SV m1];cases aG e<;>decide
    rw[if_neg hb,if_neg (show ¬e.mode=1 by omega)]
    simp
  have hTyp:(if aG e then(if cf e≠0 then 1 else 0)else(if cf e≠4 then es e.type else []).length)≤k3:=by
   have hv:=Cw (ma t1).2
   cases hn:aG e with
   |true=>
    rw[if_pos rfl]
    by_cases hc0:c=0
    ·subst hc0
     obtain⟨m1,_⟩:=a2 rfl
     have hb:cf e=0:=by
      rw[DA m1,hn,hf0 rfl rfl]
      rfl
     rw[hb]
     simp
    ·have hc4:c≠4:=fun hc=>by rw[hn4 hc]at hn;cases hn
     rw[if_neg (by omega)]at t4
     split<;>split at t4<;>omega
   |false=>
    rw[if_neg (by decide)]
    have hc4:¬c<4:=fun hc=>by rw[hn0 hc]at hn;cases hn
    by_cases hc:c=4
    ·subst hc
     obtain⟨m1,_⟩:=a2 rfl
     have hb:cf e=4:=by
      rw[DA m1,hn,hf0 rfl rfl]
      rfl
     rw[if_neg (by omega)]
     simp
    ·rw[if_neg (by omega),if_neg hc4]at t4
     split
     ·exact t4
     ·simp
  cases hn:aG e with
  |true=>
   simp only[hn,if_true]at hInit hTyp⊢
   omega
  |false=>
   simp only[hn,Bool.false_eq_true,if_false]at hInit hTyp⊢
   omega
theorem SS {c:Nat} (hc:c<256) (h:dA 7 7 c=false):c≤7:=by
 have:=wj 7 7 (fun c=>decide (c≤7)) (by decide+kernel) hc h
 simpa using this
theorem Eu:cT eS VU:=by
 rw[Cd]
 refine((ei 7 7).bind (G:=fun _ c=>M2 c) (fun _ c=>Ej c) (fun _ c _ h=>(I7 (SS h.2.1 h.1)).back)).mono ?_
 rintro y k ⟨c,k1,k2,rfl,⟨h1,h2,rfl⟩,h3,h4,h5,h6,h7⟩
 exact⟨h3,by omega,by omega,by omega,fun r hr=>(h6 r hr).up (by omega),h7.up (by omega)⟩
theorem Nd {c:Nat} (hc:c≤7) {e:eb} {hd ty ins:List UInt8} (h1:RT (iQ c) hd (e.mode,e.table,e.offset)) (h2:RT (mP c) ty e.type) (h3:RT (kE c) ins e.inits):RT eS (UInt8.ofNat c::(hd++(ty++ins))) e:=by
 have e1:(UInt8.ofNat c).toNat=c:=fh c (by omega)
 have hp:dA 7 7 (UInt8.ofNat c).toNat=false:=by
  rw[e1]
  have:∀c∈List.range 8,dA 7 7 c=false:=by decide
  exact this c (List.mem_range.2 (by omega))
 rw[Cd]
 refine(gc hp).bind (G:=fun _ c=>M2 c) (b2:=hd++(ty++ins)) fun _=> ?_
 rw[e1]
 refine h1.bind (G:=fun _ h=>Om c h) fun _=> ?_
 refine h2.bind (G:=fun _ t=>MF c _ t) fun _=> ?_
 exact h3.map fun l=>(⟨e.type,l,e.mode,e.table,e.offset⟩:eb)
theorem M4 {e:eb} (h:fP e=true) (hs:vX e 4294967295):RT eS (cw e) e:=by
 obtain⟨s1,s2,s3⟩:=hs
 unfold fP at h
 have hb:(fy e.type&&e.inits.all cG)=true:=by
  apply Classical.byContradiction
  intro hn
  rw[if_neg hn]at h
  cases h
 rw[if_pos hb]at h
 rw[Bool.and_eq_true]at hb
 obtain⟨ht,hi⟩:=hb
 have hIn:∀(c:Nat),(c<4→aG e=true)→(¬c<4→aG e=false)→RT (kE c) (if aG e then ae ch e.inits else ae al e.inits) e.inits:=by
  intro c n1 n0
  rw[sb]
  by_cases hc:c<4
  ·rw[if_pos hc,n1 hc,if_pos rfl]
   have hn:e.inits.all cW=true:=by
    have:=n1 hc
    unfold aG at this
    rw[Bool.and_eq_true]at this
    exact this.2
   exact kD e.inits (by omega) fun x hx=>⟨IU (List.all_eq_true.1 hn x hx) (List.all_eq_true.1 hi x hx),(tz (List.all_eq_true.1 hn x hx) (List.all_eq_true.1 hi x hx)).2⟩
  ·rw[if_neg hc,n0 hc,if_neg (by decide)]
   exact kD e.inits (by omega) fun x hx=>⟨ly (List.all_eq_true.1 hi x hx) (s2 x hx),qK (List.all_eq_true.1 hi x hx)⟩
 have hTy:∀(c:Nat),(c<4→aG e=true)→(¬c<4→aG e=false)→c≤7→(c=4→e.type=lV)→RT (mP c) (if aG e then(if c≠0 then [0]else [])else(if c≠4 then es e.type else [])) e.type:=by
  intro c n1 n0 hc7 hc4
  rw[tQ]
  by_cases hc:c<4
  ·rw[n1 hc,if_pos rfl,if_neg (by omega),if_neg (by omega)]
   have hty:e.type=mN:=by
    have:=n1 hc
    unfold aG at this
    rw[Bool.and_eq_true]at this
    exact of_decide_eq_true this.1
   rw[hty]
   by_cases h0:c=0
   ·rw[if_neg (by omega),if_neg (by omega)]
    exact RT.ret _
   ·rw[if_pos h0,if_pos (by omega)]
    exact(gc (c:=0) (by decide)).map fun _=>mN
  ·simp only[n0 hc,Bool.false_eq_true,if_false]
   by_cases h4:c=4
   ·rw[if_pos h4,if_neg (by omega),hc4 h4]
    exact RT.ret _
   ·rw[if_neg h4,if_pos (by omega),if_pos h4]
    exact Gy ht
 have key:∀(c:Nat) (hd:List UInt8),cf e=c→c≤7→(c<4→aG e=true)→(¬c<4→aG e=false)→(c=4→e.type=lV)→RT (iQ c) hd (e.mode,e.table,e.offset)→
  hd=(if c% 4=2 then au e.table else [])++(if e.mode=1 then al e.offset else [])→RT eS (cw e) e:=by
  intro c hd hb hc7 n1 n0 hc4 hh he
  have:=Nd hc7 hh (hTy c n1 n0 hc7 hc4) (hIn c n1 n0)
  have hp:cw e=UInt8.ofNat c::(hd++((if aG e then(if c≠0 then [0]else [])else(if c≠4 then es e.type else []))++(if aG e then ae ch e.inits else ae al e.inits))):=by
   unfold cw
   rw[hb,he]
   cases aG e<;>simp
  rw[hp]
  exact this
 by_cases m1:e.mode=1
 ·rw[if_pos m1,Bool.and_eq_true]at h
  have hex:=ly h.2 s3
  have hh0:∀(c:Nat),gA c=false→js c=false→e.table=0→RT (iQ c) (al e.offset) (e.mode,e.table,e.offset):=by
   intro c b0 b1 hz
   rw[my,if_pos b0,qN,b1,if_neg (by decide),m1,hz]
   have:=(RT.ret (0:Int)).bind (G:=fun _ n=>cM bI fun l=>((1:Int),n,l)) fun _=>hex.map fun l=>((1:Int),(0:Int),l)
   simpa using this
  have hh1:∀(c:Nat),gA c=false→js c=true→RT (iQ c) (au e.table++al e.offset) (e.mode,e.table,e.offset):=by
   intro c b0 b1
   rw[my,if_pos b0,qN,b1,if_pos rfl,m1]
   exact(dZ h.1).bind (G:=fun _ n=>cM bI fun l=>((1:Int),n,l)) fun _=>hex.map fun l=>((1:Int),e.table,l)
  cases hn:aG e with
  |true=>
   cases hf:uH e with
   |true=>
    refine key 2 _ ?_ (by decide) (fun _=>hn) (fun h=>absurd (by decide) h) (fun h=>by cases h) (hh1 2 rfl rfl) ?_
    ·rw[DA m1,hn,hf]
     rfl
    ·rw[if_pos rfl,if_pos m1]
   |false=>
    have hz:e.table=0:=by
     unfold uH at hf
     simp only[Bool.or_eq_false_iff,decide_eq_false_iff_not,ne_eq,Decidable.not_not]at hf
     exact hf.1
    refine key 0 _ ?_ (by decide) (fun _=>hn) (fun h=>absurd (by decide) h) (fun h=>by cases h) (hh0 0 rfl rfl hz) ?_
    ·rw[DA m1,hn,hf]
     rfl
    ·rw[if_neg (by decide),if_pos m1]
     rfl
  |false=>
   cases hf:uH e with
   |true=>
    refine key 6 _ ?_ (by decide) (fun h=>absurd h (by decide)) (fun _=>hn) (fun h=>by cases h) (hh1 6 rfl rfl) ?_
    ·rw[DA m1,hn,hf]
     rfl
    ·rw[if_pos rfl,if_pos m1]
   |false=>
    have hz:e.table=0∧e.type=lV:=by
     unfold uH at hf
     rw[hn]at hf
     simpa using hf
    refine key 4 _ ?_ (by decide) (fun h=>absurd h (by decide)) (fun _=>hn) (fun _=>hz.2) (hh0 4 rfl rfl hz.1) ?_
    ·rw[DA m1,hn,hf]
     rfl
    ·rw[if_neg (by decide),if_pos m1]
     rfl
 ·rw[if_neg m1]at h
  by_cases m02:e.mode=0∨e.mode=2
  ·rw[if_pos m02]at h
   simp only[Bool.and_eq_true,decide_eq_true_eq,List.length_eq_zero_iff]at h
   obtain⟨z1,z2⟩:=h
   have hh:∀(c:Nat),gA c=true→(js c=true↔e.mode=2)→RT (iQ c) [] (e.mode,e.table,e.offset):=by
    intro c b0 b1
    rw[my,if_neg (by rw[b0];decide),z1,z2]
    cases hb:js c with
    |true=>rw[if_pos rfl,b1.1 hb];exact RT.ret _
    |false=>
     rw[if_neg (by decide)]
     have:e.mode=0:=by
      rcases m02 with m|m
      ·exact m
      ·rw[b1.2 m]at hb;cases hb
     rw[this]
     exact RT.ret _
   have hhd:∀c:Nat,c% 4≠2→([]:List UInt8)=(if c% 4=2 then au e.table else [])++(if e.mode=1 then al e.offset else []):=by
    intro c hc
    rw[if_neg hc,if_neg m1]
    rfl
   rcases m02 with m|m
   ·cases hn:aG e with
    |true=>exact key 1 [] (by rw[SJ m,hn];rfl) (by decide) (fun _=>hn) (fun h=>absurd (by decide) h) (fun h=>by cases h) (hh 1 rfl ⟨(fun h=>by cases h),(fun h=>by omega)⟩) (hhd 1 (by decide))
    |false=>exact key 5 [] (by rw[SJ m,hn];rfl) (by decide) (fun h=>absurd h (by decide)) (fun _=>hn) (fun h=>by cases h) (hh 5 rfl ⟨(fun h=>by cases h),(fun h=>by omega)⟩) (hhd 5 (by decide))
   ·cases hn:aG e with
    |true=>exact key 3 [] (by rw[SV m,hn];rfl) (by decide) (fun _=>hn) (fun h=>absurd (by decide) h) (fun h=>by cases h) (hh 3 rfl ⟨fun _=>m,fun _=>rfl⟩) (hhd 3 (by decide))
    |false=>exact key 7 [] (by rw[SV m,hn];rfl) (by decide) (fun h=>absurd h (by decide)) (fun _=>hn) (fun h=>by cases h) (hh 7 rfl ⟨fun _=>m,fun _=>rfl⟩) (hhd 7 (by decide))
  ·rw[if_neg m02]at h
   cases h
theorem yV (e:eb):1≤(cw e).length:=by
 unfold cw
 simp
def uP (g:List bu):Prop:=g.length<4294967296∧∀t,t∈g→vo t
def N3 (g:List bu) (k:Nat):Prop:=g.all bP=true∧(cm g).length≤k∧1≤k
theorem Cc:cT gy N3:=by
 refine⟨fun bs s h=> ?_,fun bs s he ha h0=> ?_⟩
 ·unfold gy
  rw[nG bs h,if_neg (by decide)]
  exact EP bs s h
 ·obtain⟨k,e,l,p1,p2,p3⟩:=Ky bs s he ha h0
  refine⟨k,e,l,p1,?_,p3⟩
  unfold cm
  by_cases hg:(gy bs s).1.length=0
  ·rw[if_pos hg]
   have hpk:bF bs s=78:=by
    apply Classical.byContradiction
    intro hn
    unfold gy at hg h0
    rw[if_neg hn]at hg h0
    simp only at hg h0
    unfold ax.told at hg
    rw[if_pos h0]at hg
    cases hg
   obtain⟨hp1,hp2,_⟩:=fJ (s:=s) (bs:=bs) (by rw[hpk];decide)
   have e2:gy bs s=bX bs (dc bs) s.next:=by unfold gy;rw[if_pos hpk]
   rw[e2]at e h0
   obtain⟨k2,f,l2,q1,q2,q3⟩:=ws bs (s.adv 1) he (by simp;omega) h0
   have f:(bX bs (dc bs) s.next).2=(s.adv 1).adv k2:=f
   rw[f,dt]at e
   have:=pR e
   simp only[List.length_cons,List.length_nil]
   omega
  ·rw[if_neg hg,uS,if_pos p1]
   exact p2
theorem JS {g:List bu} (h:g.all bP=true) (hs:uP g):RT gy (cm g) g:=by
 unfold cm
 by_cases hg:g.length=0
 ·rw[if_pos hg]
  obtain rfl:=List.length_eq_zero_iff.1 hg
  intro bs s l ha
  have hpk:=gG (c:=78) (l:=0::l) (by simpa using ha)
  have ha1:At bs (s.adv 1) (ae dg []++l):=At.adv (b:= [78]) (by
   have e:ae dg ([]:List bu)= [0]:=by decide+kernel
   rw[e]
   simpa using ha)
  have h1:=kK (F:=dc) (put:=dg) [] (by decide) (fun t ht=>by cases ht) bs _ _ ha1
  have h1:bX bs (dc bs) s.next=([],(s.adv 1).adv (ae dg ([]:List bu)).length):=h1
  unfold gy
  rw[hpk,if_pos (by decide),h1,dt]
  have e:ae dg ([]:List bu)= [0]:=by decide+kernel
  rw[e]
  rfl
 ·rw[if_neg hg,uS,if_pos h]
  exact Rr g h (fun e=>hg (by rw[e];rfl)) hs.1 hs.2
theorem xn {g:List bu} (h:g.all bP=true):1≤(cm g).length:=by
 unfold cm
 by_cases hg:g.length=0
 ·rw[if_pos hg];simp
 ·rw[if_neg hg,uS,if_pos h]
  have:=yh h
  omega
theorem Ci {g:List bu} {k:Nat} (h:N3 g k) (hk:k<4294967296):uP g:=by
 obtain⟨h1,h2,_⟩:=h
 by_cases hg:g.length=0
 ·obtain rfl:=List.length_eq_zero_iff.1 hg
  exact⟨by decide,fun _ h=>by cases h⟩
 ·unfold cm at h2
  rw[if_neg hg,uS,if_pos h1]at h2
  have hl:=yh h1
  refine⟨by omega,fun t ht=> ?_⟩
  have a:=JL ht
  obtain⟨b1,b2,b3,b4⟩:=E3 t (List.all_eq_true.1 h1 t ht)
  exact⟨by omega,by omega,by omega,by omega⟩
def bare (f:dh):dh:=⟨f.type,[],[]⟩
def lq (f:dh):Bool:=f.locals.all ry&&decide (gY f.locals≤4294967295)&&cG f.body
theorem ya:∀(fs:List dh),(∀f,f∈fs→lq f=true∧nD (f.locals,f.body) 4294967295∧(ae ee f.locals++al f.body).length<4294967296)→
 ∀(bs:List UInt8) (s:ax) (l:List UInt8),At bs s (fs.flatMap dq++l)→bh bs (fs.map bare) fs.length s=((fs,fs.any fun f=>bD f.body),s.adv (fs.flatMap dq).length)
 | [],_,bs,s,l,ha=>by simp[bh,wY]
 |f::fs,hf,bs,s,l,ha=>by
  obtain⟨h1,h2,h3⟩:=hf f (by simp)
  unfold lq at h1
  simp only[Bool.and_eq_true,decide_eq_true_eq]at h1
  have ha1:At bs s (dq f++(fs.flatMap dq++l)):=by simpa using ha
  have hc:=Pm h1.1.1 h1.1.2 h1.2 h2 h3 bs s _ ha1
  have ih:=ya fs (fun g hg=>hf g (by simp[hg])) bs _ l ha1.adv
  have hc:dC bs s=((f.locals,f.body),s.adv (dq f).length):=hc
  simp only[List.map_cons,List.length_cons,bh,ha.ok,if_true,hc,ih,List.any_cons,List.flatMap_cons,List.length_append,dt]
  rfl
theorem sc (bs:List UInt8):∀(fs:List dh) (n:Nat) (s:ax),s.err≠0→(bh bs fs n s).2=s
 |fs,0,s,_=>by cases fs<;>rfl
 | [],n+1,s,_=>rfl
 |f::fs,n+1,s,h=>by
  unfold bh
  rw[if_neg h]
def Mn (f:dh) (k:Nat):Prop:=lq f=true∧(dq f).length≤k∧nD (f.locals,f.body) k∧(ae ee f.locals++al f.body).length≤k
theorem Mn.up {f:dh} {k m:Nat} (h:Mn f k) (hk:k≤m):Mn f m:=⟨h.1,Nat.le_trans h.2.1 hk,⟨Nat.le_trans h.2.2.1.1 hk,h.2.2.1.2.up hk⟩,Nat.le_trans h.2.2.2 hk⟩
theorem Rw (ty:Int) {l:List fN} {b:List aa} {k:Nat} (h:Np (l,b) k):Mn ⟨ty,l,b⟩ k:=by
 obtain⟨n,⟨p1,p2,p3,p4,p5⟩,p6,p7⟩:=h
 have hn:n≤k:=by omega
 refine⟨?_,Nat.le_trans (yz p4) p6,⟨Nat.le_trans p5.1 hn,p5.2.up hn⟩,Nat.le_trans p4 hn⟩
 unfold lq
 rw[show(dh.mk ty l b).locals.all ry=true from p1,show cG (dh.mk ty l b).body=true from p3,show decide (gY (dh.mk ty l b).locals≤4294967295)=true from decide_eq_true p2]
 rfl
def A6 (fs gs:List dh) (nd:Bool) (k:Nat):Prop:=(gs.flatMap dq).length≤k∧gs.map (·.type)=fs.map (·.type)∧nd=gs.any (fun f=>bD f.body)∧∀f,f∈gs→Mn f k
theorem A6.cons {f:dh} {fs gs:List dh} {nd:Bool} {k1 k2:Nat} {x:List fN×List aa} (h1:Np x k1) (h2:A6 fs gs nd k2):A6 (f::fs) (⟨f.type,x.1,x.2⟩::gs) (bD x.2||nd) (k1+k2):=by
 obtain⟨l,b⟩:=x
 obtain⟨q1,q2,q3,q4⟩:=h2
 have hf:=Rw f.type h1
 refine⟨?_,?_,?_,?_⟩
 ·rw[List.flatMap_cons,List.length_append]
  have:=hf.2.1
  simp only
  omega
 ·rw[List.map_cons,List.map_cons,q2]
 ·rw[List.any_cons,q3]
 ·intro g hg
  rcases List.mem_cons.1 hg with rfl|hg
  ·exact hf.up (by omega)
  ·exact(q4 g hg).up (by omega)
theorem BR (bs:List UInt8) (f:dh) (fs:List dh) (s:ax) (he:s.err=0):bh bs (f::fs) (fs.length+1) s=
 ((⟨f.type,(dC bs s).1.1,(dC bs s).1.2⟩::(bh bs fs fs.length (dC bs s).2).1.1,bD (dC bs s).1.2||(bh bs fs fs.length (dC bs s).2).1.2),(bh bs fs fs.length (dC bs s).2).2):=by
 rw[bh,if_pos he]
theorem Bn (bs:List UInt8) (fs:List dh):∀(s:ax),s.err=0→s.at_≤bs.length→(bh bs fs fs.length s).2.err=0→
 ∃k,(bh bs fs fs.length s).2=s.adv k∧s.at_+k≤bs.length∧A6 fs (bh bs fs fs.length s).1.1 (bh bs fs fs.length s).1.2 k:=by
 induction fs with
 |nil=>
  intro s _ ha _
  exact⟨0,rfl,by simpa using ha,by simp[bh],rfl,rfl,fun f hf=>by simp[bh]at hf⟩
 |cons f fs ih=>
  intro s he ha h0
  have hu:=BR bs f fs s he
  rw[List.length_cons]at h0⊢
  rw[hu]at h0⊢
  have h1:(dC bs s).2.err=0:=by
   apply Classical.byContradiction
   intro hn
   have h0:(bh bs fs fs.length (dC bs s).2).2.err=0:=h0
   rw[sc bs fs _ _ hn]at h0
   exact hn h0
  obtain⟨k1,e1,l1,p⟩:=Ed bs s he ha h1
  obtain⟨k2,e2,l2,q⟩:=ih (dC bs s).2 h1 (by rw[e1];exact l1) h0
  rw[e1]at l2
  have l2:s.at_+k1+k2≤bs.length:=l2
  have e3:(dC bs s).2.adv k2=s.adv (k1+k2):=by rw[e1,dt]
  have l3:s.at_+(k1+k2)≤bs.length:=by omega
  have q3:=A6.cons (f:=f) p q
  clear hu h0 ih
  generalize bh bs fs fs.length (dC bs s).2=R at*
  generalize dC bs s=r at*
  refine⟨k1+k2,?_,?_,?_⟩
  ·exact e2.trans e3
  ·exact l3
  ·exact q3
abbrev xJ:=Nat×List UInt8
def oq (p:xJ):List UInt8:=UInt8.ofNat p.1::aX p.2
def bK (S:List xJ):List UInt8:=S.flatMap oq
theorem tT (S T:List xJ):bK (S++T)=bK S++bK T:=by simp[bK]
theorem BQ (p:xJ):2≤(oq p).length:=by
 have:=qv p.2
 unfold oq
 exact Dj
inductive sx:bT→List xJ→bT→Prop
 |nil (L:bT):sx L [] L
 |cons {id:Nat} {c:List UInt8} {L L1 L2:bT} {S:List xJ}:eC id c L=(L1,⟨c.length,0,0⟩)→sx L1 S L2→sx L ((id,c)::S) L2
theorem sx.app {L L1 L2:bT} {S T:List xJ} (h:sx L S L1) (k:sx L1 T L2):sx L (S++T) L2:=by
 induction h with
 |nil=>exact k
 |cons h1 _ ih=>exact .cons h1 (ih k)
def mb:Int→List xJ→Int→Prop
 |a,[],b=>a=b
 |a,(id,_)::S,b=>id<256∧if id=0 then mb a S b else ∃p:Nat,cr id=some p∧a<p∧mb p S b
theorem mb.app:∀{S:List xJ} {a b c:Int} {T:List xJ},mb a S b→mb b T c→mb a (S++T) c
 | [],a,b,c,T,h,k=>by
  have h:a=b:=h
  rw[h]
  exact k
 |(id,x)::S,a,b,c,T,h,k=>by
  obtain⟨h1,h2⟩:=h
  refine⟨h1,?_⟩
  by_cases h0:id=0
  ·rw[if_pos h0]at h2⊢
   exact h2.app k
  ·rw[if_neg h0]at h2⊢
   obtain⟨p,a1,a2,a3⟩:=h2
   exact⟨p,a1,a2,a3.app k⟩
theorem LK {pre post:List UInt8} {p:xJ} (hid:p.1<256) (hl:p.2.length<4294967296) {b:List UInt8} (hb:b=pre++(oq p++post)):
 pre.length<b.length∧(b.getD pre.length 0).toNat=p.1∧ak b (pre.length+1) 32 false=(p.2.length,pre.length+1+(aI p.2.length).length,0)∧
  pre.length+1+(aI p.2.length).length+p.2.length≤b.length∧((b.drop (pre.length+1+(aI p.2.length).length)).take p.2.length=p.2)∧pre.length+1+(aI p.2.length).length+p.2.length=(pre++oq p).length:=by
 have hb1:b=pre++(UInt8.ofNat p.1::(aI p.2.length++(p.2++post))):=by rw[hb];simp[oq,aX]
 have hlen:b.length=pre.length+(1+((aI p.2.length).length+(p.2.length+post.length))):=by rw[hb1];simp;omega
 have hd1:b.drop (pre.length+1)=aI p.2.length++(p.2++post):=by
  rw[hb1,←List.drop_drop]
  simp
 have hd2:b.drop (pre.length+1+(aI p.2.length).length)=p.2++post:=by
  rw[←List.drop_drop,hd1]
  simp
 refine⟨by omega,?_,?_,by omega,?_,?_⟩
 ·rw[hb1]
  simp[List.getD,fh _ hid]
 ·have ha:At b ⟨pre.length+1,0,0⟩ (aI p.2.length++(p.2++post)):=⟨rfl,by show pre.length+1≤b.length;omega,hd1⟩
  exact yx (s:=⟨pre.length+1,0,0⟩) rfl (zC hl b _ _ ha)
 ·rw[hd2]
  simp
 ·simp[oq,aX];omega
theorem Pc (c:List UInt8):jF c ⟨c.length,0,0⟩=⟨c.length,0,0⟩:=by
 unfold jF
 rw[if_neg (by simp)]
theorem Jt {L L':bT} {S:List xJ} (hr:sx L S L'):∀{a a':Int} {pre post b:List UInt8} {f:Nat},mb a S a'→(∀p,p∈S→p.2.length<4294967296)→b=pre++(bK S++post)→b.length<pre.length+f→
 ∃g,b.length< (pre++bK S).length+g∧fM b f a pre.length L=fM b g a' (pre++bK S).length L':=by
 induction hr with
 |nil L=>
  intro a a' pre post b f hc _ hb hf
  have hc:a=a':=hc
  subst hc
  exact⟨f,by simpa [bK]using hf,by simp[bK]⟩
 | @cons id c L L1 L2 S h1 _ ih=>
  intro a a' pre post b f hc hl hb hf
  obtain⟨hid,hc⟩:=hc
  have hcl:=hl (id,c) (by simp)
  have hb2:b=pre++(oq (id,c)++(bK S++post)):=by rw[hb];simp[bK]
  obtain⟨q1,q2,q3,q4,q5,q6⟩:=LK (p:=(id,c)) hid hcl hb2
  simp only at q2 q3 q4 q5 q6
  have hsz:=BQ (id,c)
  obtain⟨g,rfl⟩:∃g,f=g+1:=⟨f-1,by
   have:b.length=pre.length+((oq (id,c)).length+(bK S++post).length):=by rw[hb2];simp
   omega⟩
  have hpre:(pre++oq (id,c)).length=pre.length+(oq (id,c)).length:=by simp
  obtain⟨g',hg1,hg2⟩:=ih (a:=if id=0 then a else(((cr id).getD 0:Nat):Int)) (a':=a') (pre:=pre++oq (id,c)) (post:=post) (b:=b) (f:=g) (by
   by_cases h0:id=0
   ·rw[if_pos h0]at hc⊢;exact hc
   ·rw[if_neg h0]at hc⊢
    obtain⟨p,a1,a2,a3⟩:=hc
    rw[a1]
    exact a3) (fun p hp=>hl p (by simp[hp])) (by rw[hb2];simp) (by omega)
  refine⟨g',by simpa [bK]using hg1,?_⟩
  have hx:b.getD pre.length 0=0↔id=0:=by
   constructor
   ·intro h;rw[h]at q2;exact q2.symm
   ·intro h
    rw[h]at q2
    exact UInt8.toNat_inj.1 q2
  have e1:¬(b.getD pre.length 0≠0∧cr (b.getD pre.length 0).toNat=none):=by
   rintro⟨n1,n2⟩
   rw[q2]at n2
   have h0:id≠0:=fun h=>n1 (hx.2 h)
   rw[if_neg h0]at hc
   obtain⟨p,a1,_⟩:=hc
   rw[a1]at n2
   cases n2
  have e2:¬(b.getD pre.length 0≠0∧(((cr (b.getD pre.length 0).toNat).getD 0:Nat):Int)≤a):=by
   rintro⟨n1,n2⟩
   rw[q2]at n2
   have h0:id≠0:=fun h=>n1 (hx.2 h)
   rw[if_neg h0]at hc
   obtain⟨p,a1,a2,_⟩:=hc
   rw[a1]at n2
   simp only[Option.getD_some]at n2
   omega
  rw[fM,if_neg (by omega),if_neg e1,if_neg e2,q3]
  simp only
  rw[if_neg (by decide),if_neg (by omega),q5,q2,h1]
  simp only
  rw[Pc,if_neg (by simp),q6]
  have e3:(if b.getD pre.length 0=0 then a else(((cr id).getD 0:Nat):Int))=(if id=0 then a else(((cr id).getD 0:Nat):Int)):=by
   by_cases h0:id=0
   ·rw[if_pos (hx.2 h0),if_pos h0]
   ·rw[if_neg (fun h=>h0 (hx.1 h)),if_neg h0]
  rw[e3,hg2]
  simp[bK]
theorem Jf (b:List UInt8) (g:Nat) (a:Int) (L:bT):fM b (g+1) a b.length L=(L,if eP L then 83 else 0,if eP L then(b.length:Int)else 0):=by
 rw[fM,if_pos (Nat.le_refl _)]
theorem K4 {S:List xJ} {L:bT} {a:Int} (hr:sx cg S L) (hc:mb (-1) S a) (hl:∀p,p∈S→p.2.length<4294967296):
 eE (aP++bK S)=(L,if eP L then 83 else 0,if eP L then((aP++bK S).length:Int)else 0):=by
 unfold eE
 have e:(aP++bK S).take 8=aP:=by
  rw[List.take_append_of_le_length (by decide)]
  decide
 rw[if_pos e]
 obtain⟨g,h1,h2⟩:=Jt hr (pre:=aP) (post:= []) (b:=aP++bK S) (f:=(aP++bK S).length+1) hc hl (by simp) (by omega)
 have h2:fM (aP++bK S) ((aP++bK S).length+1) (-1) 8 cg=fM (aP++bK S) g a (aP++bK S).length L:=h2
 rw[h2]
 obtain⟨g',rfl⟩:∃g',g=g'+1:=⟨g-1,by omega⟩
 exact Jf _ _ _ _
def aU (id:Nat) (c:List UInt8) (has:Bool):List xJ:=if has then [(id,c)]else []
theorem mS {id:Nat} {c:List UInt8} {has:Bool} {L L':bT} (h:has=true→eC id c L=(L',⟨c.length,0,0⟩)) (h0:has=false→L'=L):sx L (aU id c has) L':=by
 unfold aU
 cases has with
 |true=>exact .cons (h rfl) (.nil _)
 |false=>rw[h0 rfl];exact .nil _
theorem gQ {id:Nat} {c:List UInt8} {has:Bool} {a:Int} {p:Nat} (hid:id<256) (h0:id≠0) (hp:cr id=some p) (ha:a<p):∃b,mb a (aU id c has) b∧b≤p:=by
 unfold aU
 cases has with
 |true=>exact⟨p,⟨hid,by rw[if_neg h0];exact⟨p,hp,ha,rfl⟩⟩,Int.le_refl _⟩
 |false=>exact⟨a,rfl,by omega⟩
def has {α:Type} (l:List α):Bool:=decide (l.length≠0)
def ej (m:aV):Bool:=m.funcs.any fun f=>bD f.body
def secs (m:aV):List xJ:=
 aU 1 (ae cm m.types) (has m.types)++(aU 2 (ae dR m.imports) (has m.imports)++(aU 3 (ae (fun f=>au f.type) m.funcs) (has m.funcs)++(aU 4 (ae fD m.tables) (has m.tables)++(aU 5 (ae ea m.mems) (has m.mems)++
 (aU 13 (ae eW m.tags) (has m.tags)++(aU 6 (ae gg m.globals) (has m.globals)++(aU 7 (ae fF m.exports) (has m.exports)++(aU 8 (au m.start) (decide (0≤m.start))++(aU 9 (ae cw m.elems) (has m.elems)++
 (aU 12 (aI m.datas.length) (ej m)++(aU 10 (ae dq m.funcs) (has m.funcs)++aU 11 (ae eu m.datas) (has m.datas))))))))))))
theorem kW {α:Type} (id:Nat) (l:List α) (p:α→List UInt8):bO (UInt8.ofNat id) l p=bK (aU id (ae p l) (has l)):=by
 unfold bO aU has
 by_cases h:l.length=0
 ·rw[if_pos h];simp[h,bK]
 ·rw[if_neg h];simp[h,bK,oq]
theorem Js (m:aV):(km m).flatten=bK (secs m):=by
 have e8:(if 0≤m.start then(8:UInt8)::aX (au m.start)else [])=bK (aU 8 (au m.start) (decide (0≤m.start))):=by
  unfold aU
  by_cases h:0≤m.start
  ·simp[h,bK,oq]
  ·simp[h,bK]
 have e12:(if m.funcs.any (fun f=>bD f.body)then(12:UInt8)::aX (aI m.datas.length)else [])=bK (aU 12 (aI m.datas.length) (ej m)):=by
  unfold aU ej
  cases m.funcs.any fun f=>bD f.body<;>simp[bK,oq]
 have s1:bO 1 m.types cm= _:=kW 1 m.types cm
 have s2:bO 2 m.imports dR= _:=kW 2 m.imports dR
 have s3:bO 3 m.funcs (fun f=>au f.type)= _:=kW 3 m.funcs (fun f=>au f.type)
 have s4:bO 4 m.tables fD= _:=kW 4 m.tables fD
 have s5:bO 5 m.mems ea= _:=kW 5 m.mems ea
 have s13:bO 13 m.tags eW= _:=kW 13 m.tags eW
 have s6:bO 6 m.globals gg= _:=kW 6 m.globals gg
 have s7:bO 7 m.exports fF= _:=kW 7 m.exports fF
 have s9:bO 9 m.elems cw= _:=kW 9 m.elems cw
 have s10:bO 10 m.funcs dq= _:=kW 10 m.funcs dq
 have s11:bO 11 m.datas eu= _:=kW 11 m.datas eu
 unfold km secs
 rw[e8,e12,s1,s2,s3,s4,s5,s13,s6,s7,s9,s10,s11]
 simp only[List.flatten_cons,List.flatten_nil,tT,List.append_nil]
theorem DZ (m:aV):∃a,mb (-1) (secs m) a:=by
 obtain⟨a1,h1,l1⟩:=gQ (id:=1) (c:=ae cm m.types) (has:=has m.types) (a:= -1) (p:=0) (by decide) (by decide) (by decide) (by decide)
 obtain⟨a2,h2,l2⟩:=gQ (id:=2) (c:=ae dR m.imports) (has:=has m.imports) (a:=a1) (p:=1) (by decide) (by decide) (by decide) (by omega)
 obtain⟨a3,h3,l3⟩:=gQ (id:=3) (c:=ae (fun f=>au f.type) m.funcs) (has:=has m.funcs) (a:=a2) (p:=2) (by decide) (by decide) (by decide) (by omega)
 obtain⟨a4,h4,l4⟩:=gQ (id:=4) (c:=ae fD m.tables) (has:=has m.tables) (a:=a3) (p:=3) (by decide) (by decide) (by decide) (by omega)
 obtain⟨a5,h5,l5⟩:=gQ (id:=5) (c:=ae ea m.mems) (has:=has m.mems) (a:=a4) (p:=4) (by decide) (by decide) (by decide) (by omega)
 obtain⟨a6,h6,l6⟩:=gQ (id:=13) (c:=ae eW m.tags) (has:=has m.tags) (a:=a5) (p:=5) (by decide) (by decide) (by decide) (by omega)
 obtain⟨a7,h7,l7⟩:=gQ (id:=6) (c:=ae gg m.globals) (has:=has m.globals) (a:=a6) (p:=6) (by decide) (by decide) (by decide) (by omega)
 obtain⟨a8,h8,l8⟩:=gQ (id:=7) (c:=ae fF m.exports) (has:=has m.exports) (a:=a7) (p:=7) (by decide) (by decide) (by decide) (by omega)
 obtain⟨a9,h9,l9⟩:=gQ (id:=8) (c:=au m.start) (has:=decide (0≤m.start)) (a:=a8) (p:=8) (by decide) (by decide) (by decide) (by omega)
 obtain⟨b1,g1,k1⟩:=gQ (id:=9) (c:=ae cw m.elems) (has:=has m.elems) (a:=a9) (p:=9) (by decide) (by decide) (by decide) (by omega)
 obtain⟨b2,g2,k2⟩:=gQ (id:=12) (c:=aI m.datas.length) (has:=ej m) (a:=b1) (p:=10) (by decide) (by decide) (by decide) (by omega)
 obtain⟨b3,g3,k3⟩:=gQ (id:=10) (c:=ae dq m.funcs) (has:=has m.funcs) (a:=b2) (p:=11) (by decide) (by decide) (by decide) (by omega)
 obtain⟨b4,g4,k4⟩:=gQ (id:=11) (c:=ae eu m.datas) (has:=has m.datas) (a:=b3) (p:=12) (by decide) (by decide) (by decide) (by omega)
 exact⟨b4,h1.app (h2.app (h3.app (h4.app (h5.app (h6.app (h7.app (h8.app (h9.app (g1.app (g2.app (g3.app g4)))))))))))⟩
structure ii (m:aV):Prop where
 types:∀g,g∈m.types→uP g
 imports:∀i,i∈m.imports→FE i 4294967295
 tables:∀t,t∈m.tables→CG t 4294967295
 mems:∀l,l∈m.mems→fK l
 globals:∀g,g∈m.globals→gu g.init 4294967295
 exports:∀e,e∈m.exports→yL e 4294967295
 elems:∀e,e∈m.elems→vX e 4294967295
 codes:∀f,f∈m.funcs→nD (f.locals,f.body) 4294967295∧(ae ee f.locals++al f.body).length<4294967296
 datas:∀d,d∈m.datas→Co d 4294967295
 lens:m.types.length<4294967296∧m.imports.length<4294967296∧m.funcs.length<4294967296∧m.tables.length<4294967296∧m.mems.length<4294967296∧m.tags.length<4294967296∧m.globals.length<4294967296∧m.exports.length<4294967296∧m.elems.length<4294967296∧m.datas.length<4294967296
 secs:∀p,p∈secs m→p.2.length<4294967296
theorem iV {α:Type} {F:bb α} {put:α→List UInt8} (l:List α) (hn:l.length<4294967296) (h:∀x,x∈l→RT F (put x) x∧1≤(put x).length):am (ae put l) (F (ae put l)) ah=(l,⟨(ae put l).length,0,0⟩):=by
 have:=kD l hn h (ae put l) ah [] ⟨rfl,by simp[ah],by simp[ah]⟩
 have this:am (ae put l) (F (ae put l)) ah=(l,ah.adv (ae put l).length):=this
 rw[this]
 simp[ax.adv,ah]
theorem gi {α:Type} {l:List α} (h:has l=false):l= []:=by
 unfold has at h
 simp only[ne_eq,decide_eq_false_iff_not,Decidable.not_not]at h
 exact List.length_eq_zero_iff.1 h
def upto (m:aV):Nat→bT
 |0=>cg
 |1=>⟨{aV.none with types:=m.types},-1,false,false,false⟩
 |2=>⟨{aV.none with types:=m.types,imports:=m.imports},-1,false,false,false⟩
 |3=>⟨{aV.none with types:=m.types,imports:=m.imports,funcs:=m.funcs.map bare},-1,false,false,false⟩
 |4=>⟨{aV.none with types:=m.types,imports:=m.imports,funcs:=m.funcs.map bare,tables:=m.tables},-1,false,false,false⟩
 |5=>⟨{aV.none with types:=m.types,imports:=m.imports,funcs:=m.funcs.map bare,tables:=m.tables,mems:=m.mems},-1,false,false,false⟩
 |6=>⟨{aV.none with types:=m.types,imports:=m.imports,funcs:=m.funcs.map bare,tables:=m.tables,mems:=m.mems,tags:=m.tags},-1,false,false,false⟩
 |7=>⟨{aV.none with types:=m.types,imports:=m.imports,funcs:=m.funcs.map bare,tables:=m.tables,mems:=m.mems,tags:=m.tags,globals:=m.globals},-1,false,false,false⟩
 |8=>⟨{aV.none with types:=m.types,imports:=m.imports,funcs:=m.funcs.map bare,tables:=m.tables,mems:=m.mems,tags:=m.tags,globals:=m.globals,exports:=m.exports},-1,false,false,false⟩
 |9=>⟨{m with funcs:=m.funcs.map bare,elems:= [],datas:= []},-1,false,false,false⟩
 |10=>⟨{m with funcs:=m.funcs.map bare,datas:= []},-1,false,false,false⟩
 |11=>⟨{m with funcs:=m.funcs.map bare,datas:= []},if ej m then m.datas.length else-1,false,false,false⟩
 |12=>⟨{m with datas:= []},if ej m then m.datas.length else-1,has m.funcs,false,ej m⟩
 | _=>⟨m,if ej m then m.datas.length else-1,has m.funcs,has m.datas,ej m⟩
theorem yo {bs:List UInt8} {n:Nat} {l:List UInt8} {known:Int} (ha:At bs ah (aI n++l)) (hn:n<4294967296) (hl:n≤l.length) (hk:known<0∨known=n):bo known bs ah=(n,ah.adv (aI n).length):=by
 have hc:=tC ha hn hl
 unfold bo
 rw[hc]
 simp only
 rw[if_neg (by omega)]
theorem Je (f:dh):1≤(dq f).length:=qv _
theorem xC {f:dh} (h:kY f=true):ev f.type=true∧lq f=true:=by
 unfold kY at h
 simp only[Bool.and_eq_true,decide_eq_true_eq]at h
 refine⟨h.1.1.1,?_⟩
 unfold lq
 simp only[Bool.and_eq_true,decide_eq_true_eq]
 exact⟨⟨h.1.1.2,h.1.2⟩,h.2⟩
theorem Oe {m:aV} (h:cy m=true) (hs:ii m):sx cg (secs m) (upto m 13):=by
 unfold cy at h
 simp only[Bool.and_eq_true]at h
 obtain⟨⟨⟨⟨⟨⟨⟨⟨⟨⟨y1,y2⟩,y3⟩,y4⟩,y5⟩,y6⟩,y7⟩,y8⟩,y9⟩,xI⟩,Gu⟩:=h
 obtain⟨n1,n2,n3,n4,n5,n6,n7,n8,n9,n10⟩:=hs.lens
 have a1:sx (upto m 0) (aU 1 (ae cm m.types) (has m.types)) (upto m 1):=mS (fun _=>by
  rw[eC,if_pos rfl,iV (F:=gy) m.types n1 fun g hg=>⟨JS (List.all_eq_true.1 y1 g hg) (hs.types g hg),xn (List.all_eq_true.1 y1 g hg)⟩]
  rfl) (fun e=>by simp[upto,gi e,cg,aV.none])
 have a2:sx (upto m 1) (aU 2 (ae dR m.imports) (has m.imports)) (upto m 2):=mS (fun _=>by
  rw[eC,if_neg (by decide),if_pos rfl,iV (F:=mV) m.imports n2 fun g hg=>⟨QG (List.all_eq_true.1 y2 g hg) (hs.imports g hg),CT g⟩]
  rfl) (fun e=>by simp[upto,gi e,aV.none])
 have a3:sx (upto m 2) (aU 3 (ae (fun f=>au f.type) m.funcs) (has m.funcs)) (upto m 3):=mS (fun _=>by
  have hl:am (ae (fun f:dh=>au f.type) m.funcs) (nz (ae (fun f:dh=>au f.type) m.funcs)) ah=(m.funcs.map bare,⟨(ae (fun f:dh=>au f.type) m.funcs).length,0,0⟩):=by
   have e:ae (fun f:dh=>au f.type) m.funcs=ae (fun f:dh=>au f.type) (m.funcs.map bare):=by
    unfold ae
    rw[List.length_map,List.flatMap_map]
    rfl
   rw[e]
   refine iV (F:=nz) (m.funcs.map bare) (by simpa using n3) fun g hg=> ?_
   obtain⟨f,hf,rfl⟩:=List.mem_map.1 hg
   exact⟨by rw[Gx];exact(dZ (xC (List.all_eq_true.1 y3 f hf)).1).map fun n=>(⟨n,[],[]⟩:dh),j9 _⟩
  rw[eC,if_neg (by decide),if_neg (by decide),if_pos rfl,hl]
  rfl) (fun e=>by simp[upto,gi e,aV.none])
 have a4:sx (upto m 3) (aU 4 (ae fD m.tables) (has m.tables)) (upto m 4):=mS (fun _=>by
  rw[eC,if_neg (by decide),if_neg (by decide),if_neg (by decide),if_pos rfl,iV (F:=nt) m.tables n4 fun g hg=>⟨Qx (List.all_eq_true.1 y4 g hg) (hs.tables g hg),xx (List.all_eq_true.1 y4 g hg)⟩]
  rfl) (fun e=>by simp[upto,gi e,aV.none])
 have a5:sx (upto m 4) (aU 5 (ae ea m.mems) (has m.mems)) (upto m 5):=mS (fun _=>by
  rw[eC,if_neg (by decide),if_neg (by decide),if_neg (by decide),if_neg (by decide),if_pos rfl,iV (F:=jr) m.mems n5 fun g hg=>⟨AJ (List.all_eq_true.1 y5 g hg) (hs.mems g hg),vJ g⟩]
  rfl) (fun e=>by simp[upto,gi e,aV.none])
 have a6:sx (upto m 5) (aU 13 (ae eW m.tags) (has m.tags)) (upto m 6):=mS (fun _=>by
  rw[eC,if_neg (by decide),if_neg (by decide),if_neg (by decide),if_neg (by decide),if_neg (by decide),if_pos rfl,iV (F:=kU) m.tags n6 fun g hg=>⟨FP (List.all_eq_true.1 y6 g hg),by simp[eW]⟩]
  rfl) (fun e=>by simp[upto,gi e,aV.none])
 have a7:sx (upto m 6) (aU 6 (ae gg m.globals) (has m.globals)) (upto m 7):=mS (fun _=>by
  rw[eC,if_neg (by decide),if_neg (by decide),if_neg (by decide),if_neg (by decide),if_neg (by decide),if_neg (by decide),if_pos rfl,iV (F:=nZ) m.globals n7 fun g hg=>⟨QM (List.all_eq_true.1 y7 g hg) (hs.globals g hg),B5 (List.all_eq_true.1 y7 g hg)⟩]
  rfl) (fun e=>by simp[upto,gi e,aV.none])
 have a8:sx (upto m 7) (aU 7 (ae fF m.exports) (has m.exports)) (upto m 8):=mS (fun _=>by
  rw[eC,if_neg (by decide),if_neg (by decide),if_neg (by decide),if_neg (by decide),if_neg (by decide),if_neg (by decide),if_neg (by decide),if_pos rfl,iV (F:=mG) m.exports n8 fun g hg=>⟨Rf (List.all_eq_true.1 y8 g hg) (hs.exports g hg),Cp g⟩]
  rfl) (fun e=>by simp[upto,gi e,aV.none])
 have a9:sx (upto m 8) (aU 8 (au m.start) (decide (0≤m.start))) (upto m 9):=mS (fun e=>by
  have hi:ev m.start=true:=by
   simp only[Bool.or_eq_true,decide_eq_true_eq]at y9 e
   rcases y9 with y|y
   ·omega
   ·exact y
  have hr:=dZ hi (au m.start) ah [] ⟨rfl,by simp[ah],by simp[ah]⟩
  rw[eC,if_neg (by decide),if_neg (by decide),if_neg (by decide),if_neg (by decide),if_neg (by decide),if_neg (by decide),if_neg (by decide),if_neg (by decide),if_pos rfl,hr]
  simp[upto,ax.adv,ah,aV.none]) (fun e=>by
  have:m.start= -1:=by
   simp only[Bool.or_eq_true,decide_eq_true_eq,decide_eq_false_iff_not]at y9 e
   rcases y9 with y|y
   ·exact y
   ·rw[bz]at y;omega
  simp[upto,aV.none,this])
 have a10:sx (upto m 9) (aU 9 (ae cw m.elems) (has m.elems)) (upto m 10):=mS (fun _=>by
  rw[eC,if_neg (by decide),if_neg (by decide),if_neg (by decide),if_neg (by decide),if_neg (by decide),if_neg (by decide),if_neg (by decide),if_neg (by decide),if_neg (by decide),if_pos rfl,iV (F:=eS) m.elems n9 fun g hg=>⟨M4 (List.all_eq_true.1 xI g hg) (hs.elems g hg),yV g⟩]
  rfl) (fun e=>by simp[upto,gi e])
 have a11:sx (upto m 10) (aU 12 (aI m.datas.length) (ej m)) (upto m 11):=mS (fun e=>by
  have hr:=dZ (n:=(m.datas.length:Int)) (by rw[bz];omega) (au (m.datas.length:Int)) ah [] ⟨rfl,by simp[ah],by simp[ah]⟩
  have hp:au (m.datas.length:Int)=aI m.datas.length:=by simp[au]
  rw[hp]at hr
  rw[eC,if_neg (by decide),if_neg (by decide),if_neg (by decide),if_neg (by decide),if_neg (by decide),if_neg (by decide),if_neg (by decide),if_neg (by decide),if_neg (by decide),if_neg (by decide),if_pos rfl,hr]
  simp[upto,ax.adv,ah,e]) (fun e=>by simp[upto,e])
 have a12:sx (upto m 11) (aU 10 (ae dq m.funcs) (has m.funcs)) (upto m 12):=mS (fun e=>by
  have hcs:∀f,f∈m.funcs→lq f=true∧nD (f.locals,f.body) 4294967295∧(ae ee f.locals++al f.body).length<4294967296:=fun f hf=>⟨(xC (List.all_eq_true.1 y3 f hf)).2,(hs.codes f hf).1,(hs.codes f hf).2⟩
  have hA:At (ae dq m.funcs) ah (aI m.funcs.length++(m.funcs.flatMap dq++ [])):=⟨rfl,by simp[ah],by simp[ah,ae]⟩
  have hg:=yo (known:=((m.funcs.map bare).length:Int)) hA n3 (by simpa using fZ dq m.funcs fun f _=>Je f) (.inr (by simp))
  have hc:=ya m.funcs hcs _ _ _ hA.adv
  have hfs:(upto m 11).m.funcs=m.funcs.map bare:=rfl
  rw[eC,if_neg (by decide),if_neg (by decide),if_neg (by decide),if_neg (by decide),if_neg (by decide),if_neg (by decide),if_neg (by decide),if_neg (by decide),if_neg (by decide),if_neg (by decide),if_neg (by decide),if_pos rfl,hfs,hg]
  simp only[hc]
  simp[upto,ax.adv,ah,e,ej,ae]) (fun e=>by
  have h0:=gi e
  obtain⟨m1,m2,m3,m4,m5,m6,m7,m8,m9,m10,m11⟩:=m
  simp only at h0
  subst h0
  rfl)
 have a13:sx (upto m 12) (aU 11 (ae eu m.datas) (has m.datas)) (upto m 13):=mS (fun e=>by
  have hA:At (ae eu m.datas) ah (aI m.datas.length++(m.datas.flatMap eu++ [])):=⟨rfl,by simp[ah],by simp[ah,ae]⟩
  have hg:=yo (known:=(upto m 12).count) hA n10 (by simpa using fZ eu m.datas fun f _=>Lw f) (by
   show(if ej m then(m.datas.length:Int)else-1)<0∨(if ej m then(m.datas.length:Int)else-1)=m.datas.length
   cases ej m
   ·left;simp
   ·right;rfl)
  have hc:=CI (F:=mI) (put:=eu) m.datas (fun d hd=>QC (List.all_eq_true.1 Gu d hd) (hs.datas d hd)) _ _ _ hA.adv
  have hc:av (mI (ae eu m.datas)) m.datas.length (ah.adv (aI m.datas.length).length)=(m.datas,(ah.adv (aI m.datas.length).length).adv (m.datas.flatMap eu).length):=hc
  rw[eC,if_neg (by decide),if_neg (by decide),if_neg (by decide),if_neg (by decide),if_neg (by decide),if_neg (by decide),if_neg (by decide),if_neg (by decide),if_neg (by decide),if_neg (by decide),if_neg (by decide),if_neg (by decide),if_pos rfl,hg]
  simp only[hc]
  simp[upto,ax.adv,ah,e,ae]) (fun e=>by
  have h0:=gi e
  obtain⟨m1,m2,m3,m4,m5,m6,m7,m8,m9,m10,m11⟩:=m
  simp only at h0
  subst h0
  rfl)
 exact a1.app (a2.app (a3.app (a4.app (a5.app (a6.app (a7.app (a8.app (a9.app (a10.app (a11.app (a12.app a13)))))))))))
theorem B6 (m:aV):eP (upto m 13)=false:=by
 unfold eP upto has
 simp only
 cases ej m with
 |true=>
  simp only[if_true,Bool.true_and,Bool.or_eq_false_iff,Bool.and_eq_false_iff,decide_eq_false_iff_not,Bool.not_eq_false']
  refine⟨⟨?_,?_⟩,by omega⟩
  ·by_cases h:m.funcs.length=0
   ·left;omega
   ·right;simp[h]
  ·by_cases h:m.datas.length=0
   ·left;omega
   ·right;simp[h]
 |false=>
  simp only[Bool.false_eq_true,if_false,Bool.false_and,Bool.or_false,Bool.or_eq_false_iff,Bool.and_eq_false_iff,decide_eq_false_iff_not,Bool.not_eq_false']
  refine⟨?_,.inl (by decide)⟩
  by_cases h:m.funcs.length=0
  ·left;omega
  ·right;simp[h]
theorem AD {m:aV} (h:cy m=true):dy m=aP++bK (secs m):=by
 unfold dy
 rw[if_pos h,Js]
theorem pp {m:aV} (h:cy m=true) (hs:ii m):dw (dy m)=(m,0,0):=by
 obtain⟨a,hc⟩:=DZ m
 have hr:=K4 (Oe h hs) hc hs.secs
 rw[B6]at hr
 unfold dw
 rw[AD h,hr]
 simp[upto]
def bl (S:List xJ):Nat:=(bK S).length
theorem sO {id:Nat} {c:List UInt8} {has:Bool} {n:Nat} (h:c.length≤n):bl (aU id c has)≤1+((aI n).length+n):=by
 have:=yz h
 unfold bl aU
 cases has with
 |true=>
  simp only[if_true,bK,List.flatMap_cons,List.flatMap_nil,List.append_nil,oq,List.length_cons]
  omega
 |false=>simp[bK]
theorem kk (id:Nat) (c:List UInt8):bl (aU id c false)=0:=rfl
def W (L:bT):Nat:=
 bl (aU 1 (ae cm L.m.types) (has L.m.types))+bl (aU 2 (ae dR L.m.imports) (has L.m.imports))+bl (aU 3 (ae (fun f=>au f.type) L.m.funcs) (has L.m.funcs))+bl (aU 4 (ae fD L.m.tables) (has L.m.tables))+
 bl (aU 5 (ae ea L.m.mems) (has L.m.mems))+bl (aU 13 (ae eW L.m.tags) (has L.m.tags))+bl (aU 6 (ae gg L.m.globals) (has L.m.globals))+bl (aU 7 (ae fF L.m.exports) (has L.m.exports))+
 bl (aU 8 (au L.m.start) (decide (0≤L.m.start)))+bl (aU 9 (ae cw L.m.elems) (has L.m.elems))+bl (aU 10 (ae dq L.m.funcs) (L.codes&&has L.m.funcs))+bl (aU 11 (ae eu L.m.datas) (has L.m.datas))
structure PE (K:Nat) (L:bT) (a:Int) (n:Nat):Prop where
 types:(a<0→L.m.types= [])∧L.m.types.all (fun g=>g.all bP)=true∧(∀g,g∈L.m.types→uP g)∧L.m.types.length≤K
 imports:(a<1→L.m.imports= [])∧L.m.imports.all kl=true∧(∀i,i∈L.m.imports→FE i K)∧L.m.imports.length≤K
 funcs:(a<2→L.m.funcs= [])∧(∀f,f∈L.m.funcs→ev f.type=true)∧L.m.funcs.length≤K
 tables:(a<3→L.m.tables= [])∧L.m.tables.all gC=true∧(∀t,t∈L.m.tables→CG t K)∧L.m.tables.length≤K
 mems:(a<4→L.m.mems= [])∧L.m.mems.all jD=true∧(∀t,t∈L.m.mems→fK t)∧L.m.mems.length≤K
 tags:(a<5→L.m.tags= [])∧L.m.tags.all ev=true∧L.m.tags.length≤K
 globals:(a<6→L.m.globals= [])∧L.m.globals.all hJ=true∧(∀g,g∈L.m.globals→gu g.init K)∧L.m.globals.length≤K
 exports:(a<7→L.m.exports= [])∧L.m.exports.all kj=true∧(∀e,e∈L.m.exports→yL e K)∧L.m.exports.length≤K
 start:(a<8→L.m.start= -1)∧(L.m.start= -1∨ev L.m.start=true)
 elems:(a<9→L.m.elems= [])∧L.m.elems.all fP=true∧(∀e,e∈L.m.elems→vX e K)∧L.m.elems.length≤K
 count:(a<10→L.count= -1)∧(L.count= -1∨0≤L.count)
 codes:(a<11→L.codes=false)∧(L.codes=false→∀f,f∈L.m.funcs→f.locals= []∧f.body= [])∧∀f,f∈L.m.funcs→lq f=true∧nD (f.locals,f.body) K∧(ae ee f.locals++al f.body).length≤K
 needs:L.needs=ej L.m
 datas:(a<12→L.m.datas= [])∧L.m.datas.all ix=true∧(∀d,d∈L.m.datas→Co d K)∧L.m.datas.length≤K
 wt:8+W L≤n
theorem PE.up {K:Nat} {L:bT} {a a':Int} {n n':Nat} (h:PE K L a n) (ha:a≤a') (hn:n≤n'):PE K L a' n' where
 types:=⟨fun q=>h.types.1 (by omega),h.types.2⟩
 imports:=⟨fun q=>h.imports.1 (by omega),h.imports.2⟩
 funcs:=⟨fun q=>h.funcs.1 (by omega),h.funcs.2⟩
 tables:=⟨fun q=>h.tables.1 (by omega),h.tables.2⟩
 mems:=⟨fun q=>h.mems.1 (by omega),h.mems.2⟩
 tags:=⟨fun q=>h.tags.1 (by omega),h.tags.2⟩
 globals:=⟨fun q=>h.globals.1 (by omega),h.globals.2⟩
 exports:=⟨fun q=>h.exports.1 (by omega),h.exports.2⟩
 start:=⟨fun q=>h.start.1 (by omega),h.start.2⟩
 elems:=⟨fun q=>h.elems.1 (by omega),h.elems.2⟩
 count:=⟨fun q=>h.count.1 (by omega),h.count.2⟩
 codes:=⟨fun q=>h.codes.1 (by omega),h.codes.2⟩
 needs:=h.needs
 datas:=⟨fun q=>h.datas.1 (by omega),h.datas.2⟩
 wt:=by have:=h.wt;omega
theorem gV {α:Type} {F:bb α} {P:α→Nat→Prop} {put:α→List UInt8} (hF:cT F P) (hP:∀x k,P x k→(put x).length≤k∧1≤k) {c:List UInt8} (h:(jF c (am c (F c) ah).2).err=0):Q7 P put (am c (F c) ah).1 c.length:=by
 have h1:=nf h
 obtain⟨k,e,l,p⟩:=(od hF hP).back c ah rfl (by simp[ah]) h1
 have e:(am c (F c) ah).2=ah.adv k:=e
 obtain⟨h2,_⟩:=QL h (by rw[e];exact l) h1
 rw[e]at h2
 have h2:0+k=c.length:=h2
 rw[Nat.zero_add]at h2
 subst h2
 exact p
theorem AM {id p:Nat} (h:cr id=some p):(id=1∧p=0)∨(id=2∧p=1)∨(id=3∧p=2)∨(id=4∧p=3)∨(id=5∧p=4)∨(id=13∧p=5)∨(id=6∧p=6)∨(id=7∧p=7)∨(id=8∧p=8)∨(id=9∧p=9)∨(id=12∧p=10)∨(id=10∧p=11)∨(id=11∧p=12):=by
 unfold cr at h
 by_cases h0:id=1
 ·rw[if_pos h0]at h;exact .inl ⟨h0,(Option.some.inj h).symm⟩
 rw[if_neg h0]at h
 by_cases h1:id=2
 ·rw[if_pos h1]at h;exact .inr (.inl ⟨h1,(Option.some.inj h).symm⟩)
 rw[if_neg h1]at h
 by_cases h2:id=3
 ·rw[if_pos h2]at h;exact .inr (.inr (.inl ⟨h2,(Option.some.inj h).symm⟩))
 rw[if_neg h2]at h
 by_cases h3:id=4
 ·rw[if_pos h3]at h;exact .inr (.inr (.inr (.inl ⟨h3,(Option.some.inj h).symm⟩)))
 rw[if_neg h3]at h
 by_cases h4:id=5
 ·rw[if_pos h4]at h;exact .inr (.inr (.inr (.inr (.inl ⟨h4,(Option.some.inj h).symm⟩))))
 rw[if_neg h4]at h
 by_cases h5:id=13
 ·rw[if_pos h5]at h;exact .inr (.inr (.inr (.inr (.inr (.inl ⟨h5,(Option.some.inj h).symm⟩)))))
 rw[if_neg h5]at h
 by_cases h6:id=6
 ·rw[if_pos h6]at h;exact .inr (.inr (.inr (.inr (.inr (.inr (.inl ⟨h6,(Option.some.inj h).symm⟩))))))
 rw[if_neg h6]at h
 by_cases h7:id=7
 ·rw[if_pos h7]at h;exact .inr (.inr (.inr (.inr (.inr (.inr (.inr (.inl ⟨h7,(Option.some.inj h).symm⟩)))))))
 rw[if_neg h7]at h
 by_cases h8:id=8
 ·rw[if_pos h8]at h;exact .inr (.inr (.inr (.inr (.inr (.inr (.inr (.inr (.inl ⟨h8,(Option.some.inj h).symm⟩))))))))
 rw[if_neg h8]at h
 by_cases h9:id=9
 ·rw[if_pos h9]at h;exact .inr (.inr (.inr (.inr (.inr (.inr (.inr (.inr (.inr (.inl ⟨h9,(Option.some.inj h).symm⟩)))))))))
 rw[if_neg h9]at h
 by_cases h10:id=12
 ·rw[if_pos h10]at h;exact .inr (.inr (.inr (.inr (.inr (.inr (.inr (.inr (.inr (.inr (.inl ⟨h10,(Option.some.inj h).symm⟩))))))))))
 rw[if_neg h10]at h
 by_cases h11:id=10
 ·rw[if_pos h11]at h;exact .inr (.inr (.inr (.inr (.inr (.inr (.inr (.inr (.inr (.inr (.inr (.inl ⟨h11,(Option.some.inj h).symm⟩)))))))))))
 rw[if_neg h11]at h
 by_cases h12:id=11
 ·rw[if_pos h12]at h;exact .inr (.inr (.inr (.inr (.inr (.inr (.inr (.inr (.inr (.inr (.inr (.inr (⟨h12,(Option.some.inj h).symm⟩))))))))))))
 rw[if_neg h12]at h
 cases h
theorem P3 {L:bT} {x:List (List bu)} (h0:L.m.types= []):W {L with m:={L.m with types:=x}}=W L+bl (aU 1 (ae cm x) (has x)):=by
 unfold W;rw[h0];simp only[show has ([]:List (List bu))=false from rfl,kk];omega
theorem Kk {L:bT} {x:List jp} (h0:L.m.imports= []):W {L with m:={L.m with imports:=x}}=W L+bl (aU 2 (ae dR x) (has x)):=by
 unfold W;rw[h0];simp only[show has ([]:List jp)=false from rfl,kk];omega
theorem QH {L:bT} {x:List dh} (h0:L.m.funcs= []) (hc:L.codes=false):W {L with m:={L.m with funcs:=x}}=W L+bl (aU 3 (ae (fun f=>au f.type) x) (has x)):=by
 unfold W;rw[h0];simp only[show has ([]:List dh)=false from rfl,kk,hc,Bool.false_and];omega
theorem NN {L:bT} {x:List lO} (h0:L.m.tables= []):W {L with m:={L.m with tables:=x}}=W L+bl (aU 4 (ae fD x) (has x)):=by
 unfold W;rw[h0];simp only[show has ([]:List lO)=false from rfl,kk];omega
theorem SL {L:bT} {x:List eA} (h0:L.m.mems= []):W {L with m:={L.m with mems:=x}}=W L+bl (aU 5 (ae ea x) (has x)):=by
 unfold W;rw[h0];simp only[show has ([]:List eA)=false from rfl,kk];omega
theorem T6 {L:bT} {x:List Int} (h0:L.m.tags= []):W {L with m:={L.m with tags:=x}}=W L+bl (aU 13 (ae eW x) (has x)):=by
 unfold W;rw[h0];simp only[show has ([]:List Int)=false from rfl,kk];omega
theorem Ht {L:bT} {x:List mD} (h0:L.m.globals= []):W {L with m:={L.m with globals:=x}}=W L+bl (aU 6 (ae gg x) (has x)):=by
 unfold W;rw[h0];simp only[show has ([]:List mD)=false from rfl,kk];omega
theorem KZ {L:bT} {x:List kB} (h0:L.m.exports= []):W {L with m:={L.m with exports:=x}}=W L+bl (aU 7 (ae fF x) (has x)):=by
 unfold W;rw[h0];simp only[show has ([]:List kB)=false from rfl,kk];omega
theorem PI {L:bT} {x:Int} (h0:L.m.start= -1):W {L with m:={L.m with start:=x}}=W L+bl (aU 8 (au x) (decide (0≤x))):=by
 unfold W;rw[h0];simp only[show decide (0≤(-1:Int))=false from rfl,kk];omega
theorem PW {L:bT} {x:List eb} (h0:L.m.elems= []):W {L with m:={L.m with elems:=x}}=W L+bl (aU 9 (ae cw x) (has x)):=by
 unfold W;rw[h0];simp only[show has ([]:List eb)=false from rfl,kk];omega
theorem PK {L:bT} {x:List jG} (h0:L.m.datas= []):W {L with datas:=true,m:={L.m with datas:=x}}=W L+bl (aU 11 (ae eu x) (has x)):=by
 unfold W;rw[h0];simp only[show has ([]:List jG)=false from rfl,kk];omega
theorem Rp {L:bT} {x:List dh} {n:Bool} (hc:L.codes=false) (ht:x.map (·.type)=L.m.funcs.map (·.type)):W {L with codes:=true,m:={L.m with funcs:=x},needs:=n}=W L+bl (aU 10 (ae dq x) (has x)):=by
 have hl:x.length=L.m.funcs.length:=by have:=congrArg List.length ht;simpa using this
 have hh:has x=has L.m.funcs:=by unfold has;rw[hl]
 have hp:ae (fun f:dh=>au f.type) x=ae (fun f:dh=>au f.type) L.m.funcs:=by
  have e:∀l:List dh,l.flatMap (fun f:dh=>au f.type)=(l.map (·.type)).flatMap au:=fun l=>by rw[List.flatMap_map]
  unfold ae
  rw[hl,e,e,ht]
 unfold W;simp only[hc,hp,hh,Bool.true_and,Bool.false_and,kk];omega
theorem Kc {f:dh} (h1:f.locals= []) (h2:f.body= []) {K:Nat} (hK:2≤K):lq f=true∧nD (f.locals,f.body) K∧(ae ee f.locals++al f.body).length≤K:=by
 obtain⟨t,l,b⟩:=f
 simp only at h1 h2
 subst h1 h2
 refine⟨by simp[lq,gY,ri,cG,jI,jZ],⟨by simp,mK K⟩,?_⟩
 have:(ae ee []++al []).length=2:=by decide+kernel
 simp only
 omega
theorem wg {l:List dh} (h:∀f,f∈l→f.locals= []∧f.body= []):(l.any fun f=>bD f.body)=false:=by
 rw[List.any_eq_false]
 intro f hf
 rw[(h f hf).2]
 decide
theorem Nj {K:Nat} {L:bT} {a:Int} {n id p:Nat} {c:List UInt8} (h:PE K L a n) (hK:2≤K) (hK2:K<4294967296) (hc:c.length≤K) (hp:cr id=some p) (ha:a<p) (he:(jF c (eC id c L).2).err=0):
 PE K (eC id c L).1 p (n+(1+((aI c.length).length+c.length))):=by
 have hu:=h.up (a':=p) (n':=n+(1+((aI c.length).length+c.length))) (by omega) (by omega)
 have hw:=h.wt
 rcases AM hp with⟨rfl,rfl⟩|⟨rfl,rfl⟩|⟨rfl,rfl⟩|⟨rfl,rfl⟩|⟨rfl,rfl⟩|⟨rfl,rfl⟩|⟨rfl,rfl⟩|⟨rfl,rfl⟩|⟨rfl,rfl⟩|⟨rfl,rfl⟩|⟨rfl,rfl⟩|⟨rfl,rfl⟩|⟨rfl,rfl⟩
 ·rw[eC,if_pos rfl]at he⊢
  have hb:=gV (F:=gy) Cc (fun _ _ q=>⟨q.2.1,q.2.2⟩) he
  have h0:=h.types.1 (by omega)
  exact {hu with
   types:=⟨fun q=>by omega,hb.all fun _ _ q=>q.1,fun g hg=>by obtain⟨j,j1,j2⟩:=hb.2.2 g hg;exact Ci j2 (by omega),Nat.le_trans (hb.len fun x hx=>by obtain⟨j,j1,j2⟩:=hb.2.2 x hx;exact xn j2.1) hc⟩
   wt:=by rw[P3 h0];have:=sO (id:=1) (has:=has (am c (gy c) ah).1) hb.1;omega}
 ·rw[eC,if_neg (by decide),if_pos rfl]at he⊢
  have hb:=gV (F:=mV) IQ (fun _ _ q=>⟨q.2.1,q.2.2.1⟩) he
  have h0:=h.imports.1 (by omega)
  exact {hu with
   imports:=⟨fun q=>by omega,hb.all fun _ _ q=>q.1,fun g hg=>by obtain⟨j,j1,_,_,_,j2,j3,j4⟩:=hb.2.2 g hg;exact⟨by omega,by omega,j4⟩,Nat.le_trans (hb.len fun x hx=>CT x) hc⟩
   wt:=by rw[Kk h0];have:=sO (id:=2) (has:=has (am c (mV c) ah).1) hb.1;omega}
 ·rw[eC,if_neg (by decide),if_neg (by decide),if_pos rfl]at he⊢
  have hb:=gV (F:=nz) (put:=fun f=>au f.type) Hz (fun _ _ q=>⟨q.2.1,q.2.2.1⟩) he
  have h0:=h.funcs.1 (by omega)
  have hcf:=h.codes.1 (by omega)
  have hbare:∀f,f∈(am c (nz c) ah).1→f.locals= []∧f.body= []:=fun f hf=>by obtain⟨j,j1,j2⟩:=hb.2.2 f hf;exact j2.2.2.2
  exact {hu with
   funcs:=⟨fun q=>by omega,fun f hf=>by obtain⟨j,j1,j2⟩:=hb.2.2 f hf;exact j2.1,Nat.le_trans (hb.len fun x hx=>j9 _) hc⟩
   codes:=⟨fun _=>hcf,fun _=>hbare,fun f hf=>Kc (hbare f hf).1 (hbare f hf).2 hK⟩
   needs:=by
    show L.needs= _
    rw[h.needs]
    unfold ej
    rw[wg hbare,h0]
    rfl
   wt:=by rw[QH h0 hcf];have:=sO (id:=3) (has:=has (am c (nz c) ah).1) hb.1;omega}
 ·rw[eC,if_neg (by decide),if_neg (by decide),if_neg (by decide),if_pos rfl]at he⊢
  have hb:=gV (F:=nt) KQ (fun _ _ q=>⟨q.2.1,q.2.2.1⟩) he
  have h0:=h.tables.1 (by omega)
  exact {hu with
   tables:=⟨fun q=>by omega,hb.all fun _ _ q=>q.1,fun g hg=>by obtain⟨j,j1,_,_,_,j2,j3⟩:=hb.2.2 g hg;exact⟨j2,j3.up (by omega)⟩,Nat.le_trans (hb.len fun x hx=>by obtain⟨j,j1,j2⟩:=hb.2.2 x hx;exact xx j2.1) hc⟩
   wt:=by rw[NN h0];have:=sO (id:=4) (has:=has (am c (nt c) ah).1) hb.1;omega}
 ·rw[eC,if_neg (by decide),if_neg (by decide),if_neg (by decide),if_neg (by decide),if_pos rfl]at he⊢
  have hb:=gV (F:=jr) nn (fun _ _ q=>⟨q.2.1,q.2.2.1⟩) he
  have h0:=h.mems.1 (by omega)
  exact {hu with
   mems:=⟨fun q=>by omega,hb.all fun _ _ q=>q.1,fun g hg=>by obtain⟨j,j1,j2⟩:=hb.2.2 g hg;exact j2.2.2.2,Nat.le_trans (hb.len fun x hx=>vJ x) hc⟩
   wt:=by rw[SL h0];have:=sO (id:=5) (has:=has (am c (jr c) ah).1) hb.1;omega}
 ·rw[eC,if_neg (by decide),if_neg (by decide),if_neg (by decide),if_neg (by decide),if_neg (by decide),if_pos rfl]at he⊢
  have hb:=gV (F:=kU) sG (fun _ _ q=>⟨q.2.1,q.2.2⟩) he
  have h0:=h.tags.1 (by omega)
  exact {hu with
   tags:=⟨fun q=>by omega,hb.all fun _ _ q=>q.1,Nat.le_trans (hb.len fun x hx=>by simp[eW]) hc⟩
   wt:=by rw[T6 h0];have:=sO (id:=13) (has:=has (am c (kU c) ah).1) hb.1;omega}
 ·rw[eC,if_neg (by decide),if_neg (by decide),if_neg (by decide),if_neg (by decide),if_neg (by decide),if_neg (by decide),if_pos rfl]at he⊢
  have hb:=gV (F:=nZ) K7 (fun _ _ q=>⟨q.2.1,q.2.2.1⟩) he
  have h0:=h.globals.1 (by omega)
  exact {hu with
   globals:=⟨fun q=>by omega,hb.all fun _ _ q=>q.1,fun g hg=>by obtain⟨j,j1,j2⟩:=hb.2.2 g hg;exact j2.2.2.2.up (by omega),Nat.le_trans (hb.len fun x hx=>by obtain⟨j,j1,j2⟩:=hb.2.2 x hx;exact B5 j2.1) hc⟩
   wt:=by rw[Ht h0];have:=sO (id:=6) (has:=has (am c (nZ c) ah).1) hb.1;omega}
 ·rw[eC,if_neg (by decide),if_neg (by decide),if_neg (by decide),if_neg (by decide),if_neg (by decide),if_neg (by decide),if_neg (by decide),if_pos rfl]at he⊢
  have hb:=gV (F:=mG) Kx (fun _ _ q=>⟨q.2.1,q.2.2.1⟩) he
  have h0:=h.exports.1 (by omega)
  exact {hu with
   exports:=⟨fun q=>by omega,hb.all fun _ _ q=>q.1,fun g hg=>by obtain⟨j,j1,j2⟩:=hb.2.2 g hg;exact Nat.le_trans j2.2.2.2 (by omega),Nat.le_trans (hb.len fun x hx=>Cp x) hc⟩
   wt:=by rw[KZ h0];have:=sO (id:=7) (has:=has (am c (mG c) ah).1) hb.1;omega}
 ·rw[eC,if_neg (by decide),if_neg (by decide),if_neg (by decide),if_neg (by decide),if_neg (by decide),if_neg (by decide),if_neg (by decide),if_neg (by decide),if_pos rfl]at he⊢
  obtain⟨k,e,l,p1,p2,p3⟩:=bH.back c ah rfl (by simp[ah]) (nf he)
  have hk:(au (aD c ah).1).length≤c.length:=by simp[ah]at l;omega
  have h0:=h.start.1 (by omega)
  exact {hu with
   start:=⟨fun q=>by omega,.inr p1⟩
   wt:=by rw[PI h0];have:=sO (id:=8) (has:=decide (0≤(aD c ah).1)) hk;omega}
 ·rw[eC,if_neg (by decide),if_neg (by decide),if_neg (by decide),if_neg (by decide),if_neg (by decide),if_neg (by decide),if_neg (by decide),if_neg (by decide),if_neg (by decide),if_pos rfl]at he⊢
  have hb:=gV (F:=eS) Eu (fun _ _ q=>⟨q.2.1,q.2.2.1⟩) he
  have h0:=h.elems.1 (by omega)
  exact {hu with
   elems:=⟨fun q=>by omega,hb.all fun _ _ q=>q.1,fun g hg=>by obtain⟨j,j1,_,_,_,j2,j3,j4⟩:=hb.2.2 g hg;exact⟨by omega,fun r hr=>(j3 r hr).up (by omega),j4.up (by omega)⟩,Nat.le_trans (hb.len fun x hx=>yV x) hc⟩
   wt:=by rw[PW h0];have:=sO (id:=9) (has:=has (am c (eS c) ah).1) hb.1;omega}
 ·rw[eC,if_neg (by decide),if_neg (by decide),if_neg (by decide),if_neg (by decide),if_neg (by decide),if_neg (by decide),if_neg (by decide),if_neg (by decide),if_neg (by decide),if_neg (by decide),if_pos rfl]at he⊢
  obtain⟨k,e,l,p1,p2,p3⟩:=bH.back c ah rfl (by simp[ah]) (nf he)
  rw[bz]at p1
  exact {hu with
   count:=⟨fun q=>by omega,.inr p1.1⟩
   wt:=by show 8+W L≤ _;omega}
 ·rw[eC,if_neg (by decide),if_neg (by decide),if_neg (by decide),if_neg (by decide),if_neg (by decide),if_neg (by decide),if_neg (by decide),if_neg (by decide),if_neg (by decide),if_neg (by decide),if_neg (by decide),if_pos rfl]at he⊢
  have hcf:=h.codes.1 (by omega)
  have hbare:=h.codes.2.1 hcf
  have e0:=nf he
  simp only at e0
  have e1:(bo (L.m.funcs.length:Int) c ah).2.err=0:=by
   apply Classical.byContradiction
   intro hn
   rw[sc c _ _ _ hn]at e0
   exact hn e0
  have e2:bo (L.m.funcs.length:Int) c ah=af c ah∧(af c ah).1=L.m.funcs.length∧(af c ah).2.err=0:=by
   unfold bo at e1⊢
   by_cases hq:0≤(L.m.funcs.length:Int)∧((af c ah).1:Int)≠L.m.funcs.length
   ·exact Uq
   ·rw[if_neg hq]at e1⊢
    exact⟨rfl,by omega,e1⟩
  obtain⟨e2,e3,e4⟩:=e2
  rw[e2,e3]at he e0⊢
  obtain⟨k1,f1,l1,p1,p2⟩:=mj c ah rfl (by simp[ah]) e4
  obtain⟨k2,f2,l2,⟨q1,q2,q3,q4⟩⟩:=Bn c L.m.funcs (af c ah).2 e4 (by rw[f1];exact l1) e0
  rw[f1]at l2
  simp[ah]at l2
  have hlen:(bh c L.m.funcs L.m.funcs.length (af c ah).2).1.1.length=L.m.funcs.length:=by have:=congrArg List.length q2;simpa using this
  have hb:(ae dq (bh c L.m.funcs L.m.funcs.length (af c ah).2).1.1).length≤c.length:=by
   rw[e3]at p1
   unfold ae
   rw[List.length_append,hlen]
   omega
  have hty:∀f,f∈(bh c L.m.funcs L.m.funcs.length (af c ah).2).1.1→ev f.type=true:=fun f hf=>by
   have:f.type∈(bh c L.m.funcs L.m.funcs.length (af c ah).2).1.1.map (·.type):=List.mem_map.2 ⟨f,hf,rfl⟩
   rw[q2]at this
   obtain⟨g,hg,e⟩:=List.mem_map.1 this
   rw[←e]
   exact h.funcs.2.1 g hg
  exact {hu with
   funcs:=⟨fun q=>by omega,hty,by rw[hlen];exact h.funcs.2.2⟩
   codes:=⟨fun q=>by omega,(fun q=>by cases q),fun f hf=>by obtain⟨a1,a2,a3,a4⟩:=q4 f hf;exact⟨a1,⟨by have:=a3.1;simp only at this⊢;omega,a3.2.up (by omega)⟩,by omega⟩⟩
   needs:=by
    show(L.needs|| _)= _
    rw[h.needs,q3]
    unfold ej
    rw[wg hbare]
    rfl
   wt:=by rw[Rp hcf q2];have:=sO (id:=10) (has:=has (bh c L.m.funcs L.m.funcs.length (af c ah).2).1.1) hb;omega}
 ·rw[eC,if_neg (by decide),if_neg (by decide),if_neg (by decide),if_neg (by decide),if_neg (by decide),if_neg (by decide),if_neg (by decide),if_neg (by decide),if_neg (by decide),if_neg (by decide),if_neg (by decide),if_neg (by decide),if_pos rfl]at he⊢
  have h0:=h.datas.1 (by omega)
  have e0:=nf he
  simp only at e0
  have hF:=ti G8 (put:=eu) (fun _ _ q=>⟨q.2.1,q.2.2.1⟩) (bo L.count c ah).1
  have e1:(bo L.count c ah).2.err=0:=by
   apply Classical.byContradiction
   intro hn
   have:=hF.stuck c _ hn
   have this:(av (mI c) (bo L.count c ah).1 (bo L.count c ah).2).2=(bo L.count c ah).2:=this
   rw[this]at e0
   exact hn e0
  have e2:bo L.count c ah=af c ah∧(af c ah).2.err=0:=by
   unfold bo at e1⊢
   by_cases hq:0≤L.count∧((af c ah).1:Int)≠L.count
   ·exact Uq
   ·rw[if_neg hq]at e1⊢
    exact⟨rfl,e1⟩
  obtain⟨e2,e4⟩:=e2
  rw[e2]at he e0 hF⊢
  obtain⟨k1,f1,l1,p1,p2⟩:=mj c ah rfl (by simp[ah]) e4
  obtain⟨k2,f2,l2,q1,q2,q3,q4⟩:=hF.back c (af c ah).2 e4 (by rw[f1];exact l1) e0
  rw[f1]at l2
  simp[ah]at l2
  simp only at q1 q2 q4
  have hb:(ae eu (av (mI c) (af c ah).1 (af c ah).2).1).length≤c.length:=by
   unfold ae
   rw[List.length_append,q1]
   omega
  exact {hu with
   datas:=⟨fun q=>by omega,List.all_eq_true.2 fun d hd=>by obtain⟨j,_,j2⟩:=q4 d hd;exact j2.1,fun d hd=>by obtain⟨j,j1,_,_,_,j2,j3⟩:=q4 d hd;exact⟨j2.up (by omega),by omega⟩,by rw[q1];omega⟩
   wt:=by rw[PK h0];have:=sO (id:=11) (has:=has (av (mI c) (af c ah).1 (af c ah).2).1) hb;omega}
theorem Jr (K:Nat) (hK:8≤K):PE K cg (-1) 8 where
 types:=⟨fun _=>rfl,rfl,(fun _ h=>by cases h),by simp[cg,aV.none]⟩
 imports:=⟨fun _=>rfl,rfl,(fun _ h=>by cases h),by simp[cg,aV.none]⟩
 funcs:=⟨fun _=>rfl,(fun _ h=>by cases h),by simp[cg,aV.none]⟩
 tables:=⟨fun _=>rfl,rfl,(fun _ h=>by cases h),by simp[cg,aV.none]⟩
 mems:=⟨fun _=>rfl,rfl,(fun _ h=>by cases h),by simp[cg,aV.none]⟩
 tags:=⟨fun _=>rfl,rfl,by simp[cg,aV.none]⟩
 globals:=⟨fun _=>rfl,rfl,(fun _ h=>by cases h),by simp[cg,aV.none]⟩
 exports:=⟨fun _=>rfl,rfl,(fun _ h=>by cases h),by simp[cg,aV.none]⟩
 start:=⟨fun _=>rfl,.inl rfl⟩
 elems:=⟨fun _=>rfl,rfl,(fun _ h=>by cases h),by simp[cg,aV.none]⟩
 count:=⟨fun _=>rfl,.inl rfl⟩
 codes:=⟨fun _=>rfl,(fun _ _ h=>by cases h),(fun _ h=>by cases h)⟩
 needs:=rfl
 datas:=⟨fun _=>rfl,rfl,(fun _ h=>by cases h),by simp[cg,aV.none]⟩
 wt:=by decide+kernel
theorem K6 {b:List UInt8} {n v nx:Nat} (hn:n<b.length) (h:ak b (n+1) 32 false=(v,nx,0)):n+1+(aI v).length≤nx∧nx≤b.length∧v<4294967296:=by
 have hu:rU b 32 ⟨n+1,0,0⟩=(v,⟨nx,0,0⟩):=by simp[rU,h]
 obtain⟨k,e,l,p1,p2⟩:=nS 32 (by decide) (by decide) b ⟨n+1,0,0⟩ rfl (by show n+1≤b.length;omega) (by show(rU b 32 ⟨n+1,0,0⟩).2.err=0;rw[hu])
 simp only[hu]at e p1 p2
 have:=congrArg ax.at_ e
 simp only[adv_at]at this l
 omega
theorem wi {b:List UInt8} (hb:b.length<4294967296):∀(f:Nat) (a:Int) (n:Nat) (L:bT),8≤n→PE b.length L a n→n≤b.length→b.length<n+f→(fM b f a n L).2.1=0→
 (∃a',PE b.length (fM b f a n L).1 a' b.length)∧eP (fM b f a n L).1=false
 |0,a,n,L,_,_,hn,hf,_=>by omega
 |f+1,a,n,L,h8,hI,hn,hf,h0=>by
  rw[fM]at h0⊢
  by_cases c1:b.length≤n
  ·rw[if_pos c1]at h0⊢
   simp only at h0⊢
   have:n=b.length:=by omega
   subst this
   refine⟨⟨a,hI⟩,?_⟩
   cases hw:eP L with
   |false=>rfl
   |true=>rw[hw]at h0;simp at h0
  ·rw[if_neg c1]at h0⊢
   by_cases c2:b.getD n 0≠0∧cr (b.getD n 0).toNat=none
   ·rw[if_pos c2]at h0;cases h0
   ·rw[if_neg c2]at h0⊢
    by_cases c3:b.getD n 0≠0∧(((cr (b.getD n 0).toNat).getD 0:Nat):Int)≤a
    ·rw[if_pos c3]at h0;cases h0
    ·rw[if_neg c3]at h0⊢
     obtain⟨v,nx,e,hl⟩:∃v nx e,ak b (n+1) 32 false=(v,nx,e):=⟨_,_,_,rfl⟩
     rw[hl]at h0⊢
     simp only at h0⊢
     by_cases c4:e≠0
     ·rw[if_pos c4]at h0
      simp only at h0
      omega
     ·rw[if_neg c4]at h0⊢
      have c4:e=0:=Classical.byContradiction c4
      subst c4
      by_cases c5:b.length-nx<v
      ·rw[if_pos c5]at h0;cases h0
      ·rw[if_neg c5]at h0⊢
       obtain⟨q1,q2,q3⟩:=K6 (by omega) hl
       have hcl:((b.drop nx).take v).length=v:=by rw[List.length_take,List.length_drop];omega
       by_cases c6:(jF ((b.drop nx).take v) (eC (b.getD n 0).toNat ((b.drop nx).take v) L).2).err≠0
       ·rw[if_pos c6]at h0
        exact absurd h0 c6
       ·rw[if_neg c6]at h0⊢
        have c6:(jF ((b.drop nx).take v) (eC (b.getD n 0).toNat ((b.drop nx).take v) L).2).err=0:=Classical.byContradiction c6
        refine wi hb f _ (nx+v) _ (by omega) ?_ (by omega) (by omega) h0
        by_cases hz:b.getD n 0=0
        ·rw[if_pos hz,hz]
         have:(eC (0:UInt8).toNat ((b.drop nx).take v) L).1=L:=by simp[eC]
         rw[this]
         exact hI.up (Int.le_refl _) (by omega)
        ·rw[if_neg hz]
         cases hp:cr (b.getD n 0).toNat with
         |none=>exact absurd ⟨hz,hp⟩ c2
         |some p=>
          rw[hp]at c3
          have ha:a<p:=by
           apply Classical.byContradiction
           intro hn2
           exact c3 ⟨hz,by simp only[Option.getD_some];omega⟩
          have:=Nj hI (by omega) hb (by rw[hcl];omega) hp ha c6
          rw[hcl]at this
          exact this.up (Int.le_refl _) (by omega)
theorem Sn {S:List xJ} {p:xJ} (h:p∈S):p.2.length≤bl S:=by
 induction S with
 |nil=>cases h
 |cons q S ih=>
  unfold bl bK at ih⊢
  rw[List.flatMap_cons,List.length_append]
  rcases List.mem_cons.1 h with rfl|h
  ·unfold oq aX
   exact Sv
  ·have:=ih h
   omega
theorem Lm (S T:List xJ):bl (S++T)=bl S+bl T:=by unfold bl;rw[tT,List.length_append]
theorem Iy {n:Nat} (h:n<4294967296):(aI n).length≤5:=by
 have h1:=Fq n 4294967295 (by omega)
 have h2:(aI 4294967295).length=5:=by decide+kernel
 omega
theorem LF (m:aV) (L:bT) (hm:L.m=m) (hc:has m.funcs=true→L.codes=true):bl (secs m)=W L+bl (aU 12 (aI m.datas.length) (ej m)):=by
 subst hm
 have e:bl (aU 10 (ae dq L.m.funcs) (L.codes&&has L.m.funcs))=bl (aU 10 (ae dq L.m.funcs) (has L.m.funcs)):=by
  cases hf:has L.m.funcs with
  |true=>rw[hc hf];rfl
  |false=>simp
 unfold W secs
 rw[e]
 simp only[Lm]
 omega
theorem Rs {K:Nat} {L:bT} {a:Int} (hK:K<4294967288) (h:PE K L a K) (hw:eP L=false):cy L.m=true∧ii L.m∧(dy L.m).length≤K+7:=by
 unfold eP at hw
 simp only[Bool.or_eq_false_iff,Bool.and_eq_false_iff,decide_eq_false_iff_not,Bool.not_eq_false']at hw
 obtain⟨⟨w1,_⟩,_⟩:=hw
 have hm:cy L.m=true:=by
  unfold cy
  rw[h.types.2.1,h.imports.2.1,h.tables.2.1,h.mems.2.1,h.tags.2.1,h.globals.2.1,h.exports.2.1,h.elems.2.1,h.datas.2.1]
  have hf:L.m.funcs.all kY=true:=List.all_eq_true.2 fun f hf=>by
   have h1:=(h.codes.2.2 f hf).1
   have h2:=h.funcs.2.1 f hf
   unfold lq at h1
   simp only[Bool.and_eq_true,decide_eq_true_eq]at h1
   unfold kY
   simp only[Bool.and_eq_true,decide_eq_true_eq]
   exact⟨⟨⟨h2,h1.1.1⟩,h1.1.2⟩,h1.2⟩
  have hst:(decide (L.m.start= -1)||ev L.m.start)=true:=by
   rcases h.start.2 with q|q
   ·simp[q]
   ·simp[q]
  rw[hf,hst]
  rfl
 have hcodes:has L.m.funcs=true→L.codes=true:=fun q=>by
  unfold has at q
  have q:=of_decide_eq_true q
  rcases w1 with w1|w1
  ·omega
  ·exact w1
 have hlen:=LF L.m L rfl hcodes
 have h12:bl (aU 12 (aI L.m.datas.length) (ej L.m))≤7:=by
  have h1:=Iy (n:=L.m.datas.length) (by have:=h.datas.2.2.2;omega)
  have h2:(aI (aI L.m.datas.length).length).length=1:=by rw[dH _ (by omega)];rfl
  have:=sO (id:=12) (has:=ej L.m) (Nat.le_refl (aI L.m.datas.length).length)
  omega
 have hwt:=h.wt
 refine⟨hm,?_,?_⟩
 ·refine⟨h.types.2.2.1,fun i hi=> ?_,fun t ht=> ?_,h.mems.2.2.1,fun g hg=>(h.globals.2.2.1 g hg).up (by omega),fun e he=>Nat.le_trans (h.exports.2.2.1 e he) (by omega),fun e he=> ?_,fun f hf=> ?_,fun d hd=> ?_,?_,fun p hp=> ?_⟩
  ·obtain⟨a1,a2,a3⟩:=h.imports.2.2.1 i hi
   exact⟨by omega,by omega,a3⟩
  ·obtain⟨a1,a2⟩:=h.tables.2.2.1 t ht
   exact⟨a1,a2.up (by omega)⟩
  ·obtain⟨a1,a2,a3⟩:=h.elems.2.2.1 e he
   exact⟨by omega,fun r hr=>(a2 r hr).up (by omega),a3.up (by omega)⟩
  ·obtain⟨_,a2,a3⟩:=h.codes.2.2 f hf
   exact⟨⟨Nat.le_trans a2.1 (by omega),a2.2.up (by omega)⟩,by omega⟩
  ·obtain⟨a1,a2⟩:=h.datas.2.2.1 d hd
   exact⟨a1.up (by omega),by omega⟩
  ·have t1:=h.types.2.2.2
   have t2:=h.imports.2.2.2
   have t3:=h.funcs.2.2
   have t4:=h.tables.2.2.2
   have t5:=h.mems.2.2.2
   have t6:=h.tags.2.2
   have t7:=h.globals.2.2.2
   have t8:=h.exports.2.2.2
   have t9:=h.elems.2.2.2
   have t10:=h.datas.2.2.2
   omega
  ·have:=Sn hp
   omega
 ·rw[AD hm]
  rw[List.length_append]
  have e1:aP.length=8:=rfl
  have e2:(bK (secs L.m)).length=bl (secs L.m):=rfl
  omega
theorem IT {b:List UInt8} (hb:b.length<4294967280) (h:(dw b).2.1=0):cy (dw b).1=true∧ii (dw b).1∧(dy (dw b).1).length≤b.length+7∧dw (dy (dw b).1)=((dw b).1,0,0)∧(dw b).2.2=0:=by
 have h1:(eE b).2.1=0:=by
  unfold dw at h
  by_cases c:(eE b).2.1=0
  ·exact c
  ·rw[if_neg c]at h
   exact h
 have e1:dw b=((eE b).1.m,0,0):=by unfold dw;rw[if_pos h1]
 have hm:b.take 8=aP:=by
  apply Classical.byContradiction
  intro hn
  unfold eE at h1
  rw[if_neg hn]at h1
  cases h1
 have hlen:8≤b.length:=by
  have:=congrArg List.length hm
  rw[List.length_take]at this
  have e:aP.length=8:=rfl
  omega
 have hL:eE b=fM b (b.length+1) (-1) 8 cg:=by unfold eE;rw[if_pos hm]
 rw[hL]at h1
 obtain⟨⟨a,hI⟩,hw⟩:=wi (by omega) (b.length+1) (-1) 8 cg (Nat.le_refl _) (Jr _ hlen) hlen (by omega) h1
 obtain⟨g1,g2,g3⟩:=Rs (by omega) hI hw
 rw[e1,hL]
 exact⟨g1,g2,g3,pp g1 g2,rfl⟩
theorem CR {b:List UInt8} (h:(dw b).2.1≠0):(dw b).1=aV.none:=by
 unfold dw at h⊢
 by_cases c:(eE b).2.1=0
 ·rw[if_pos c]at h;exact absurd rfl h
 ·rw[if_neg c]
theorem sx.split {S T:List xJ}:∀{L L':bT},sx L (S++T) L'→∃L1,sx L S L1∧sx L1 T L':=by
 induction S with
 |nil=>exact fun {L _} h=>⟨L,.nil L,h⟩
 |cons p S ih=>
  intro L L' h
  cases h with
  |cons h1 h2=>
  obtain⟨L1,a,b⟩:=ih h2
  exact⟨L1,.cons h1 a,b⟩
theorem mb.split {S T:List xJ}:∀{a b:Int},mb a (S++T) b→∃c,mb a S c∧mb c T b:=by
 induction S with
 |nil=>exact fun {a _} h=>⟨a,rfl,h⟩
 |cons p S ih=>
  intro a b h
  obtain⟨h1,h2⟩:=h
  by_cases h0:p.1=0
  ·rw[if_pos h0]at h2
   obtain⟨c,x,y⟩:=ih h2
   exact⟨c,⟨h1,by rw[if_pos h0];exact x⟩,y⟩
  ·rw[if_neg h0]at h2
   obtain⟨q,q1,q2,q3⟩:=h2
   obtain⟨c,x,y⟩:=ih q3
   exact⟨c,⟨h1,by rw[if_neg h0];exact⟨q,q1,q2,x⟩⟩,y⟩
def cR (m:aV):aV:={m with exports:= [],tags:= [],mems:= []}
def cJ (m:aV):aV:={aV.none with exports:=m.exports,tags:=m.tags,mems:=m.mems}
theorem OJ {m:aV} (h:cy m=true):cy (cR m)=true∧cy (cJ m)=true:=by
 unfold cy at h
 simp only[Bool.and_eq_true]at h
 obtain⟨⟨⟨⟨⟨⟨⟨⟨⟨⟨y1,y2⟩,y3⟩,y4⟩,y5⟩,y6⟩,y7⟩,y8⟩,y9⟩,xI⟩,Gu⟩:=h
 constructor
 ·unfold cy cR
  simp only
  rw[y1,y2,y3,y4,y7,y9,xI,Gu]
  rfl
 ·simp[cy,cJ,aV.none,y5,y6,y8]
theorem EN {m:aV} (h:ii m):ii (cR m)∧ii (cJ m):=by
 obtain⟨n1,n2,n3,n4,n5,n6,n7,n8,n9,n10⟩:=h.lens
 have z0:0<4294967296:=by decide
 have hnil:∀{id:Nat} {c:List UInt8} {p:xJ},p∈aU id c false→False:=fun h=>by cases h
 constructor
 ·refine⟨h.types,h.imports,h.tables,(fun _ h=>by cases h),h.globals,(fun _ h=>by cases h),h.elems,h.codes,h.datas,⟨n1,n2,n3,n4,z0,z0,n7,z0,n9,n10⟩,fun p hp=>h.secs p ?_⟩
  unfold secs at hp⊢
  simp only[List.mem_append]at hp⊢
  rcases hp with hp|hp|hp|hp|hp|hp|hp|hp|hp|hp|hp|hp|hp
  ·exact .inl hp
  ·exact .inr (.inl hp)
  ·exact .inr (.inr (.inl hp))
  ·exact .inr (.inr (.inr (.inl hp)))
  ·cases hp
  ·cases hp
  ·exact .inr (.inr (.inr (.inr (.inr (.inr (.inl hp))))))
  ·cases hp
  ·exact .inr (.inr (.inr (.inr (.inr (.inr (.inr (.inr (.inl hp))))))))
  ·exact .inr (.inr (.inr (.inr (.inr (.inr (.inr (.inr (.inr (.inl hp)))))))))
  ·exact .inr (.inr (.inr (.inr (.inr (.inr (.inr (.inr (.inr (.inr (.inl hp))))))))))
  ·exact .inr (.inr (.inr (.inr (.inr (.inr (.inr (.inr (.inr (.inr (.inr (.inl hp)))))))))))
  ·exact .inr (.inr (.inr (.inr (.inr (.inr (.inr (.inr (.inr (.inr (.inr (.inr hp)))))))))))
 ·refine⟨(fun _ h=>by cases h),(fun _ h=>by cases h),(fun _ h=>by cases h),h.mems,(fun _ h=>by cases h),h.exports,(fun _ h=>by cases h),(fun _ h=>by cases h),(fun _ h=>by cases h),⟨z0,z0,z0,z0,n5,n6,z0,n8,z0,z0⟩,fun p hp=>h.secs p ?_⟩
  unfold secs at hp⊢
  simp only[List.mem_append]at hp⊢
  rcases hp with hp|hp|hp|hp|hp|hp|hp|hp|hp|hp|hp|hp|hp
  ·cases hp
  ·cases hp
  ·cases hp
  ·cases hp
  ·exact .inr (.inr (.inr (.inr (.inl hp))))
  ·exact .inr (.inr (.inr (.inr (.inr (.inl hp)))))
  ·cases hp
  ·exact .inr (.inr (.inr (.inr (.inr (.inr (.inr (.inl hp)))))))
  ·cases hp
  ·cases hp
  ·cases hp
  ·cases hp
  ·cases hp
theorem Ah (m:aV):bl (secs m)=bl (aU 1 (ae cm m.types) (has m.types))+(bl (aU 2 (ae dR m.imports) (has m.imports))+(bl (aU 3 (ae (fun f=>au f.type) m.funcs) (has m.funcs))+(bl (aU 4 (ae fD m.tables) (has m.tables))+(bl (aU 5 (ae ea m.mems) (has m.mems))+(bl (aU 13 (ae eW m.tags) (has m.tags))+(bl (aU 6 (ae gg m.globals) (has m.globals))+(bl (aU 7 (ae fF m.exports) (has m.exports))+(bl (aU 8 (au m.start) (decide (0≤m.start)))+(bl (aU 9 (ae cw m.elems) (has m.elems))+(bl (aU 12 (aI m.datas.length) (ej m))+(bl (aU 10 (ae dq m.funcs) (has m.funcs))+(bl (aU 11 (ae eu m.datas) (has m.datas)))))))))))))):=by
 unfold secs
 simp only[Lm]
theorem FF (m:aV):bl (secs (cJ m))=bl (aU 5 (ae ea m.mems) (has m.mems))+bl (aU 13 (ae eW m.tags) (has m.tags))+bl (aU 7 (ae fF m.exports) (has m.exports)):=by
 have h:=Ah (cJ m)
 have a0:bl (aU 1 (ae cm (cJ m).types) (has (cJ m).types))=0:=rfl
 have a1:bl (aU 2 (ae dR (cJ m).imports) (has (cJ m).imports))=0:=rfl
 have a2:bl (aU 3 (ae (fun f=>au f.type) (cJ m).funcs) (has (cJ m).funcs))=0:=rfl
 have a3:bl (aU 4 (ae fD (cJ m).tables) (has (cJ m).tables))=0:=rfl
 have a4:bl (aU 5 (ae ea (cJ m).mems) (has (cJ m).mems))=bl (aU 5 (ae ea m.mems) (has m.mems)):=rfl
 have a5:bl (aU 13 (ae eW (cJ m).tags) (has (cJ m).tags))=bl (aU 13 (ae eW m.tags) (has m.tags)):=rfl
 have a6:bl (aU 6 (ae gg (cJ m).globals) (has (cJ m).globals))=0:=rfl
 have a7:bl (aU 7 (ae fF (cJ m).exports) (has (cJ m).exports))=bl (aU 7 (ae fF m.exports) (has m.exports)):=rfl
 have a8:bl (aU 8 (au (cJ m).start) (decide (0≤(cJ m).start)))=0:=rfl
 have a9:bl (aU 9 (ae cw (cJ m).elems) (has (cJ m).elems))=0:=rfl
 have a10:bl (aU 12 (aI (cJ m).datas.length) (ej (cJ m)))=0:=rfl
 have a11:bl (aU 10 (ae dq (cJ m).funcs) (has (cJ m).funcs))=0:=rfl
 have a12:bl (aU 11 (ae eu (cJ m).datas) (has (cJ m).datas))=0:=rfl
 omega
theorem Qr (m:aV):bl (secs m)=bl (secs (cR m))+(bl (aU 5 (ae ea m.mems) (has m.mems))+bl (aU 13 (ae eW m.tags) (has m.tags))+bl (aU 7 (ae fF m.exports) (has m.exports))):=by
 have h:=Ah (cR m)
 have h2:=Ah m
 have a0:bl (aU 1 (ae cm (cR m).types) (has (cR m).types))=bl (aU 1 (ae cm m.types) (has m.types)):=rfl
 have a1:bl (aU 2 (ae dR (cR m).imports) (has (cR m).imports))=bl (aU 2 (ae dR m.imports) (has m.imports)):=rfl
 have a2:bl (aU 3 (ae (fun f=>au f.type) (cR m).funcs) (has (cR m).funcs))=bl (aU 3 (ae (fun f=>au f.type) m.funcs) (has m.funcs)):=rfl
 have a3:bl (aU 4 (ae fD (cR m).tables) (has (cR m).tables))=bl (aU 4 (ae fD m.tables) (has m.tables)):=rfl
 have a4:bl (aU 5 (ae ea (cR m).mems) (has (cR m).mems))=0:=rfl
 have a5:bl (aU 13 (ae eW (cR m).tags) (has (cR m).tags))=0:=rfl
 have a6:bl (aU 6 (ae gg (cR m).globals) (has (cR m).globals))=bl (aU 6 (ae gg m.globals) (has m.globals)):=rfl
 have a7:bl (aU 7 (ae fF (cR m).exports) (has (cR m).exports))=0:=rfl
 have a8:bl (aU 8 (au (cR m).start) (decide (0≤(cR m).start)))=bl (aU 8 (au m.start) (decide (0≤m.start))):=rfl
 have a9:bl (aU 9 (ae cw (cR m).elems) (has (cR m).elems))=bl (aU 9 (ae cw m.elems) (has m.elems)):=rfl
 have a10:bl (aU 12 (aI (cR m).datas.length) (ej (cR m)))=bl (aU 12 (aI m.datas.length) (ej m)):=rfl
 have a11:bl (aU 10 (ae dq (cR m).funcs) (has (cR m).funcs))=bl (aU 10 (ae dq m.funcs) (has m.funcs)):=rfl
 have a12:bl (aU 11 (ae eu (cR m).datas) (has (cR m).datas))=bl (aU 11 (ae eu m.datas) (has m.datas)):=rfl
 omega
theorem NX (m:aV):bl (secs m)=bl (secs (cR m))+bl (secs (cJ m)):=by rw[Qr,FF]
theorem Ay (id:Nat) (c:List UInt8) (b:Bool):bl (aU id c b)=0↔b=false:=by
 cases b with
 |true=>
  have h:=BQ (id,c)
  have e:bl (aU id c true)=(oq (id,c)).length:=by simp[bl,aU,bK]
  rw[e]
  constructor
  ·intro h2;omega
  ·intro h2;cases h2
 |false=>exact⟨fun _=>rfl,fun _=>rfl⟩
theorem LA (m:aV):bl (secs (cJ m))=0↔cR m=m:=by
 rw[FF]
 constructor
 ·intro h
  have h1:=gi ((Ay 5 (ae ea m.mems) (has m.mems)).1 (by omega))
  have h2:=gi ((Ay 13 (ae eW m.tags) (has m.tags)).1 (by omega))
  have h3:=gi ((Ay 7 (ae fF m.exports) (has m.exports)).1 (by omega))
  unfold cR
  rw[←h1,←h2,←h3]
 ·intro h
  have h1:m.mems= []:=by rw[←h];rfl
  have h2:m.tags= []:=by rw[←h];rfl
  have h3:m.exports= []:=by rw[←h];rfl
  rw[h1,h2,h3]
  rfl
theorem Nh:dy aV.none=aP:=by decide+kernel
set_option maxRecDepth 100000
theorem EV {H α:Type} {enc:TypeId×Value→H} {P:Program} {W:World} {base:Nat} {sp:Nat→Bool} {held:Bool} {t e:TypeId} {n k fuel:Nat} {cs:List Value} {q:List MemPlace} (ht:P.underlying t=some (.array n e)) (hk:P.cellsOf e=k)
 (f:α→DataW H) (c:α→List Value) (hc:∀a,(c a).length=k) (hel:∀m cs y a,DataW.trod enc P W base sp held m e cs=some y→y.1=f a→cs=c a) (A:List α)
 (h:DataW.trod enc P W base sp held fuel t cs=some (.agg (A.map f),q)):∀i,i<A.length*k→cs[i]? =(A.flatMap c)[i]? :=by
 obtain⟨xs,m,_,hx,hl,hlen,hf⟩:=DataW.trod_array ht h
 have hA:A.map f=xs.map (·.1):=by
  have:=congrArg Prod.fst hx
  simpa using this
 have hAl:A.length=xs.length:=by simpa using congrArg List.length hA
 intro i hi
 have hk0:0<k:=by
  rcases Nat.eq_zero_or_pos k with h0|h0
  ·subst h0;simp at hi
  ·exact h0
 have hj:i/k<A.length:=Nat.div_lt_of_lt_mul (by rw[Nat.mul_comm];exact hi)
 have hr:i% k<k:=Nat.mod_lt _ hk0
 have hi2:i=i/k*k+i% k:=by rw[Nat.mul_comm];exact(Nat.div_add_mod i k).symm
 have h1:=hf (i/k) (by omega)
 rw[hk,List.getElem?_eq_getElem (by omega:i/k<xs.length)]at h1
 have h2:(xs[i/k]'(by omega)).1=f A[i/k]:=by
  have:=congrArg (fun l=>l[i/k]?) hA
  simp only[List.getElem?_map,List.getElem?_eq_getElem hj,List.getElem?_eq_getElem (by omega:i/k<xs.length),Option.map_some,Option.some.injEq]at this
  exact this.symm
 have h3:=hel _ _ _ _ h1 h2
 have h4:=congrArg (fun l=>l[i% k]?) h3
 simp only[List.getElem?_take,List.getElem?_drop,if_pos hr]at h4
 conv=>lhs;rw[hi2]
 conv=>rhs;rw[hi2]
 rw[h4,Cn c k hc A (i/k) A[i/k] (List.getElem?_eq_getElem hj) _ hr]
theorem zD:Tryz.prog.underlying 172=some (.int .i64):=by kernel_rfl
theorem PN:Tryz.prog.underlying 9=some .string:=by kernel_rfl
theorem xj:Tryz.prog.cellsOf 172=1:=by kernel_rfl
theorem GZ:Tryz.prog.cellsOf 9=1:=by kernel_rfl
theorem vK:Tryz.prog.cellsOf 362=2:=by kernel_rfl
theorem zs:Tryz.prog.cellsOf 351=2:=by kernel_rfl
theorem LO:Tryz.prog.underlying 352=some (.array 16 351):=by kernel_rfl
theorem I4:Tryz.prog.underlying 363=some (.array 9 362):=by kernel_rfl
theorem R5:Tryz.prog.globalNamed "geode/ops.runs" =some 2:=by kernel_rfl
theorem Tx:(Tryz.prog.globals[2]?).map (·.type)=some 352:=by kernel_rfl
theorem M6:Tryz.prog.globalNamed "geode/ops.known" =some 3:=by kernel_rfl
theorem P6:(Tryz.prog.globals[3]?).map (·.type)=some 363:=by kernel_rfl
section
variable {H : Type} {enc : TypeId × Value → H} {W : World} {base : Nat} {sp : Nat → Bool} {held : Bool}
theorem PQ (m:Nat) (cs:List Value) (y:DataW H×List MemPlace) (a:Int×Int) (h:DataW.trod enc Tryz.prog W base sp held m 362 cs=some y) (he:y.1= .agg [.lit (.int .i64 a.1),.lit (.int .i64 a.2)]):cs= [.int .i64 a.1,.int .i64 a.2]:=by
 obtain⟨y0,y1,n,rfl,hl,h0,h1⟩:=trod_struct2 Tryz.underlying362 h
 rw[vK]at hl
 match cs,hl with
 | [c0,c1],_=>
  simp only[List.drop,List.take,xj]at h0 h1
  obtain⟨k,e0,rfl,_⟩:=DataW.trod_int zD h0
  obtain⟨l,e1,rfl,_⟩:=DataW.trod_int zD h1
  simp only[DataW.agg.injEq,List.cons.injEq,DataW.lit.injEq,Lit.int.injEq,true_and,and_true]at he e0 e1
  obtain⟨rfl,rfl⟩:=he
  rw[e0,e1]
theorem Ty (m:Nat) (cs:List Value) (y:DataW H×List MemPlace) (a:Int×List UInt8) (h:DataW.trod enc Tryz.prog W base sp held m 351 cs=some y) (he:y.1= .agg [.lit (.int .i64 a.1),.lit (.string a.2)]):cs= [.int .i64 a.1,.string ⟨a.2.toArray⟩]:=by
 obtain⟨y0,y1,n,rfl,hl,h0,h1⟩:=trod_struct2 Tryz.underlying351 h
 rw[zs]at hl
 match cs,hl with
 | [c0,c1],_=>
  simp only[List.drop,List.take,xj,GZ]at h0 h1
  obtain⟨k,e0,rfl,_⟩:=DataW.trod_int zD h0
  obtain⟨l,e1,rfl,_⟩:=DataW.trod_string PN h1
  obtain⟨k2,l2⟩:=a
  simp only[DataW.agg.injEq,List.cons.injEq,DataW.lit.injEq,Lit.int.injEq,Lit.string.injEq,true_and,and_true]at he e0 e1
  obtain⟨rfl,rfl⟩:=he
  rw[e0,e1]
end
theorem Qy {H:Type} {enc:TypeId×Value→H} {W:World} {base:Nat} {sp:Nat→Bool} {held:Bool} (m:Nat) (cs:List Value) (y:DataW H×List MemPlace) (a:Int) (h:DataW.trod enc Tryz.prog W base sp held m 57 cs=some y) (he:y.1= .lit (.int .i64 a)):cs= [.int .i64 a]:=by
 obtain⟨k,e0,rfl,_⟩:=DataW.trod_int Rn h
 simp only[DataW.lit.injEq,Lit.int.injEq,true_and]at he
 subst he
 exact e0
theorem EE {H:Type}:(Rows.laid_geode_tbin_heaps:DataW H)= .agg (dB.map fun z=> .lit (.int .i64 z)):=rfl
theorem La {H:Type}:(Rows.laid_geode_ops_runs:DataW H)= .agg (ef.map fun p=> .agg [.lit (.int .i64 p.1),.lit (.string p.2)]):=rfl
theorem Dg {H:Type}:(Rows.laid_geode_ops_known:DataW H)= .agg (iz.map fun p=> .agg [.lit (.int .i64 p.1),.lit (.int .i64 p.2)]):=rfl
theorem qJ {W:World} {g o:Nat} {v:Value} (h:W.cell? ⟨g,o,none⟩=some v):g<W.heap.size:=by
 rcases Nat.lt_or_ge g W.heap.size with k|k
 ·exact k
 ·exfalso
  have:W.heap[g]? =none:=Array.getElem?_eq_none k
  simp[World.cell?,this]at h
theorem ui {W:World} {rest:List (String×DataW Unit)} (h:laidMet Tryz.prog (("geode/ops.runs",Rows.laid_geode_ops_runs)::("geode/ops.known",Rows.laid_geode_ops_known)::("geode/tbin.heaps",Rows.laid_geode_tbin_heaps)::rest) W):cq [] W:=by
 obtain⟨ps,⟨g1,t1,cs1,fuel1,p1,q1,hg1,ht1,hv1,hd1,⟨g2,t2,cs2,fuel2,p2,q2,hg2,ht2,hv2,hd2,⟨g3,t3,cs3,fuel3,p3,q3,hg3,ht3,hv3,hd3,_⟩,_⟩,_⟩,_⟩:=h
 obtain rfl:=Option.some.inj (R5.symm.trans hg1)
 obtain rfl:=Option.some.inj (Tx.symm.trans ht1)
 obtain rfl:=Option.some.inj (M6.symm.trans hg2)
 obtain rfl:=Option.some.inj (P6.symm.trans ht2)
 obtain rfl:=Option.some.inj (Vj.symm.trans hg3)
 obtain rfl:=Option.some.inj (LI.symm.trans ht3)
 rw[La]at hd1
 rw[Dg]at hd2
 rw[EE]at hd3
 have r1:=EV LO zs _ (fun p:Int×List UInt8=> [Value.int .i64 p.1,.string ⟨p.2.toArray⟩]) (fun _=>rfl) (fun m cs y a h he=>Ty m cs y a h he) ef hd1
 have r2:=EV I4 vK _ (fun p:Int×Int=> [Value.int .i64 p.1,.int .i64 p.2]) (fun _=>rfl) (fun m cs y a h he=>PQ m cs y a h he) iz hd2
 have r3:=EV SE Kw _ (fun z:Int=> [Value.int .i64 z]) (fun _=>rfl) (fun m cs y a h he=>Qy m cs y a h he) dB hd3
 have c1:∀i,i<32→W.cell? ⟨2,i,none⟩=x8[i]? :=fun i hi=>by
  have h:=r1 i (by have:ef.length=16:=rfl;omega)
  rw[Array.getElem?_toList]at h
  rw[World.var?_cell R5 hv1 i]
  exact h
 have c2:∀i,i<18→W.cell? ⟨3,i,none⟩=tM[i]? :=fun i hi=>by
  have h:=r2 i (by have:iz.length=9:=rfl;omega)
  rw[Array.getElem?_toList]at h
  rw[World.var?_cell M6 hv2 i]
  exact h
 have c3:∀i,i<12→W.cell? ⟨0,i,none⟩=some (.int .i64 (dB.getD i 0)):=fun i hi=>by
  rw[World.var?_cell Vj hv3 i]
  have h3:=r3 i (by have:dB.length=12:=rfl;omega)
  rw[Array.getElem?_toList]at h3
  have h4:(dB.flatMap fun z:Int=> [Value.int .i64 z])[i]? =some (.int .i64 (dB.getD i 0)):=by
   have:∀i∈List.range 12,(dB.flatMap fun z:Int=> [Value.int .i64 z])[i]? =some (.int .i64 (dB.getD i 0)):=by
    intro i hi
    have:i=0∨i=1∨i=2∨i=3∨i=4∨i=5∨i=6∨i=7∨i=8∨i=9∨i=10∨i=11:=by
     have:=List.mem_range.1 hi;omega
    rcases this with rfl|rfl|rfl|rfl|rfl|rfl|rfl|rfl|rfl|rfl|rfl|rfl<;>rfl
   exact this i (List.mem_range.2 hi)
  rw[←h4,←h3]
 exact⟨⟨qJ (c3 0 (by decide)),by simp,c3⟩,qJ (v:= .int .i64 0) (c1 0 (by decide)),by simp,c1,qJ (v:= .int .i64 42) (c2 0 (by decide)),by simp,c2⟩
def Ec (cs:Array Value):Obj→Obj
 | .cells _ t frozen=> .cells cs t frozen
 |o=>o
noncomputable def jH (os:Os):World:=
 {World.holding Tryz.prog os ⟨#[],#[],[]⟩with heap:=(((World.holding Tryz.prog os ⟨#[],#[],[]⟩).heap.modify 0 (Ec #[.int .i64 11,.int .i64 5,.int .i64 4,.int .i64 3,.int .i64 2,.int .i64 1,.int .i64 9,.int .i64 7,.int .i64 6,.int .i64 10,.int .i64 8,.int .i64 12])).modify 2 (Ec x8.toArray)).modify 3 (Ec tM.toArray)}
set_option maxRecDepth 100000
theorem QN:Tryz.prog.underlying 48=some (.int .u64):=by kernel_rfl
theorem x0:Tryz.prog.cellsOf 48=1:=by kernel_rfl
theorem uu:Tryz.prog.cellsOf 174=6:=by kernel_rfl
theorem ub:Tryz.prog.cellsOf 300=3:=by kernel_rfl
theorem wK:Tryz.prog.cellsOf 27=1:=by kernel_rfl
theorem xQ:Tryz.prog.cellsOf 175=1:=by kernel_rfl
theorem ul:Tryz.prog.cellsOf 177=19:=by kernel_rfl
theorem x9:Tryz.prog.underlying 27=some (.slice 3):=by kernel_rfl
theorem z7:Tryz.prog.underlying 175=some (.slice 300):=by kernel_rfl
theorem GY:Tryz.prog.underlying 53=some (.slice 177):=by kernel_rfl
theorem So {n:Int} (h:(Lit.int .u64 n).wf=true):0≤n∧n<18446744073709551616:=by
 exact SU
section
variable {H : Type} {enc : TypeId × Value → H} {w : World} {sp : Nat → Bool} {held : Bool} {fuel : Nat} {cs : List Value} {x : DataW H × List MemPlace}
theorem CA (h:DataW.trod enc Tryz.prog w 0 sp held fuel 3 cs=some x):∃n:Int,cs=gK n∧sw n:=by
 obtain⟨n,rfl,_,w0⟩:=DataW.trod_int fg h
 exact⟨n,rfl,iy w0⟩
theorem Ff (h:DataW.trod enc Tryz.prog w 0 sp held fuel 300 cs=some x):∃c:cQ,cs=gZ c∧True:=by
 obtain⟨y0,y1,y2,n,_,hl,h0,h1,h2⟩:=Go.Deep.trod_struct3 Tryz.underlying300 h
 rw[ub]at hl
 match cs,hl with
 | [c0,c1,c2],_=>
  simp only[List.drop,List.take,eh]at h0 h1 h2
  obtain⟨k,e0,_,_⟩:=DataW.trod_int fg h0
  obtain⟨m,e1,_,_⟩:=DataW.trod_int fg h1
  obtain⟨l,e2,_,_⟩:=DataW.trod_int fg h2
  simp only[List.cons.injEq,and_true]at e0 e1 e2
  subst e0 e1 e2
  exact⟨⟨k,m,l⟩,rfl,trivial⟩
theorem Jb (h:DataW.trod enc Tryz.prog w 0 sp held fuel 174 cs=some x):∃b:bJ,cs= [.int .i64 b.kind,.int .i64 b.val.kind,.bool b.val.null,.int .i64 b.val.heap.kind,.int .i64 b.val.heap.n,.int .i64 b.n]:=by
 obtain⟨y0,y1,y2,n,_,hl,h0,h1,h2⟩:=Go.Deep.trod_struct3 Tryz.underlying174 h
 rw[uu]at hl
 match cs,hl with
 | [c0,c1,c2,c3,c4,c5],_=>
  simp only[List.drop,List.take,eh,gf]at h0 h1 h2
  obtain⟨k,e0,_,_⟩:=DataW.trod_int fg h0
  obtain⟨t,e1,_⟩:=kA h1
  obtain⟨m,e5,_,_⟩:=DataW.trod_int fg h2
  simp only[cj,List.cons.injEq,and_true]at e0 e1 e5
  obtain⟨e1,e2,e3,e4⟩:=e1
  subst e0 e1 e2 e3 e4 e5
  exact⟨⟨k,t,m⟩,rfl⟩
def Xy (i:aa):Prop:=(-9223372036854775808≤i.op∧i.op<9223372036854775808)∧i.u<18446744073709551616
structure Sc where
 i:aa
 tv:Value
 lv:Value
 cv:Value
instance:Inhabited Sc:=⟨⟨default,default,default,default⟩⟩
def Sc.cells (m:Sc):List Value:=cp m.i m.tv m.lv m.cv
end
def wI (i:aa):Nat:=1+i.types.length+i.labels.length+i.catches.length
def gh (l:List aa):Nat:=1+(l.map wI).sum
def qW (t:bu):Nat:=1+t.len
def uG (g:List bu):Nat:=1+(g.map qW).sum
def sU (i:jp):Nat:=1+i.modu.length+i.name.length
def tF (f:dh):Nat:=1+f.locals.length+gh f.body
def sA (t:lO):Nat:=1+gh t.init
def tJ (g:mD):Nat:=1+gh g.init
def tA (e:kB):Nat:=1+e.name.length
def mJ (e:eb):Nat:=1+(e.inits.map gh).sum+gh e.offset
def tp (d:jG):Nat:=1+gh d.offset+d.bytes.length
def ip (m:aV):Nat:=1+(m.types.map uG).sum+(m.imports.map sU).sum+(m.funcs.map tF).sum+(m.tables.map sA).sum+m.mems.length+m.tags.length+(m.globals.map tJ).sum+(m.exports.map tA).sum+(m.elems.map mJ).sum+(m.datas.map tp).sum
theorem pI {α:Type} {p:α→List UInt8} {wt:α→Nat}:∀{l:List α},(∀x,x∈l→(p x).length≤100*wt x)→(l.flatMap p).length≤100*(l.map wt).sum
 | [],_=>by simp
 |a::l,h=>by
  have h1:=h a (by simp)
  have h2:=pI (l:=l) fun x hx=>h x (by simp[hx])
  rw[List.flatMap_cons,List.length_append,List.map_cons,List.sum_cons]
  omega
theorem Gg {α:Type} (wt:α→Nat) {x:α}:∀{l:List α},x∈l→wt x≤(l.map wt).sum
 | [],h=>by cases h
 |a::l,h=>by
  rw[List.map_cons,List.sum_cons]
  rcases List.mem_cons.1 h with rfl|h
  ·omega
  ·have:=Gg wt h
   omega
theorem fV {α:Type} {wt:α→Nat} (h:∀x,1≤wt x):∀(l:List α),l.length≤(l.map wt).sum
 | []=>by simp
 |a::l=>by
  have:=fV h l
  have:=h a
  rw[List.map_cons,List.sum_cons,List.length_cons]
  omega
theorem Si (i:aa):1≤wI i:=by unfold wI;omega
theorem vZ (l:List aa):1≤gh l:=by unfold gh;omega
theorem Bo (t:bu):1≤qW t:=by unfold qW;omega
theorem Cg (t:List bu):1≤uG t:=by unfold uG;omega
theorem C1 (t:jp):1≤sU t:=by unfold sU;omega
theorem xa (t:dh):1≤tF t:=by unfold tF;omega
theorem CJ (t:lO):1≤sA t:=by unfold sA;omega
theorem Cv (t:mD):1≤tJ t:=by unfold tJ;omega
theorem Ct (t:kB):1≤tA t:=by unfold tA;omega
theorem yf (t:eb):1≤mJ t:=by unfold mJ;omega
theorem we (t:jG):1≤tp t:=by unfold tp;omega
theorem Ri {i:aa} (hm:dx i=true) (hs:Dz i):(aW i).length≤60+21*(i.types.length+i.labels.length+i.catches.length):=by
 obtain⟨h1,h2,h3,h4⟩:=hs
 rcases fL i.op with h|h|h|h|h|h|h|h|h|h|h|h
 ·rw[FC h];simp
 ·rw[vz h]
  have:=(bz _).1 (wc h hm).1
  have:=az i.x (by omega)
  omega
 ·rw[FI h]
  have hp:=(aQ hm (x6 h)).1
  simp only[Bool.and_eq_true,bz]at hp
  have:=az i.x (by omega)
  have:=az i.y (by omega)
  rw[List.length_append];omega
 ·rw[A8 h]
  have hp:=(aQ hm (zd h)).1
  simp only[Bool.and_eq_true,bz]at hp
  have:=az i.x (by omega)
  have:=TI i.labels hp.2
  have:=bG i.labels.length (by omega)
  unfold ae
  simp only[List.length_append];omega
 ·rw[F6 h]
  have hp:=(aQ hm (yF h)).1
  simp only[Bool.and_eq_true,bz,decide_eq_true_eq]at hp
  have:=az i.x (by omega)
  have:=az (i.x+64) (by omega)
  have:=az i.y (by omega)
  have:=bG i.u h4
  unfold xe
  split<;>simp only[List.length_append]<;>omega
 ·rw[F3 h]
  have hp:=(aQ hm (ym h)).1
  simp only[decide_eq_true_eq]at hp
  obtain⟨t1,t2,_⟩:=xH hp
  have:=i8 (j0 i.u) (by omega) (by omega)
  omega
 ·rw[zB h]
  obtain⟨t1,t2,_⟩:=wx h4
  have:=i8 (fC i.u) (by omega) (by omega)
  omega
 ·rw[A1 h]
  have:=qA (aQ hm (tj h)).1
  omega
 ·rw[xu h]
  have hp:=(aQ hm (qU h)).1
  have:=zh i.types (fun t ht=>db (List.all_eq_true.1 hp t ht)) h1
  omega
 ·rw[GK h]
  have:=nY (aQ hm (yt h)).1
  omega
 ·rw[CE h]
  have hp:=(aQ hm (yC h)).1
  simp only[Bool.and_eq_true]at hp
  have:=nY hp.1
  have h5:(i.catches.flatMap dM).length≤i.catches.length*21:=iC i.catches fun c hc=>qT (List.all_eq_true.1 hp.2 c hc)
  have:=bG i.catches.length (by omega)
  unfold ae
  simp only[List.length_append];omega
 ·rw[AC h]
  have hp:=(aQ hm (tt h)).1
  simp only[Bool.and_eq_true,bz]at hp
  have:=az i.x (by omega)
  have:=qA hp.1.2
  have:=qA hp.2
  simp only[List.length_append,List.length_cons,List.length_nil];omega
theorem N2 {i:aa} (hm:dx i=true) (hs:Dz i):(de i).length≤100*wI i:=by
 have h1:=Ri hm hs
 have h2:=Gq (ed (cU hm)).1
 unfold de wI
 rw[List.length_append];omega
theorem mp {l:List aa} (hs:∀i,i∈l→Dz i):(al l).length≤100*gh l:=by
 unfold al gh
 split
 ·rename_i h
  simp only[Bool.and_eq_true]at h
  have:=pI (p:=de) (wt:=wI) (l:=l) fun i hi=>N2 (List.all_eq_true.1 h.1 i hi) (hs i hi)
  rw[List.length_append,List.length_singleton]
  omega
 ·simp
theorem R9 {t:bu} (hok:t.ok) (hl:t.len≤1048576):(dg t).length≤100*qW t:=by
 obtain⟨o1,o2,o3,o4⟩:=hok
 unfold bu.len at hl
 have a1:=lC t.supers o1 (by omega)
 have a2:=it t.comp.params o2 (by omega)
 have a3:=it t.comp.results o3 (by omega)
 have a4:(ae bj t.comp.fields).length≤10+16*t.comp.fields.length:=by
  exact UH
 have a5:(t.comp.fields.head?.elim [] bj).length≤16:=by
  cases hf:t.comp.fields with
  |nil=>simp
  |cons a b=>exact nH a (o4 a (by simp[hf]))
 have e1:(if t.final_=false then 80::ae aZ t.supers else if 0<t.supers.length then 79::ae aZ t.supers else []).length≤11+16*t.supers.length:=by
  split
  ·simp;omega
  ·split
   ·simp;omega
   ·simp
 have e2:(if t.comp.kind=1 then 96::(ae bZ t.comp.params++ae bZ t.comp.results)else if t.comp.kind=2 then 95::ae bj t.comp.fields else 94::t.comp.fields.head?.elim [] bj).length≤38+16*(t.comp.params.length+t.comp.results.length+t.comp.fields.length):=by
  exact Ue
 unfold dg qW bu.len
 exact zV
theorem CN {g:List bu} (hp:L4 g):(cm g).length≤100*uG g:=by
 unfold cm uG
 split
 ·simp;omega
 ·unfold qO
  split
  ·rename_i h
   have h1:=pI (p:=dg) (wt:=qW) (l:=g) fun t ht=>R9 (t0 (List.all_eq_true.1 h t ht)).1 (hp.1 t ht)
   have h2:=bG g.length (by have:=hp.2;omega)
   split
   ·simp
   ·rename_i t
    simp only[List.flatMap_cons,List.flatMap_nil,List.append_nil]at h1
    omega
   ·exact S6
  ·simp
structure IH (x:i9):Prop where
 n:sw x.n
 ok1:x.table.elem.heap.ok
 m1:fK x.table.lim
 m2:fK x.mem
 ok2:x.global.val.heap.ok
theorem AH (s:List UInt8) (h:s.length≤1048576):(dX s).length≤10+s.length:=by
 have:=bG s.length (by omega)
 unfold dX
 exact zV
theorem Ey {l:eA} (h:fK l):(ea l).length≤21:=C2 l h.1 h.2
theorem A4 {t:dJ} (h1:t.elem.heap.ok) (h2:fK t.lim):(em t).length≤34:=by
 have:=dn t.elem h1
 have:=Ey h2
 unfold em
 exact zV
theorem B0 {t:dW} (h1:t.val.heap.ok):(ga t).length≤14:=by
 have:=dn t.val h1
 unfold ga
 rw[List.length_append,List.length_singleton]
 omega
theorem Pk {n:Int} (h:n<9223372036854775808):(eW n).length≤11:=by
 have:=az n h
 unfold eW
 exact Dj
theorem SK {x:i9} (h:IH x):(oA x).length≤35:=by
 have:=A4 h.ok1 h.m1
 have:=Ey h.m2
 have:=B0 h.ok2
 have:=Pk h.n.2
 have:=az x.n h.n.2
 unfold oA
 rw[List.length_cons]
 repeat' split
 all_goals omega
theorem TR {i:jp} (h:IH i.what) (h1:i.modu.length≤1048576) (h2:i.name.length≤1048576):(dR i).length≤100*sU i:=by
 have:=AH i.modu h1
 have:=AH i.name h2
 have:=SK h
 unfold dR sU
 exact Px
theorem S0 {r:fN} (h0:r.n<9223372036854775808) (h:r.val.heap.ok):(ee r).length≤23:=by
 have:=dn r.val h
 have:=az r.n h0
 unfold ee
 exact zV
theorem pf (b:List UInt8) (h:b.length≤1099511627776):(aX b).length≤10+b.length:=by
 have:=bG b.length (by omega)
 unfold aX
 exact zV
theorem si {α:Type} (p:α→List UInt8) (l:List α) (h:l.length≤1099511627776):(ae p l).length≤10+(l.flatMap p).length:=by
 have:=bG l.length (by omega)
 exact xX
theorem Fm {l:List fN} (h:∀r,r∈l→sw r.n∧r.val.heap.ok) (hl:l.length≤1048576):(ae ee l).length≤10+l.length*23:=by
 have h1:=iC (f:=ee) (m:=23) l fun r hr=>S0 (h r hr).1.2 (h r hr).2
 have h2:=si ee l (by omega)
 omega
theorem Qv {f:dh} (h:∀r,r∈f.locals→sw r.n∧r.val.heap.ok) (hl:f.locals.length≤1048576) (hs:∀i,i∈f.body→Dz i) (hw:gh f.body≤1048576):(dq f).length≤100*tF f:=by
 have h1:=Fm h hl
 have h2:=mp hs
 have h3:=pf (ae ee f.locals++al f.body) (by rw[List.length_append];omega)
 rw[List.length_append]at h3
 unfold dq tF
 omega
theorem SQ {t:lO} (h1:t.type.elem.heap.ok) (h2:fK t.type.lim) (hs:∀i,i∈t.init→Dz i):(fD t).length≤100*sA t:=by
 have:=A4 h1 h2
 have:=mp hs
 unfold fD sA
 split
 ·exact Sv
 ·omega
theorem Te {t:mD} (h1:t.type.val.heap.ok) (hs:∀i,i∈t.init→Dz i):(gg t).length≤100*tJ t:=by
 have:=B0 h1
 have:=mp hs
 unfold gg tJ
 exact zV
theorem Sx {t:kB} (h0:t.n<9223372036854775808) (hl:t.name.length≤1048576):(fF t).length≤100*tA t:=by
 have:=AH t.name hl
 have:=az t.n h0
 unfold fF tA
 rw[List.length_append,List.length_cons]
 omega
theorem Oc {l:List aa} (h:∀i,i∈l→sw i.x):(ch l).length≤100*gh l:=by
 have:(ch l).length≤10:=by
  unfold ch
  cases l with
  |nil=>exact az _ (by decide)
  |cons i l=>exact az i.x (h i (by simp)).2
 have:=vZ l
 omega
theorem Gi {e:eb} (h0:sw e.table) (h1:e.type.heap.ok) (hs:∀l,l∈e.inits→∀i,i∈l→Dz i∧sw i.x) (ho:∀i,i∈e.offset→Dz i) (hl:e.inits.length≤1048576):(cw e).length≤100*mJ e:=by
 have a1:=pI (p:=ch) (wt:=gh) (l:=e.inits) fun l h=>Oc fun i hi=>(hs l h i hi).2
 have a2:=pI (p:=al) (wt:=gh) (l:=e.inits) fun l h=>mp fun i hi=>(hs l h i hi).1
 have a3:=si ch e.inits (by omega)
 have a4:=si al e.inits (by omega)
 have a5:=mp ho
 have a6:=dn e.type h1
 have a7:=az e.table h0.2
 have b1:(if cf e% 4=2 then au e.table else []).length≤10:=by
  split
  ·exact a7
  ·simp
 have b2:(if e.mode=1 then al e.offset else []).length≤(al e.offset).length:=by
  split
  ·exact Nat.le_refl _
  ·simp
 have b3:(if cf e≠4 then es e.type else []).length≤13:=by
  split
  ·exact a6
  ·simp
 have b4:(if cf e≠0 then 1 else 0)≤1:=by split<;>omega
 rw[sH]
 unfold mJ
 by_cases hn:aG e=true
 ·rw[if_pos hn]
  omega
 ·rw[if_neg hn]
  omega
theorem T9 {d:jG} (h0:sw d.mem) (ho:∀i,i∈d.offset→Dz i) (hl:d.bytes.length≤1048576):(eu d).length≤100*tp d:=by
 have a5:=mp ho
 have a7:=az d.mem h0.2
 have a8:=pf d.bytes (by omega)
 unfold eu tp
 rw[List.length_append]
 exact Ue
theorem EL {w0:World} (hg:cq [] w0) (e:eb) (c:List Value) (h:gD e c w0) (hok:e.type.heap.ok) (ht:0≤e.table∧e.table<9223372036854775808) (hm:e.mode=0∨e.mode=1∨e.mode=2) (hp:jq e.offset) (hi:∀l,l∈e.inits→jq l∧∀i,i∈l→i.op=210→0≤i.x∧i.x<9223372036854775808) (hlen:(cw e).length≤35184372088000):
 d9 Tryz.prog 32 w0 (.agg c.toArray) (cw e) 35184372088832:=by
 obtain⟨iv,ov,rfl,h1,h2⟩:=h
 obtain⟨⟨ek,en,⟨hk,hn⟩⟩,inits,mode,table,offset⟩:=e
 dsimp only at hok ht hm hp hi h1 h2
 have H:Fs w0 ek en hk hn inits mode table offset iv ov:=⟨hg,h1,h2,hok,ht,hp,hi,hlen⟩
 rcases hm with hm|hm|hm
 ·cases hT:(decide (ek=3)&&(decide (en=false)&&(decide (hk=7)&&decide (hn=0))))
  ·exact Lr H hT hm
  ·cases hA:inits.all cW
   ·exact Pj H hT hA hm
   ·exact OE H hT hA hm
 ·cases hz:(table !=0)
  ·cases hT:(decide (ek=3)&&(decide (en=false)&&(decide (hk=7)&&decide (hn=0))))
   ·cases hN:(decide (ek=3)&&(decide (en=true)&&(decide (hk=7)&&decide (hn=0))))
    ·exact Jk H hT hm hz hN
    ·exact JU H hT hm hz hN
   ·have hN:(decide (ek=3)&&(decide (en=true)&&(decide (hk=7)&&decide (hn=0))))=false:=by
     simp only[Bool.and_eq_true,decide_eq_true_eq]at hT
     simp[hT.2.1]
    cases hA:inits.all cW
    ·exact GW H hT hA hm hz hN
    ·exact Pb H hT hA hm hz
  ·cases hT:(decide (ek=3)&&(decide (en=false)&&(decide (hk=7)&&decide (hn=0))))
   ·exact IE H hT hm hz
   ·cases hA:inits.all cW
    ·exact Kb H hT hA hm hz
    ·exact Ho H hT hA hm hz
 ·cases hT:(decide (ek=3)&&(decide (en=false)&&(decide (hk=7)&&decide (hn=0))))
  ·exact Nv H hT hm
  ·cases hA:inits.all cW
   ·exact Lz H hT hA hm
   ·exact Mq H hT hA hm
theorem Ix {w:World} {g n:Nat} {c:Array Value} {T:TypeId} (h:w.heap[g]? =some (.cells c T (0,0))):
 (w.freeze ⟨g,n,none⟩ 1).heap[g]? =some (.cells c T (n,n+1))∧Fr [g] w (w.freeze ⟨g,n,none⟩ 1):=by
 unfold World.freeze
 rw[if_neg (by decide)]
 refine⟨by simp[Array.getElem?_modify,h],rfl,rfl,rfl,by simp,fun k hk hn=> ?_⟩
 simp only[Array.getElem?_modify]
 rw[if_neg (fun e=>hn (by simp[e]))]
theorem GC {P:Program} {w w':World} {o:Oper} {a:Act} {K:Act→World→Prop} {Q:Exit→Act→World→Prop} {t1 t2:TypeId} {x:Operand} {v:Value} (ho:o.op= .convert t1 t2 x) (hr:(convert t1 t2 (a.eval x)).run P w= .ok v w') (h:K (a.put o.dst v) w'):o.wp P a w K Q:=by
 unfold Oper.wp execOp
 simp only[ho,Sem.run_bind,hr,Result.andThen_ok,Sem.run_pure]
 rw[Oper.upon_value]
 exact h
theorem oY {w:World} {ops:Array Oper} {rest:List Oper} {o:Oper} {a:Act} {Q:Exit→Act→World→Prop} {x:Operand} {g n c:Nat} (hgd:o.guard=none)
 (ho:o.op= .convert 34 34 x) (hx:a.eval x= .slice (some ⟨g,0,none⟩) n c)
 (h:∃S w0 G G' cs,∃X:List UInt8,St S w0 w G∧bg G (.loc g cs 5) G'∧cs=X.map B∧(X.length=n∧c=n∧n≤maxLen)∧
  ∀w',St S w0 w' (.own 5 1 (.slice (some ⟨g,0,none⟩) n c) X.length (X.map B)::G')→wpList Tryz.prog ops Q rest (a.put o.dst (.slice (some ⟨g,0,none⟩) n c)) w'):
 wpList Tryz.prog ops Q (o::rest) a w:=by
 obtain⟨S,w0,G,G',cs,X,hst,hp,rfl,⟨h1,rfl,h3⟩,h⟩:=h
 have hL:bB w g (X.map B) 5:=hst.loc hp
 have hheap:w.heap[g]? =some (.cells (X.map B).toArray 5 (0,0)):=hL
 obtain⟨f1,f2⟩:=Ix (n:=c) hheap
 have hr:(convert 34 34 (a.eval x)).run Tryz.prog w= .ok (.slice (some ⟨g,0,none⟩) c c) (w.freeze ⟨g,c,none⟩ 1):=by
  rw[hx]
  unfold convert
  simp only[Sem.run_bind,run_underlying aB w,Result.andThen_ok,run_underlying mR w,beq_self_eq_true]
  have hsh:w.shape? g=some (5,c):=by simp[World.shape?,hheap,h1]
  simp only[markStringish,Sem.run_bind,run_shape,hsh,Result.andThen_ok,run_freeze,Sem.run_pure]
 refine wpList_plain hgd fun _ hK=>GC ho hr (hK _ _ (h _ ?_))
 refine(hst.pick hp).turn (S':= []) (r':= .own 5 1 (.slice (some ⟨g,0,none⟩) c c) X.length (X.map B)) (by simpa [bt.blk]using f2) (by simp) ?_ (fun b hb=> .inl (by simpa [bt.blk,Value.blk]using hb))
 show bf [] _ _ 1 _ _ _
 refine⟨by simp,?_,.inr ⟨g,c,(X.map B).toArray,by rw[h1],by simp,⟨_,f1,.inr (by simp;omega)⟩,by omega,h3,by simp[h1],?_⟩⟩
 ·exact Ud
 ·have e:((X.map B).toArray.toList).length=X.length*1:=by simp
  rw[←e,List.take_length]
theorem MP {w:World} {ops:Array Oper} {rest:List Oper} {o:Oper} {a:Act} {Q:Exit→Act→World→Prop} {x:Operand} {X:List UInt8} (hgd:o.guard=none)
 (ho:o.op= .convert 9 34 x) (hx:a.eval x= .string ⟨X.toArray⟩)
 (h:∃S w0 G,St S w0 w G∧X.length≤maxLen∧
  ∀v' w',St S w0 w' (.own 5 1 v' X.length (X.map B)::G)→wpList Tryz.prog ops Q rest (a.put o.dst v') w'):
 wpList Tryz.prog ops Q (o::rest) a w:=by
 obtain⟨S,w0,G,hst,h3,h⟩:=h
 have hsz:(⟨X.toArray⟩:ByteArray).size=X.length:=by simp[ByteArray.size]
 have hr:=run_bytes_of_string (P:=Tryz.prog) w 9 34 5 ⟨X.toArray⟩ kR aB mR
 rw[hsz]at hr
 have hge:=grownCap_ge w X.length 0 5
 have hle:=grownCap_le_maxLen w X.length 0 5 h3
 generalize grownCap w X.length 0 5=cap at hr hge hle
 have hrow:(bytesRow (⟨X.toArray⟩:ByteArray) cap).toList=X.map B++List.replicate (cap-X.length) (.int .u8 0):=by
  unfold bytesRow
  rw[hsz]
  simp[B]
 have hrs:(bytesRow (⟨X.toArray⟩:ByteArray) cap).size=cap:=by
  rw[←Array.length_toList,hrow]
  simp
  omega
 refine wpList_plain hgd fun _ hK=>GC ho (by rw[hx];exact hr) (hK _ _ (h _ _ ?_))
 refine(hst.drew.alloc' _).put (r:= .own 5 1 (.slice (some ⟨w.heap.size,0,none⟩) X.length cap) X.length (X.map B)) ?_ (fun b hb=> ?_) (fun b hb s hs hm=> ?_)
 ·show bf [] _ _ 1 _ _ _
  refine⟨by simp,?_,.inr ⟨w.heap.size,cap,bytesRow (⟨X.toArray⟩:ByteArray) cap,rfl,by simp,⟨_,heap_alloc_new w.drew _,.inr (Nat.le_refl _)⟩,hge,hle,by rw[hrs,Nat.mul_one],by rw[hrow];simp⟩⟩
  exact Ud
 ·obtain rfl:b=w.heap.size:=by simpa [bt.blk,Value.blk]using hb
  exact hst.fr.size
 ·obtain rfl:b=w.heap.size:=by simpa [bt.blk,Value.blk]using hb
  exact Nat.lt_irrefl _ (hst.lt hs hm)
theorem AP {w:World} {n:Int} {Q:Ending→World→Prop} (h:∃S w0 G,St S w0 w G∧(0≤n∧n<9223372036854775808)∧∀v' w',St S w0 w' (.own 5 1 (v') (au n).length ((au n).map B)::G)→Q (.returned v') w'):Calls Tryz.prog 19 #[.slice none 0 0,.int .i64 n] w Q:=by
 obtain⟨S,w0,G,h1,h3,h5⟩:=h
 exact(xz (xs:= []) (h1.dst (.nil rfl)) n h3.1 h3.2 (by simp)).mono fun e w' ⟨v',e1,e2⟩=>e1▸h5 v' w' e2
structure PM (m:aV):Prop where
 types:∀g,g∈m.types→L4 g∧(cm g).length≤35184372000000
 imports:∀i,i∈m.imports→D3 i
 funcs:∀f,f∈m.funcs→(0≤f.type∧f.type<9223372036854775808)∧(∀r∈f.locals,(0≤r.n∧r.n<9223372036854775808)∧r.val.heap.ok)∧jq f.body∧(ae ee f.locals).length≤17592186044000
 tables:∀t,t∈m.tables→t.type.elem.heap.ok∧fK t.type.lim∧jq t.init
 mems:∀l,l∈m.mems→fK l
 tags:∀n,n∈m.tags→0≤n∧n<9223372036854775808
 globals:∀g,g∈m.globals→g.type.val.heap.ok∧jq g.init
 exports:∀e,e∈m.exports→e.name.length≤1099511627776∧0≤e.n∧e.n<9223372036854775808
 start:m.start<9223372036854775808
 elems:∀e,e∈m.elems→e.type.heap.ok∧(0≤e.table∧e.table<9223372036854775808)∧(e.mode=0∨e.mode=1∨e.mode=2)∧jq e.offset∧(∀l,l∈e.inits→jq l∧∀i,i∈l→i.op=210→0≤i.x∧i.x<9223372036854775808)∧(cw e).length≤35184372088000
 datas:∀d,d∈m.datas→(0≤d.mem∧d.mem<9223372036854775808)∧jq d.offset∧d.bytes.length≤35184372088832
 tot:((km m).flatten).length≤35184372080000
def pn (n:Int):List UInt8:=if 0≤n then 8::aX (au n)else []
def oT (b:Bool) (n:Nat):List UInt8:=if b then 12::aX (aI n)else []
theorem jP (m:aV):aP++(km m).flatten=aP++bO 1 m.types cm++bO 2 m.imports dR++bO 3 m.funcs (fun f=>au f.type)++bO 4 m.tables fD++bO 5 m.mems ea++bO 13 m.tags eW++bO 6 m.globals gg++bO 7 m.exports fF++pn m.start++bO 9 m.elems cw++oT (m.funcs.any fun f=>bD f.body) m.datas.length++bO 10 m.funcs dq++bO 11 m.datas eu:=by
 unfold km pn oT
 simp only[List.flatten_cons,List.flatten_nil,List.append_nil,List.append_assoc]
theorem Aj {w0:World} (hg:cq [] w0) {m:aV} (hp:PM m):∀x∈m.types,∀c,xU x [c] w0→d9 Tryz.prog 14 w0 (c) (cm x) 35184372088832:=fun x hx c hR=>by
 obtain⟨v2,e,hR⟩:=hR
 obtain rfl:c=v2:=by simpa using e
 intro G w v xs hS hl
 have:=(hp.types x hx).2
 exact PS hS hg x hR (hp.types x hx).1 (by omega)
theorem zM {w0:World} (hg:cq [] w0) {m:aV} (hp:PM m):∀x∈m.imports,∀c,(aE eR) x c w0→d9 Tryz.prog 16 w0 (.agg c.toArray) (dR x) 35184372088832:=fun x hx c hR=>by
 obtain rfl:c=eR x:=hR
 intro G w v xs hS hl
 exact Rg hS hg x (hp.imports x hx) hl
theorem Ar {w0:World} (hg:cq [] w0) {m:aV} (hp:PM m):∀x∈m.funcs,∀c,ku x c w0→d9 Tryz.prog 18 w0 (.agg c.toArray) ((fun f=>au f.type) x) 35184372088832:=fun x hx c hR=>by
 obtain⟨lv,bv,rfl,k1,k2⟩:=hR
 intro G w v xs hS hl
 exact Ru hS x.type lv bv k1.one (an.one k2) (hp.funcs x hx).1 (by omega)
theorem z8 {w0:World} (hg:cq [] w0) {m:aV} (hp:PM m):∀x∈m.tables,∀c,qG x c w0→d9 Tryz.prog 21 w0 (.agg c.toArray) (fD x) 35184372088832:=fun x hx c hR=>by
 intro G w v xs hS hl
 have k:=hp.tables x hx
 exact Qz hS hg x c hR k.1 k.2.1.1 k.2.1.2 k.2.2 hl
theorem Ab {w0:World} (hg:cq [] w0) {m:aV} (hp:PM m):∀x∈m.mems,∀c,(aE du) x c w0→d9 Tryz.prog 23 w0 (.agg c.toArray) (ea x) 35184372088832:=fun x hx c hR=>by
 obtain rfl:c=du x:=hR
 intro G w v xs hS hl
 have k:=hp.mems x hx
 exact FM hS x k.1 k.2 (by omega)
theorem AW {w0:World} (hg:cq [] w0) {m:aV} (hp:PM m):∀x∈m.tags,∀c,(aE gK) x [c] w0→d9 Tryz.prog 25 w0 (c) (eW x) 35184372088832:=fun x hx c hR=>by
 obtain rfl:c= .int .i64 x:=by
  have e: [c]=gK x:=hR
  simpa [gK]using e
 intro G w v xs hS hl
 have k:=hp.tags x hx
 exact GS hS x k.1 k.2 (by omega)
theorem zF {w0:World} (hg:cq [] w0) {m:aV} (hp:PM m):∀x∈m.globals,∀c,qR x c w0→d9 Tryz.prog 27 w0 (.agg c.toArray) (gg x) 35184372088832:=fun x hx c hR=>by
 intro G w v xs hS hl
 have k:=hp.globals x hx
 exact QX hS hg x c hR k.1 k.2 hl
theorem Ak {w0:World} (hg:cq [] w0) {m:aV} (hp:PM m):∀x∈m.exports,∀c,(aE gw) x c w0→d9 Tryz.prog 29 w0 (.agg c.toArray) (fF x) 35184372088832:=fun x hx c hR=>by
 obtain rfl:c=gw x:=hR
 intro G w v xs hS hl
 have k:=hp.exports x hx
 exact QJ hS x k.1 k.2 hl
theorem uU {w0:World} (hg:cq [] w0) {m:aV} (hp:PM m):∀x∈m.elems,∀c,gD x c w0→d9 Tryz.prog 32 w0 (.agg c.toArray) (cw x) 35184372088832:=fun x hx c hR=>by
 have k:=hp.elems x hx
 exact EL hg x c hR k.1 k.2.1 k.2.2.1 k.2.2.2.1 k.2.2.2.2.1 k.2.2.2.2.2
theorem AE {w0:World} (hg:cq [] w0) {m:aV} (hp:PM m):∀x∈m.funcs,∀c,ku x c w0→d9 Tryz.prog 36 w0 (.agg c.toArray) (dq x) 35184372088832:=fun x hx c hR=>by
 have k:=hp.funcs x hx
 exact DF hg x c hR k.2.1 k.2.2.1 k.2.2.2
theorem zK {w0:World} (hg:cq [] w0) {m:aV} (hp:PM m):∀x∈m.datas,∀c,rK x c w0→d9 Tryz.prog 38 w0 (.agg c.toArray) (eu x) 35184372088832:=fun x hx c hR=>by
 have k:=hp.datas x hx
 exact DT hg x c hR k.1 k.2.1 k.2.2
set_option maxHeartbeats 6400000
theorem sQ {w:World} (hg:cq [] w) {m:aV} {c:List Value} (h:cI c m w) (hw:NY m) (hm:cy m=false):
 Calls Tryz.prog 8 #[.agg c.toArray] w fun e w'=>e= .returned (.tuple #[.slice none 0 0,.int .i64 2])∧Fr [] w w':=by
 have hM:=Lib.hid fun w' (hf:Fr [] w w')=>pe (hg.fr hf (by simp)) (h.fr hf) hw
 have HM:=Lib.hid hm
 obtain⟨ty,im,fu,ta,me,tg,gl,ex,el,da,rfl,h0,h1,h2,h3,h4,h5,h6,h7,h9,h10⟩:=h
 clear hm
 have o0:=an.one h0
 have o1:=an.one h1
 have o2:=an.one h2
 have o3:=an.one h3
 have o4:=an.one h4
 have o5:=an.one h5
 have o6:=an.one h6
 have o7:=an.one h7
 have o9:=an.one h9
 obtain⟨da1,da2,rfl⟩:=h10.shape
 have hS:=St.start [] w
 go_enter Tryz.func8,Tryz.ntmps8
 go_wp2_with (go_at_call 11;refine(hM.out _ (by exact aM)).mono ?_;rintro e w4 ⟨rfl,hF4⟩;rw[HM.out];(try clear hQ);refine cB hF4 fun hS hQ=> ?_)
 go_ret2
 exact⟨rfl,by exact aM⟩
theorem Ip {w:World} (hg:cq [] w) {m:aV} {c:List Value} (h:cI c m w) (hw:NY m) (hp:PM m) (hm:cy m=true) (hs:0≤m.start) (hn:(m.funcs.any fun f=>bD f.body)=true):
 Calls Tryz.prog 8 #[.agg c.toArray] w fun e w'=>∃v',e= .returned (.tuple #[v',.int .i64 0])∧St [] w w' [.own 5 1 (v') (dy m).length ((dy m).map B)]:=by
 have hM:=Lib.hid fun w' (hf:Fr [] w w')=>pe (hg.fr hf (by simp)) (h.fr hf) hw
 have HM:=Lib.hid hm
 obtain⟨ty,im,fu,ta,me,tg,gl,ex,el,da,rfl,h0,h1,h2,h3,h4,h5,h6,h7,h9,h10⟩:=h
 have e:dy m=aP++bO 1 m.types cm++bO 2 m.imports dR++bO 3 m.funcs (fun f=>au f.type)++bO 4 m.tables fD++bO 5 m.mems ea++bO 13 m.tags eW++bO 6 m.globals gg++bO 7 m.exports fF++ [UInt8.ofNat (8:Int).toNat]++aX (au m.start)++bO 9 m.elems cw++ [UInt8.ofNat (12:Int).toNat]++aX (au (m.datas.length:Int))++bO 10 m.funcs dq++bO 11 m.datas eu:=by
  unfold dy
  rw[if_pos hm,jP,hn]
  unfold pn oT
  simp[hs,iK]
 have htot:=hp.tot
 have hl8:aP.length=8:=rfl
 have e2:(aP++(km m).flatten).length=(dy m).length:=by unfold dy;rw[if_pos hm]
 rw[e]at e2⊢
 simp only[List.length_append,List.length_cons,List.length_nil]at e2
 have hst:=hp.start
 have hdl:m.datas.length≤9223372036854775807:=by
  exact WK
 have HPgrp:=Lib.hid (Aj hg hp)
 have HPimp:=Lib.hid (zM hg hp)
 have HPfun:=Lib.hid (Ar hg hp)
 have HPtab:=Lib.hid (z8 hg hp)
 have HPlim:=Lib.hid (Ab hg hp)
 have HPint:=Lib.hid (AW hg hp)
 have HPglo:=Lib.hid (zF hg hp)
 have HPexp:=Lib.hid (Ak hg hp)
 have HPelem:=Lib.hid (uU hg hp)
 have HPcod:=Lib.hid (AE hg hp)
 have HPdat:=Lib.hid (zK hg hp)
 have HN:=Lib.hid hn
 clear hm hp hn e
 have ln1:(au m.start).length≤10:=az _ hst
 have ln2:(au (m.datas.length:Int)).length≤10:=az _ (by omega)
 have o0:=an.one h0
 have o1:=an.one h1
 have o2:=an.one h2
 have o3:=an.one h3
 have o4:=an.one h4
 have o5:=an.one h5
 have o6:=an.one h6
 have o7:=an.one h7
 have o9:=an.one h9
 have h10b:=h10
 obtain⟨da1,da2,rfl⟩:=h10.shape
 have hS:=St.start [] w
 go_enter Tryz.func8,Tryz.ntmps8
 go_wp2_with first|(refine oY rfl rfl rfl ?_;refine QE ?_;intro wN hS;(try clear hQ);have hQ:=St.fq hS)|(go_at_call 11;refine(hM.out _ (by exact aM)).mono ?_;rintro e w4 ⟨rfl,hF4⟩;rw[HM.out];(try clear hQ);refine cB hF4 fun hS hQ=> ?_)|(go_at_call 33;refine(pL _ m.funcs (an.fr dG.fr h2 (by exact aM))).mono ?_;rintro e w4 ⟨rfl,hF4⟩;rw[HN.out];(try clear hQ);refine cB hF4 fun hS hQ=> ?_)|(go_at_call 13;refine(rC gv (p:=cm) (St.pick (G:= _) (by exact aA) (by exact aK)) h0 (by exact bS) HPgrp.out).mono ?_;rintro e w4 ⟨v4,rfl,hS⟩;(try clear hQ);have hQ:=St.fq hS)|(go_at_call 15;refine(rf gp (p:=dR) (St.pick (G:= _) (by exact aA) (by exact aK)) h1 (by exact bS) HPimp.out).mono ?_;rintro e w4 ⟨v4,rfl,hS⟩;(try clear hQ);have hQ:=St.fq hS)|(go_at_call 20;refine(rL jj (p:=fD) (St.pick (G:= _) (by exact aA) (by exact aK)) h3 (by exact bS) HPtab.out).mono ?_;rintro e w4 ⟨v4,rfl,hS⟩;(try clear hQ);have hQ:=St.fq hS)|(go_at_call 22;refine(ro fR (p:=ea) (St.pick (G:= _) (by exact aA) (by exact aK)) h4 (by exact bS) HPlim.out).mono ?_;rintro e w4 ⟨v4,rfl,hS⟩;(try clear hQ);have hQ:=St.fq hS)|(go_at_call 24;refine(sh gj (p:=eW) (St.pick (G:= _) (by exact aA) (by exact aK)) h5 (by exact bS) HPint.out).mono ?_;rintro e w4 ⟨v4,rfl,hS⟩;(try clear hQ);have hQ:=St.fq hS)|(go_at_call 26;refine(rV jm (p:=gg) (St.pick (G:= _) (by exact aA) (by exact aK)) h6 (by exact bS) HPglo.out).mono ?_;rintro e w4 ⟨v4,rfl,hS⟩;(try clear hQ);have hQ:=St.fq hS)|(go_at_call 28;refine(su gq (p:=fF) (St.pick (G:= _) (by exact aA) (by exact aK)) h7 (by exact bS) HPexp.out).mono ?_;rintro e w4 ⟨v4,rfl,hS⟩;(try clear hQ);have hQ:=St.fq hS)|(go_at_call 31;refine(py fH (p:=cw) (St.pick (G:= _) (by exact aA) (by exact aK)) h9 (by exact bS) HPelem.out).mono ?_;rintro e w4 ⟨v4,rfl,hS⟩;(try clear hQ);have hQ:=St.fq hS)|(go_at_call 37;refine(sj gP (p:=eu) (St.pick (G:= _) (by exact aA) (by exact aK)) h10 (by exact bS) HPdat.out).mono ?_;rintro e w4 ⟨v4,rfl,hS⟩;(try clear hQ);have hQ:=St.fq hS)|(go_at_call 17;(with_reducible refine(rx dG (p:=(fun f=>au f.type)) (St.pick (G:= _) (by exact aA) (by exact aK)) h2 (by exact bS) HPfun.out).mono ?_);rintro e w4 ⟨v4,rfl,hS⟩;(try clear hQ);have hQ:=St.fq hS)|(go_at_call 17;refine(rQ dG (p:=dq) (St.pick (G:= _) (by exact aA) (by exact aK)) h2 (by exact bS) HPcod.out).mono ?_;rintro e w4 ⟨v4,rfl,hS⟩;(try clear hQ);have hQ:=St.fq hS)|fail
 go_region_held3 (fun w'=>w'.cell? ⟨w.heap.size,8,none⟩=some (.int .i64 m.start)) (first|(go_keep;done)|(simp[hQ];done)) (first|((try clear hQ);refine JK fun vN wN hS hQ=> ?_)|(go_at_call 19;refine AP ?_;refine Sg ?_;intro vN wN hS;(try clear hQ);have hQ:=St.fq hS)|(go_at_call 30;refine oQ ?_;refine QV ?_;intro vN wN hS;(try clear hQ);have hQ:=St.fq hS))
 exact Wx
theorem Jc {w:World} (hg:cq [] w) {m:aV} {c:List Value} (h:cI c m w) (hw:NY m) (hp:PM m) (hm:cy m=true) (hs:0≤m.start) (hn:(m.funcs.any fun f=>bD f.body)=false):
 Calls Tryz.prog 8 #[.agg c.toArray] w fun e w'=>∃v',e= .returned (.tuple #[v',.int .i64 0])∧St [] w w' [.own 5 1 (v') (dy m).length ((dy m).map B)]:=by
 have hM:=Lib.hid fun w' (hf:Fr [] w w')=>pe (hg.fr hf (by simp)) (h.fr hf) hw
 have HM:=Lib.hid hm
 obtain⟨ty,im,fu,ta,me,tg,gl,ex,el,da,rfl,h0,h1,h2,h3,h4,h5,h6,h7,h9,h10⟩:=h
 have e:dy m=aP++bO 1 m.types cm++bO 2 m.imports dR++bO 3 m.funcs (fun f=>au f.type)++bO 4 m.tables fD++bO 5 m.mems ea++bO 13 m.tags eW++bO 6 m.globals gg++bO 7 m.exports fF++ [UInt8.ofNat (8:Int).toNat]++aX (au m.start)++bO 9 m.elems cw++bO 10 m.funcs dq++bO 11 m.datas eu:=by
  unfold dy
  rw[if_pos hm,jP,hn]
  unfold pn oT
  simp[hs]
 have htot:=hp.tot
 have hl8:aP.length=8:=rfl
 have e2:(aP++(km m).flatten).length=(dy m).length:=by unfold dy;rw[if_pos hm]
 rw[e]at e2⊢
 simp only[List.length_append,List.length_cons,List.length_nil]at e2
 have hst:=hp.start
 have hdl:m.datas.length≤9223372036854775807:=by
  exact WK
 have HPgrp:=Lib.hid (Aj hg hp)
 have HPimp:=Lib.hid (zM hg hp)
 have HPfun:=Lib.hid (Ar hg hp)
 have HPtab:=Lib.hid (z8 hg hp)
 have HPlim:=Lib.hid (Ab hg hp)
 have HPint:=Lib.hid (AW hg hp)
 have HPglo:=Lib.hid (zF hg hp)
 have HPexp:=Lib.hid (Ak hg hp)
 have HPelem:=Lib.hid (uU hg hp)
 have HPcod:=Lib.hid (AE hg hp)
 have HPdat:=Lib.hid (zK hg hp)
 have HN:=Lib.hid hn
 clear hm hp hn e
 have ln1:(au m.start).length≤10:=az _ hst
 have ln2:(au (m.datas.length:Int)).length≤10:=az _ (by omega)
 have o0:=an.one h0
 have o1:=an.one h1
 have o2:=an.one h2
 have o3:=an.one h3
 have o4:=an.one h4
 have o5:=an.one h5
 have o6:=an.one h6
 have o7:=an.one h7
 have o9:=an.one h9
 have h10b:=h10
 obtain⟨da1,da2,rfl⟩:=h10.shape
 have hS:=St.start [] w
 go_enter Tryz.func8,Tryz.ntmps8
 go_wp2_with first|(refine oY rfl rfl rfl ?_;refine QE ?_;intro wN hS;(try clear hQ);have hQ:=St.fq hS)|(go_at_call 11;refine(hM.out _ (by exact aM)).mono ?_;rintro e w4 ⟨rfl,hF4⟩;rw[HM.out];(try clear hQ);refine cB hF4 fun hS hQ=> ?_)|(go_at_call 33;refine(pL _ m.funcs (an.fr dG.fr h2 (by exact aM))).mono ?_;rintro e w4 ⟨rfl,hF4⟩;rw[HN.out];(try clear hQ);refine cB hF4 fun hS hQ=> ?_)|(go_at_call 13;refine(rC gv (p:=cm) (St.pick (G:= _) (by exact aA) (by exact aK)) h0 (by exact bS) HPgrp.out).mono ?_;rintro e w4 ⟨v4,rfl,hS⟩;(try clear hQ);have hQ:=St.fq hS)|(go_at_call 15;refine(rf gp (p:=dR) (St.pick (G:= _) (by exact aA) (by exact aK)) h1 (by exact bS) HPimp.out).mono ?_;rintro e w4 ⟨v4,rfl,hS⟩;(try clear hQ);have hQ:=St.fq hS)|(go_at_call 20;refine(rL jj (p:=fD) (St.pick (G:= _) (by exact aA) (by exact aK)) h3 (by exact bS) HPtab.out).mono ?_;rintro e w4 ⟨v4,rfl,hS⟩;(try clear hQ);have hQ:=St.fq hS)|(go_at_call 22;refine(ro fR (p:=ea) (St.pick (G:= _) (by exact aA) (by exact aK)) h4 (by exact bS) HPlim.out).mono ?_;rintro e w4 ⟨v4,rfl,hS⟩;(try clear hQ);have hQ:=St.fq hS)|(go_at_call 24;refine(sh gj (p:=eW) (St.pick (G:= _) (by exact aA) (by exact aK)) h5 (by exact bS) HPint.out).mono ?_;rintro e w4 ⟨v4,rfl,hS⟩;(try clear hQ);have hQ:=St.fq hS)|(go_at_call 26;refine(rV jm (p:=gg) (St.pick (G:= _) (by exact aA) (by exact aK)) h6 (by exact bS) HPglo.out).mono ?_;rintro e w4 ⟨v4,rfl,hS⟩;(try clear hQ);have hQ:=St.fq hS)|(go_at_call 28;refine(su gq (p:=fF) (St.pick (G:= _) (by exact aA) (by exact aK)) h7 (by exact bS) HPexp.out).mono ?_;rintro e w4 ⟨v4,rfl,hS⟩;(try clear hQ);have hQ:=St.fq hS)|(go_at_call 31;refine(py fH (p:=cw) (St.pick (G:= _) (by exact aA) (by exact aK)) h9 (by exact bS) HPelem.out).mono ?_;rintro e w4 ⟨v4,rfl,hS⟩;(try clear hQ);have hQ:=St.fq hS)|(go_at_call 37;refine(sj gP (p:=eu) (St.pick (G:= _) (by exact aA) (by exact aK)) h10 (by exact bS) HPdat.out).mono ?_;rintro e w4 ⟨v4,rfl,hS⟩;(try clear hQ);have hQ:=St.fq hS)|(go_at_call 17;(with_reducible refine(rx dG (p:=(fun f=>au f.type)) (St.pick (G:= _) (by exact aA) (by exact aK)) h2 (by exact bS) HPfun.out).mono ?_);rintro e w4 ⟨v4,rfl,hS⟩;(try clear hQ);have hQ:=St.fq hS)|(go_at_call 17;refine(rQ dG (p:=dq) (St.pick (G:= _) (by exact aA) (by exact aK)) h2 (by exact bS) HPcod.out).mono ?_;rintro e w4 ⟨v4,rfl,hS⟩;(try clear hQ);have hQ:=St.fq hS)|fail
 go_region_held3 (fun w'=>w'.cell? ⟨w.heap.size,8,none⟩=some (.int .i64 m.start)) (first|(go_keep;done)|(simp[hQ];done)) (first|((try clear hQ);refine JK fun vN wN hS hQ=> ?_)|(go_at_call 19;refine AP ?_;refine Sg ?_;intro vN wN hS;(try clear hQ);have hQ:=St.fq hS)|(go_at_call 30;refine oQ ?_;refine QV ?_;intro vN wN hS;(try clear hQ);have hQ:=St.fq hS))
 exact y3
theorem II {w:World} (hg:cq [] w) {m:aV} {c:List Value} (h:cI c m w) (hw:NY m) (hp:PM m) (hm:cy m=true) (hs:¬0≤m.start) (hn:(m.funcs.any fun f=>bD f.body)=true):
 Calls Tryz.prog 8 #[.agg c.toArray] w fun e w'=>∃v',e= .returned (.tuple #[v',.int .i64 0])∧St [] w w' [.own 5 1 (v') (dy m).length ((dy m).map B)]:=by
 have hM:=Lib.hid fun w' (hf:Fr [] w w')=>pe (hg.fr hf (by simp)) (h.fr hf) hw
 have HM:=Lib.hid hm
 obtain⟨ty,im,fu,ta,me,tg,gl,ex,el,da,rfl,h0,h1,h2,h3,h4,h5,h6,h7,h9,h10⟩:=h
 have e:dy m=aP++bO 1 m.types cm++bO 2 m.imports dR++bO 3 m.funcs (fun f=>au f.type)++bO 4 m.tables fD++bO 5 m.mems ea++bO 13 m.tags eW++bO 6 m.globals gg++bO 7 m.exports fF++bO 9 m.elems cw++ [UInt8.ofNat (12:Int).toNat]++aX (au (m.datas.length:Int))++bO 10 m.funcs dq++bO 11 m.datas eu:=by
  unfold dy
  rw[if_pos hm,jP,hn]
  unfold pn oT
  simp[hs,iK]
 have htot:=hp.tot
 have hl8:aP.length=8:=rfl
 have e2:(aP++(km m).flatten).length=(dy m).length:=by unfold dy;rw[if_pos hm]
 rw[e]at e2⊢
 simp only[List.length_append,List.length_cons,List.length_nil]at e2
 have hst:=hp.start
 have hdl:m.datas.length≤9223372036854775807:=by
  exact WK
 have HPgrp:=Lib.hid (Aj hg hp)
 have HPimp:=Lib.hid (zM hg hp)
 have HPfun:=Lib.hid (Ar hg hp)
 have HPtab:=Lib.hid (z8 hg hp)
 have HPlim:=Lib.hid (Ab hg hp)
 have HPint:=Lib.hid (AW hg hp)
 have HPglo:=Lib.hid (zF hg hp)
 have HPexp:=Lib.hid (Ak hg hp)
 have HPelem:=Lib.hid (uU hg hp)
 have HPcod:=Lib.hid (AE hg hp)
 have HPdat:=Lib.hid (zK hg hp)
 have HN:=Lib.hid hn
 clear hm hp hn e
 have ln1:(au m.start).length≤10:=az _ hst
 have ln2:(au (m.datas.length:Int)).length≤10:=az _ (by omega)
 have o0:=an.one h0
 have o1:=an.one h1
 have o2:=an.one h2
 have o3:=an.one h3
 have o4:=an.one h4
 have o5:=an.one h5
 have o6:=an.one h6
 have o7:=an.one h7
 have o9:=an.one h9
 have h10b:=h10
 obtain⟨da1,da2,rfl⟩:=h10.shape
 have hS:=St.start [] w
 go_enter Tryz.func8,Tryz.ntmps8
 exact Wx
theorem GX {w:World} (hg:cq [] w) {m:aV} {c:List Value} (h:cI c m w) (hw:NY m) (hp:PM m) (hm:cy m=true) (hs:¬0≤m.start) (hn:(m.funcs.any fun f=>bD f.body)=false):
 Calls Tryz.prog 8 #[.agg c.toArray] w fun e w'=>∃v',e= .returned (.tuple #[v',.int .i64 0])∧St [] w w' [.own 5 1 (v') (dy m).length ((dy m).map B)]:=by
 have hM:=Lib.hid fun w' (hf:Fr [] w w')=>pe (hg.fr hf (by simp)) (h.fr hf) hw
 have HM:=Lib.hid hm
 obtain⟨ty,im,fu,ta,me,tg,gl,ex,el,da,rfl,h0,h1,h2,h3,h4,h5,h6,h7,h9,h10⟩:=h
 have e:dy m=aP++bO 1 m.types cm++bO 2 m.imports dR++bO 3 m.funcs (fun f=>au f.type)++bO 4 m.tables fD++bO 5 m.mems ea++bO 13 m.tags eW++bO 6 m.globals gg++bO 7 m.exports fF++bO 9 m.elems cw++bO 10 m.funcs dq++bO 11 m.datas eu:=by
  unfold dy
  rw[if_pos hm,jP,hn]
  unfold pn oT
  simp[hs]
 have htot:=hp.tot
 have hl8:aP.length=8:=rfl
 have e2:(aP++(km m).flatten).length=(dy m).length:=by unfold dy;rw[if_pos hm]
 rw[e]at e2⊢
 simp only[List.length_append,List.length_cons,List.length_nil]at e2
 have hst:=hp.start
 have hdl:m.datas.length≤9223372036854775807:=by
  exact WK
 have HPgrp:=Lib.hid (Aj hg hp)
 have HPimp:=Lib.hid (zM hg hp)
 have HPfun:=Lib.hid (Ar hg hp)
 have HPtab:=Lib.hid (z8 hg hp)
 have HPlim:=Lib.hid (Ab hg hp)
 have HPint:=Lib.hid (AW hg hp)
 have HPglo:=Lib.hid (zF hg hp)
 have HPexp:=Lib.hid (Ak hg hp)
 have HPelem:=Lib.hid (uU hg hp)
 have HPcod:=Lib.hid (AE hg hp)
 have HPdat:=Lib.hid (zK hg hp)
 have HN:=Lib.hid hn
 clear hm hp hn e
 have ln1:(au m.start).length≤10:=az _ hst
 have ln2:(au (m.datas.length:Int)).length≤10:=az _ (by omega)
 have o0:=an.one h0
 have o1:=an.one h1
 have o2:=an.one h2
 have o3:=an.one h3
 have o4:=an.one h4
 have o5:=an.one h5
 have o6:=an.one h6
 have o7:=an.one h7
 have o9:=an.one h9
 have h10b:=h10
 obtain⟨da1,da2,rfl⟩:=h10.shape
 have hS:=St.start [] w
 go_enter Tryz.func8,Tryz.ntmps8
 exact y3
theorem po {w:World} (hg:cq [] w) {m:aV} {c:List Value} (h:cI c m w) (hw:NY m) (hp:PM m) (hm:cy m=true):
 Calls Tryz.prog 8 #[.agg c.toArray] w fun e w'=>∃v',e= .returned (.tuple #[v',.int .i64 0])∧St [] w w' [.own 5 1 (v') (dy m).length ((dy m).map B)]:=by
 by_cases hs:0≤m.start<;>cases hn:m.funcs.any fun f=>bD f.body
 ·exact Jc hg h hw hp hm hs hn
 ·exact Ip hg h hw hp hm hs hn
 ·exact GX hg h hw hp hm hs hn
 ·exact II hg h hw hp hm hs hn
end Go.Proofs.YtpdlmdlkecnpgaaGreatDoor
