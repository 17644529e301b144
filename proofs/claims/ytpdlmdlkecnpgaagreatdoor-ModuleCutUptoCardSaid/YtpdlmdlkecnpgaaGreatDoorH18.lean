/- Texts: IbSame IbAll IbMay0 IbMayZ. -/
import Derived.Test.YtpdlmdlkecnpgaaGreatDoorH0
import Derived.Test.YtpdlmdlkecnpgaaGreatDoorH17
import Derived.Test.YtpdlmdlkecnpgaaGreatDoorH7
import Derived.Test.YtpdlmdlkecnpgaaGreatDoorH8
set_option linter.unusedSimpArgs false
set_option linter.unusedVariables false
namespace Go.Proofs.YtpdlmdlkecnpgaaGreatDoor
open Go.RowKit
theorem uN (o1 x1 y1:Int) (u1:Nat) (hk1 hn1 jk1 jn1:Int) (n1 m1:Bool) (t1:List aF) (l1:List Int) (bk1 vk1:Int) (vn1:Bool) (wk1 wn1 bn1:Int) (c1:List cQ)
 (o2 x2 y2:Int) (u2:Nat) (hk2 hn2 jk2 jn2:Int) (n2 m2:Bool) (t2:List aF) (l2:List Int) (bk2 vk2:Int) (vn2:Bool) (wk2 wn2 bn2:Int) (c2:List cQ) {b1 b2 b3:Bool} (h1:decide (t1=t2)=b1) (h2:decide (l1=l2)=b2) (h3:decide (c1=c2)=b3):
 decide ((⟨o1,x1,y1,u1,⟨hk1,hn1⟩,⟨jk1,jn1⟩,n1,m1,t1,l1,⟨bk1,⟨vk1,vn1,⟨wk1,wn1⟩⟩,bn1⟩,c1⟩:aa)=⟨o2,x2,y2,u2,⟨hk2,hn2⟩,⟨jk2,jn2⟩,n2,m2,t2,l2,⟨bk2,⟨vk2,vn2,⟨wk2,wn2⟩⟩,bn2⟩,c2⟩)=
  ((o1==o2)&&(x1==x2)&&(y1==y2)&&((u1:Int)==(u2:Int))&&((hk1==hk2)&&(hn1==hn2))&&((jk1==jk2)&&(jn1==jn2))&&(n1==n2)&&(m1==m2)&&((bk1==bk2)&&((vk1==vk2)&&((vn1==vn2)&&((wk1==wk2)&&((wn1==wn2)&&(bn1==bn2))))))&&b1&&b2&&b3):=by
 subst h1 h2 h3
 rw[Bool.eq_iff_iff]
 simp only[decide_eq_true_eq,aa.mk.injEq,aC.mk.injEq,bJ.mk.injEq,aF.mk.injEq,Bool.and_eq_true,beq_iff_eq]
 constructor
 ·rintro⟨rfl,rfl,rfl,rfl,⟨rfl,rfl⟩,⟨rfl,rfl⟩,rfl,rfl,rfl,rfl,⟨rfl,⟨rfl,rfl,⟨rfl,rfl⟩⟩,rfl⟩,rfl⟩
  simp
 ·rintro⟨⟨⟨⟨⟨⟨⟨⟨⟨⟨⟨rfl,rfl⟩,rfl⟩,hu⟩,rfl,rfl⟩,rfl,rfl⟩,rfl⟩,rfl⟩,rfl,rfl,rfl,rfl,rfl,rfl⟩,rfl⟩,rfl⟩,rfl⟩
  have:u1=u2:=by omega
  subst this
  simp
set_option maxRecDepth 100000
set_option maxHeartbeats 12800000
theorem Md (w:World) (i j:aa) (tv lv cv tv' lv' cv':Value) (h:gR [] w i tv lv cv) (h':gR [] w j tv' lv' cv'):
 Calls Tryz.prog 181 #[.agg (cp i tv lv cv).toArray,.agg (cp j tv' lv' cv').toArray] w fun e w'=>e= .returned (.bool (decide (i=j)))∧Fr [] w w':=by
 obtain⟨o1,x1,y1,u1,⟨hk1,hn1⟩,⟨jk1,jn1⟩,n1,m1,t1,l1,⟨bk1,⟨vk1,vn1,⟨wk1,wn1⟩⟩,bn1⟩,c1⟩:=i
 obtain⟨o2,x2,y2,u2,⟨hk2,hn2⟩,⟨jk2,jn2⟩,n2,m2,t2,l2,⟨bk2,⟨vk2,vn2,⟨wk2,wn2⟩⟩,bn2⟩,c2⟩:=j
 obtain⟨ht,hl,hc⟩:=h
 obtain⟨ht',hl',hc'⟩:=h'
 unfold cp
 dsimp only at ht hl hc ht' hl' hc'⊢
 have hS0:=St.start [] w
 go_enter Tryz.func181,Tryz.ntmps181
 go_wp2_with first
  |(go_at_call 178;(with_reducible refine(nK _ _ _ t1 t2 ?_ ?_).mono ?_);(·(apply St.sl (hs:=ht);(exact aA)));(·(apply St.sl (hs:=ht');(exact aA)));rintro e w1 ⟨rfl,hF1⟩;generalize hb1:decide (t1=t2)=b1;have Hb1:=Lib.hid hb1;clear hb1;(try clear hQ);refine cB hF1 fun hS hQ=> ?_)
  |(go_at_call 48;(with_reducible refine(G4 _ _ _ l1 l2 ?_ ?_).mono ?_);(·(apply St.sl (hs:=hl);(exact aA)));(·(apply St.sl (hs:=hl');(exact aA)));rintro e w2 ⟨rfl,hF2⟩;generalize hb2:decide (l1=l2)=b2;have Hb2:=Lib.hid hb2;clear hb2;(try clear hQ);refine cB hF2 fun hS hQ=> ?_)
  |(go_at_call 231;(with_reducible refine(BA _ _ _ c1 c2 ?_ ?_).mono ?_);(·(apply St.sl (hs:=hc);(exact aA)));(·(apply St.sl (hs:=hc');(exact aA)));rintro e w3 ⟨rfl,hF3⟩;generalize hb3:decide (c1=c2)=b3;have Hb3:=Lib.hid hb3;clear hb3;(try clear hQ);refine cB hF3 fun hS hQ=> ?_)
 all_goals
  go_ret
  refine⟨congrArg (fun b=>Ending.returned (Value.bool b)) ?_,by exact aM⟩
  first
   |rw[uN _ _ _ _ _ _ _ _ _ _ _ _ _ _ _ _ _ _ _ _ _ _ _ _ _ _ _ _ _ _ _ _ _ _ _ _ _ _ Hb1.out Hb2.out Hb3.out]
   |rw[uN _ _ _ _ _ _ _ _ _ _ _ _ _ _ _ _ _ _ _ _ _ _ _ _ _ _ _ _ _ _ _ _ _ _ _ _ _ _ Hb1.out Hb2.out rfl]
   |rw[uN _ _ _ _ _ _ _ _ _ _ _ _ _ _ _ _ _ _ _ _ _ _ _ _ _ _ _ _ _ _ _ _ _ _ _ _ _ _ Hb1.out rfl rfl]
   |rw[uN _ _ _ _ _ _ _ _ _ _ _ _ _ _ _ _ _ _ _ _ _ _ _ _ _ _ _ _ _ _ _ _ _ _ _ _ _ _ rfl rfl rfl]
  first
   |(simp_all;done)
structure WR (i:aa):Prop where
 op0: -9223372036854775808≤i.op
 op1:i.op<9223372036854775808
 ts:i.types.length≤1099511627776
 ls:i.labels.length≤1099511627776
 cs:i.catches.length≤1099511627776
def FZ:Prop:=∀(w:World),cq [] w→∀(i:aa) (tv lv cv:Value),gR [] w i tv lv cv→WR i→Calls Tryz.prog 185 #[.agg (cp i tv lv cv).toArray] w fun e w'=>e= .returned (.bool (dx i))∧Fr [] w w'
theorem vl (hM:FZ) (w:World) (hg:cq [] w) (v:Value) (ts:List aa) (ds:List Value) (h:Sl [] w 19 v ts.length ds) (hs:dP [] w ts ds) (hl:ts.length≤1099511627776) (hw:∀i,i∈ts→WR i):
 Calls Tryz.prog 192 #[v,.func (.func 185) #[] #[]] w fun e w'=>e= .returned (.bool (ts.all dx))∧Fr [] w w':=by
 have hh:=h
 unfold FZ at hM
 obtain⟨_,_,a,cap,rfl,_⟩:=h
 go_enter Tryz.func192,Tryz.ntmps192
 go_wp2
 go_loopw [9] (fun n wr=>∃(i:Nat),n= .int .i64 i∧i≤ts.length∧Fr [] w wr∧Hid (ts.all dx=(ts.drop i).all dx)) (fun n _=>ts.length-(intOf n).toNat)
 case atStart=>exact⟨0,rfl,by omega,Fr.refl _ _,Lib.hid rfl⟩
 case round=>
  obtain⟨i,rfl,hi,hF,hI⟩:=hrel
  by_cases hlt:i<ts.length
  ·obtain⟨t,ht⟩:∃t,ts[i]? =some t:=⟨ts[i],by simp[hlt]⟩
   have hwt:=hw t (List.mem_of_getElem? ht)
   obtain⟨b,off,cap2,tv,lv,cv,hv,hb,hnS,hR,hc⟩:=Sl.ins_elem hh hs i t ht
   injection hv with hv1 hv2 hv3
   subst hv1 hv3
   have hbw:b<wr.heap.size:=Nat.lt_of_lt_of_le hb hF.size
   have hd:=gB ts i t ht
   have hc2:∀r,r<19→wr.cell? ⟨b,off+(i*19+r),none⟩=(cp t tv lv cv)[r]? :=fun r hr=>(hF.cell hb (by simp) _).trans (hc r hr)
   have hR2:=hR.fr hF (fun _ _ h=>h)
   have hg2:=hg.fr hF (fun _ _ h=>h)
   clear hc hnS
   obtain⟨ta,tc,rfl⟩:=hR.1.shape
   obtain⟨la,lc,rfl⟩:=hR.2.1.shape
   obtain⟨ca,cc,rfl⟩:=hR.2.2.shape
   have hRow:wr.rangeAt b (off+i*19) (cp t (.slice ta t.types.length tc) (.slice la t.labels.length lc) (.slice ca t.catches.length cc)):=fun r v hv=>by
    rw[Nat.add_assoc,hc2 r (List.getElem?_eq_some_iff.1 hv).1]
    exact hv
   have hOne:∀v∈cp t (.slice ta t.types.length tc) (.slice la t.labels.length lc) (.slice ca t.catches.length cc),v.oneCell'=true:=by simp[cp,Value.oneCell']
   have hSt:St [] w wr []:=(St.start [] w).step0 hF
   clear hc2
   cases hp:dx t
   ·have hall:ts.all dx=false:=by rw[hI.out,hd];simp[hp]
    have Hall:=Lib.hid hall
    clear hall
    go_wp2_with first|(refine bC (ty:=177) rfl rfl rfl eB rfl ?_;refine We ?_)|(refine cd (ty:=177) rfl rfl rfl rfl ?_;refine UN ?_;intro wN hS;(try clear hQ);have hQ:=St.fq hS)|(go_at_call 185;(with_reducible refine(hM _ ?_ t _ _ _ ?_ hwt).mono ?_);(·exact hS.gl7 hg);(·exact hS.ins hR);rintro e w2 ⟨rfl,hF2⟩;rw[hp];(try clear hQ);refine cB hF2 fun hS hQ=> ?_)
    go_ret
    exact⟨by rw[Hall.out];rfl,by exact aM⟩
   ·have hall:ts.all dx=(ts.drop (i+1)).all dx:=by rw[hI.out,hd];simp[hp]
    have Hall:=Lib.hid hall
    clear hall
    go_wp2_with first|(refine bC (ty:=177) rfl rfl rfl eB rfl ?_;refine We ?_)|(refine cd (ty:=177) rfl rfl rfl rfl ?_;refine UN ?_;intro wN hS;(try clear hQ);have hQ:=St.fq hS)|(go_at_call 185;(with_reducible refine(hM _ ?_ t _ _ _ ?_ hwt).mono ?_);(·exact hS.gl7 hg);(·exact hS.ins hR);rintro e w2 ⟨rfl,hF2⟩;rw[hp];(try clear hQ);refine cB hF2 fun hS hQ=> ?_)
    go_roundw
    case rel=>exact⟨i+1,by go_num,by omega,by exact aM,Hall⟩
    case measure=>simp[intOf];omega
  ·have hk:i=ts.length:=by omega
   subst hk
   have hall:ts.all dx=true:=by rw[hI.out];simp
   exact K1
theorem Tq (op:Int) (h1: -9223372036854775808≤op) (h2:op<9223372036854775808) {k:Int} (hk:ag op=k) (w:World) (hg:cq [] w):Calls Tryz.prog 233 #[.int .i64 op] w fun e w'=>e= .returned (.int .i64 k)∧Fr [] w w':=by
 subst hk
 exact dd hg op h1 h2
theorem rR (c:UInt8):∀(l:List UInt8),-1≤fj l c∧fj l c≤(l.length:Int)-1
 | []=>by simp[fj]
 |a::l=>by
  have:=rR c l
  have e:((a::l).length:Int)=l.length+1:=by simp
  rw[e]
  unfold fj
  split
  ·omega
  ·split<;>omega
theorem BW (op:Int):0≤ag op∧ag op≤13:=by
 unfold ag
 split
 ·omega
 ·have h:=rR (gr ef op 0).2 jf
  have e:(jf.length:Int)-1=12:=rfl
  omega
def re (k:Int):Prop:=∀{w:World} (_:cq [] w) (o x y:Int) (u:Nat) (hk hn jk jn:Int) (n1 n2:Bool) (ts:List aF) (ls:List Int) (bk vk:Int) (vn:Bool) (wk wn bn:Int) (cs:List cQ) (tv lv cv:Value)
 (_:gR [] w ({op:=o,x:=x,y:=y,u:=u,heap:={kind:=hk,n:=hn},heap2:={kind:=jk,n:=jn},null:=n1,null2:=n2,types:=ts,labels:=ls,block:={kind:=bk,val:={kind:=vk,null:=vn,heap:={kind:=wk,n:=wn}},n:=bn},catches:=cs}:aa) tv lv cv) (_: -9223372036854775808≤o) (_:o<9223372036854775808) (_:ts.length≤1099511627776) (_:ls.length≤1099511627776) (_:cs.length≤1099511627776) (_:ag o=k) {b:Bool}
 (_:dx ({op:=o,x:=x,y:=y,u:=u,heap:={kind:=hk,n:=hn},heap2:={kind:=jk,n:=jn},null:=n1,null2:=n2,types:=ts,labels:=ls,block:={kind:=bk,val:={kind:=vk,null:=vn,heap:={kind:=wk,n:=wn}},n:=bn},catches:=cs}:aa)=b),
 Calls Tryz.prog 185 #[.agg (cp ({op:=o,x:=x,y:=y,u:=u,heap:={kind:=hk,n:=hn},heap2:={kind:=jk,n:=jn},null:=n1,null2:=n2,types:=ts,labels:=ls,block:={kind:=bk,val:={kind:=vk,null:=vn,heap:={kind:=wk,n:=wn}},n:=bn},catches:=cs}:aa) tv lv cv).toArray] w fun e w'=>e= .returned (.bool b)∧Fr [] w w'
theorem TZ {w:World} {b p:Bool} {i j:aa} (_:Hid (b=(p&&decide (i=j)))) {tv lv cv tv' lv' cv':Value} (h:gR [] w i tv lv cv) (h':gR [] w j tv' lv' cv'):
 Calls Tryz.prog 181 #[.agg (cp i tv lv cv).toArray,.agg (cp j tv' lv' cv').toArray] w fun e w'=>∃b9,Hid (decide (i=j)=b9)∧e= .returned (.bool b9)∧Fr [] w w':=
 (Md w i j tv lv cv tv' lv' cv' h h').mono fun _ _ h=>⟨_,Lib.hid rfl,h.1,h.2⟩
theorem Lc {p:Prop} (h:p:=by(rw[←hm];exact iJ (by simp only;omega) (by simp[cu,hsh]))):p:=h
theorem J7 {p:Prop} (h:p:=by
 obtain⟨tS,lS,cS⟩:=h
 have tS':=tS
 have lS':=lS
 have cS':=cS
 have ot:tv.oneCell'=true:=by obtain⟨_,_,e⟩:=tS.shape;rw[e];rfl
 have ol:lv.oneCell'=true:=by obtain⟨_,_,e⟩:=lS.shape;rw[e];rfl
 have oc:cv.oneCell'=true:=by obtain⟨_,_,e⟩:=cS.shape;rw[e];rfl
 dsimp only at tS lS cS⊢
 have HSh:=Lib.hid (Tq o h1 h2 hsh)
 have HB:=Lib.hid hB
 clear hB hm hsh
 have hS0:=St.start [] w
 go_enter Tryz.func185,Tryz.ntmps185
 unfold cp
 dsimp only
 have hOne:∀v∈([.int .i64 o,.int .i64 x,.int .i64 y,.int .u64 (u:Int),.int .i64 hk,.int .i64 hn,.int .i64 jk,.int .i64 jn,.bool n1,.bool n2,tv,lv,.int .i64 bk,.int .i64 vk,.bool vn,.int .i64 wk,.int .i64 wn,.int .i64 bn,cv]:List Value),v.oneCell'=true:=by
  intro v hv
  simp only[List.mem_cons,List.not_mem_nil,or_false]at hv
  rcases hv with h|h|h|h|h|h|h|h|h|h|h|h|h|h|h|h|h|h|h<;>subst h<;>first|rfl|assumption
 clear ot ol oc
 go_wp2_with fail
 have hbox:=bB.new w ([.int .i64 o,.int .i64 x,.int .i64 y,.int .u64 (u:Int),.int .i64 hk,.int .i64 hn,.int .i64 jk,.int .i64 jn,.bool n1,.bool n2,tv,lv,.int .i64 bk,.int .i64 vk,.bool vn,.int .i64 wk,.int .i64 wn,.int .i64 bn,cv]:List Value) 177
 refine wp_region_held_drew (S:=fun w'=>w'.rangeAt w.heap.size 0 [.int .i64 o,.int .i64 x,.int .i64 y,.int .u64 (u:Int),.int .i64 hk,.int .i64 hn,.int .i64 jk,.int .i64 jn,.bool n1,.bool n2,tv,lv,.int .i64 bk,.int .i64 vk,.bool vn,.int .i64 wk,.int .i64 wn,.int .i64 bn,cv]) (by kernel_rfl) (bB.range (bB.drew hbox)) (fun hr=> ?_)
 refine wpAnyH_take (i:=0) (v:= .agg (List.toArray [.int .i64 o,.int .i64 x,.int .i64 y,.int .u64 (u:Int),.int .i64 hk,.int .i64 hn,.int .i64 jk,.int .i64 jn,.bool n1,.bool n2,tv,lv,.int .i64 bk,.int .i64 vk,.bool vn,.int .i64 wk,.int .i64 wn,.int .i64 bn,cv])) rfl (by kernel_rfl) (by kernel_rfl) (by kernel_rfl) (fun _ _ _ h=>h) (yieldsIf_load_mid rfl 177 _ rfl w.heap.size 0 rfl [.int .i64 o,.int .i64 x,.int .i64 y,.int .u64 (u:Int),.int .i64 hk,.int .i64 hn,.int .i64 jk,.int .i64 jn,.bool n1,.bool n2,tv,lv,.int .i64 bk,.int .i64 vk,.bool vn,.int .i64 wk,.int .i64 wn,.int .i64 bn,cv] _ (fun _ h=>h) eB rfl ff) hr ?_
 simp only[Act.put,List.setIfInBounds_toArray,List.set_cons_zero,List.set_cons_succ]
 refine wpAnyH_ready (rs:= [1]) (by kernel_rfl) (by simp) ?_
 refine AllReadyH.cons rfl (fun K hK=> ?_) AllReadyH.nil
 rw[if_pos (by rfl)]
 go_simp
 refine hK.out _ _ (by exact bB.range (bB.drew (bB.alloc hbox _))) (fun hr2=> ?_)
 clear hK K
 refine wpAnyH_take (i:=2) (v:= .bool true) rfl (by kernel_rfl) (by kernel_rfl) (by kernel_rfl) (fun _ _ _ h=>h) (Or.inl ⟨by rfl,fun _ _=>by go_simp⟩) hr2 ?_
 refine wpAnyH_ready (rs:= [3]) (by kernel_rfl) (by simp) ?_
 refine AllReadyH.cons rfl (fun K hK=> ?_) AllReadyH.nil
 rw[if_pos (by rfl)]
 refine Kn (ty:=177) rfl rfl rfl ?_
 (repeat(apply Exists.intro))
 refine⟨?_,?_,?_,?_,?_,?_⟩
 ·(exact aw)
 ·exact aK
 ·rfl
 ·exact ff
 ·exact hOne
 intro wN hS
 refine hK.out _ _ (by exact bB.range (hS.loc (.there .here))) (fun _=> ?_)
 clear hK K
 refine wpAnyH_done (by kernel_rfl) ?_ _
 clear hr hr2 hbox
 simp only[List.getElem_toArray,List.getElem_cons_succ,List.getElem_cons_zero,Act.put,List.setIfInBounds_toArray,List.set_cons_zero,List.set_cons_succ]
 obtain⟨ta,tc,rfl⟩:=tS'.shape
 obtain⟨la,lc,rfl⟩:=lS'.shape
 obtain⟨ca,cc,rfl⟩:=cS'.shape
 clear tS' lS' cS' hOne
 (try clear hQ);have hQ:=St.fq hS
 go_wp2_with first
  |(refine mW (ty:=177) rfl rfl rfl rfl eB rfl ?_ ?_;(focus (intro qb;cases qb;done));intro _;refine wpList_skip rfl (wpList_skip rfl (wpList_skip rfl (wpList_skip rfl ?_)));simp only[Act.put,List.setIfInBounds_toArray,List.set_cons_zero,List.set_cons_succ])
  |(refine mW (ty:=177) rfl rfl rfl rfl eB rfl ?_ ?_;rotate_left;(focus (intro qb;cases qb;done));intro _;refine Wj ?_;(try simp only[List.set_cons_zero,List.set_cons_succ]))
  |(refine mW (ty:=177) rfl rfl rfl rfl eB rfl ?_ ?_;rotate_left;(intro qb;cases qb;refine wpList_skip rfl (wpList_skip rfl (wpList_skip rfl (wpList_skip rfl ?_)));simp only[Act.put,List.setIfInBounds_toArray,List.set_cons_zero,List.set_cons_succ]);rotate_left;(intro qb;cases qb);refine Wj ?_;(try simp only[List.set_cons_zero,List.set_cons_succ]))
  |(go_at_call 233;(with_reducible refine(HSh.out _ ?_).mono ?_);(·apply St.gl7 (hg:=hg);(exact aw));rintro e w2 ⟨rfl,hF2⟩;(try clear hQ);refine cB (h:=by exact aw) hF2 fun hS hQ=> ?_)
  |(go_at_call 234;first|(with_reducible refine(jM _ x).mono ?_;rintro e w1 ⟨rfl,hF1⟩;generalize hbx:ev x=bx;have Hbx:=Lib.hid hbx;clear hbx;(try clear hQ);refine cB (h:=by exact aw) hF1 fun hS hQ=> ?_)|(with_reducible refine(jM _ y).mono ?_;rintro e w1 ⟨rfl,hF1⟩;generalize hbyy:ev y=byy;have Hbyy:=Lib.hid hbyy;clear hbyy;(try clear hQ);refine cB (h:=by exact aw) hF1 fun hS hQ=> ?_))
  |(go_at_call 235;(with_reducible refine(Qt [] _ _ ls ?_ hls).mono ?_);(·(apply St.sl (hs:=lS);(exact aw)));rintro e w1 ⟨rfl,hF1⟩;generalize hbi:ls.all ev=bi;have Hbi:=Lib.hid hbi;clear hbi;(try clear hQ);refine cB (h:=by exact aw) hF1 fun hS hQ=> ?_)
  |(go_at_call 237;(with_reducible refine(O7 [] _ _ ts ?_ hts).mono ?_);(·(apply St.sl (hs:=tS);(exact aw)));rintro e w1 ⟨rfl,hF1⟩;generalize hbv:ts.all aj=bv;have Hbv:=Lib.hid hbv;clear hbv;(try clear hQ);refine cB (h:=by exact aw) hF1 fun hS hQ=> ?_)
  |(go_at_call 239;(with_reducible refine(J8 [] _ _ cs ?_ hcs).mono ?_);(·(apply St.sl (hs:=cS);(exact aw)));rintro e w1 ⟨rfl,hF1⟩;generalize hbc:cs.all dm=bc;have Hbc:=Lib.hid hbc;clear hbc;(try clear hQ);refine cB (h:=by exact aw) hF1 fun hS hQ=> ?_)
  |(go_at_call 238;(with_reducible refine(AR _ ({kind:=bk,val:={kind:=vk,null:=vn,heap:={kind:=wk,n:=wn}},n:=bn}:bJ)).mono ?_);rintro e w1 ⟨rfl,hF1⟩;generalize hbk:cY ({kind:=bk,val:={kind:=vk,null:=vn,heap:={kind:=wk,n:=wn}},n:=bn}:bJ)=bk;have Hbk:=Lib.hid hbk;clear hbk;(try clear hQ);refine cB (h:=by exact aw) hF1 fun hS hQ=> ?_)
  |(go_at_call 236;first|(with_reducible refine(u6 _ ({kind:=hk,n:=hn}:aC)).mono ?_;rintro e w1 ⟨rfl,hF1⟩;generalize hbp:ja ({kind:=hk,n:=hn}:aC)=bp;have Hbp:=Lib.hid hbp;clear hbp;(try clear hQ);refine cB (h:=by exact aw) hF1 fun hS hQ=> ?_)|(with_reducible refine(u6 _ ({kind:=jk,n:=jn}:aC)).mono ?_;rintro e w1 ⟨rfl,hF1⟩;generalize hbq:ja ({kind:=jk,n:=jn}:aC)=bq;have Hbq:=Lib.hid hbq;clear hbq;(try clear hQ);refine cB (h:=by exact aw) hF1 fun hS hQ=> ?_))
  |(go_at_call 181;(refine(TZ HB ?_ ?_).mono ?_);(·exact⟨by first|exact Sl.nil _ _ _|(apply St.sl (hs:=tS);(exact aw)),by first|exact Sl.nil _ _ _|(apply St.sl (hs:=lS);(exact aw)),by first|exact Sl.nil _ _ _|(apply St.sl (hs:=cS);(exact aw))⟩);(·exact⟨Sl.nil _ _ _,Sl.nil _ _ _,Sl.nil _ _ _⟩);rintro e w9 ⟨b9,Hb9,rfl,hF9⟩;(try clear hQ);refine cB (h:=by exact aw) hF9 fun hS hQ=> ?_)
 all_goals go_ret
 all_goals refine⟨?_,by exact VO⟩
 all_goals rw[HB.out]
 all_goals(try rw[D1.out])
 all_goals(try rw[D2.out])
 all_goals(try rw[Hbx.out])
 all_goals(try rw[Hbyy.out])
 all_goals(try rw[Hbi.out])
 all_goals(try rw[Hbv.out])
 all_goals(try rw[Hbc.out])
 all_goals(try rw[Hbk.out])
 all_goals(try rw[Hbp.out])
 all_goals(try rw[Hbq.out])
 all_goals(try rw[Hb9.out])
 all_goals first|rfl|(simp;done)|(simp[*];done)
):p:=h
end Go.Proofs.YtpdlmdlkecnpgaaGreatDoor
