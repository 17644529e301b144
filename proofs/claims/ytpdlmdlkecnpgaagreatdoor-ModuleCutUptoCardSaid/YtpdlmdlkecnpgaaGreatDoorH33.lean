/- Texts: PutWB IbPutX PutWC MdRs. -/
import Derived.Test.YtpdlmdlkecnpgaaGreatDoorH0
import Derived.Test.YtpdlmdlkecnpgaaGreatDoorH13
import Derived.Test.YtpdlmdlkecnpgaaGreatDoorH26
import Derived.Test.YtpdlmdlkecnpgaaGreatDoorH9
import Derived.Test.YtpdlmdlkecnpgaaGreatDoorH32
import Derived.Shelf.Abstract
set_option linter.unusedSimpArgs false
set_option linter.unusedVariables false
namespace Go.Proofs.YtpdlmdlkecnpgaaGreatDoor
open Go.RowKit
theorem kb.ap {w w':World} {v v':Value} {t:bu} {hv pv rv fv:Value} (h:kb (Value.blk v) w t hv pv rv fv) (hA:Ap w v w' v'):kb (Value.blk v') w' t hv pv rv fv:=
 ⟨h.1.ap hA,h.2.1.ap hA,h.2.2.1.ap hA,h.2.2.2.ap hA⟩
def Kd (t:bu) (hv pv rv fv:Value):List Value:= [.bool t.final_,hv,.int .i64 t.comp.kind,pv,rv,fv]
theorem di.get {S:List Nat} {w:World}:∀{ts:List bu} {cs:List Value},di S w ts cs→∀(i:Nat) (t:bu),ts[i]? =some t→
 ∃hv pv rv fv,kb S w t hv pv rv fv∧∀r,r<6→cs[i*6+r]? =(Kd t hv pv rv fv)[r]?
 | [],_,_,i,t,ht=>by simp at ht
 |a::ts,_,⟨hv,pv,rv,fv,rest,e,h1,h2⟩,0,t,ht=>by
  subst e
  simp only[List.getElem?_cons_zero,Option.some.injEq]at ht
  subst ht
  refine⟨hv,pv,rv,fv,h1,fun r hr=> ?_⟩
  match r,hr with
  |0,_|1,_|2,_|3,_|4,_|5,_=>rfl
 |a::ts,_,⟨hv,pv,rv,fv,rest,e,h1,h2⟩,i+1,t,ht=>by
  subst e
  obtain⟨hv',pv',rv',fv',h3,h4⟩:=di.get h2 i t (by simpa using ht)
  refine⟨hv',pv',rv',fv',h3,fun r hr=> ?_⟩
  rw[←h4 r hr,show(i+1)*6+r=(i*6+r)+6 by omega]
  rfl
theorem Sl.sub_elem {S:List Nat} {w:World} {v:Value} {ts:List bu} {cs:List Value} (h:Sl S w 6 v ts.length cs) (hs:di S w ts cs) (i:Nat) (t:bu) (hi:ts[i]? =some t):
 ∃b off cap hv pv rv fv,v= .slice (some ⟨b,off,none⟩) ts.length cap∧b<w.heap.size∧b∉S∧kb S w t hv pv rv fv∧∀r,r<6→w.cell? ⟨b,off+(i*6+r),none⟩=(Kd t hv pv rv fv)[r]? :=by
 obtain⟨h1,h2,a,cap,rfl,h4,h5,hN,h6⟩:=h
 have hlt:i<ts.length:=(List.getElem?_eq_some_iff.1 hi).1
 obtain⟨hv,pv,rv,fv,h7,h8⟩:=hs.get i t hi
 rcases h6 with h6|⟨b,off,rfl,hn,hb,hc⟩
 ·omega
 ·refine⟨b,off,cap,hv,pv,rv,fv,rfl,hb,hn,h7,fun r hr=> ?_⟩
  rw[hc _ (by omega)]
  exact h8 r hr
theorem Pt (t:bu) (hok:t.ok) (hl:t.len≤1048576):(dg t).length≤16777344:=by
 obtain⟨o1,o2,o3,o4⟩:=hok
 unfold bu.len at hl
 have a1:=lC t.supers o1 (by omega)
 have a2:=it t.comp.params o2 (by omega)
 have a3:=it t.comp.results o3 (by omega)
 have a4:(ae bj t.comp.fields).length≤10+16*t.comp.fields.length:=by
  exact UH
 have a5:(t.comp.fields.head?.elim [] bj).length≤16:=by
  cases hf:t.comp.fields with
  |nil=>simp
  |cons a b=>exact nH a (o4 a (by simp[hf]))
 have e1:(if t.final_=false then 80::ae aZ t.supers else if 0<t.supers.length then 79::ae aZ t.supers else []).length≤11+16*t.supers.length:=by
  split
  ·simp;omega
  ·split
   ·simp;omega
   ·simp
 have e2:(if t.comp.kind=1 then 96::(ae bZ t.comp.params++ae bZ t.comp.results)else if t.comp.kind=2 then 95::ae bj t.comp.fields else 94::t.comp.fields.head?.elim [] bj).length≤38+16*(t.comp.params.length+t.comp.results.length+t.comp.fields.length):=by
  exact Ue
 unfold dg
 exact zV
set_option maxRecDepth 100000
set_option maxHeartbeats 1600000
theorem A9 {w:World} (v:Value) (hg:Gl (Value.blk v) w) (xs:List UInt8) (sv:Value) (ts:List bu) (cs:List Value) (h:Sl (Value.blk v) w 6 sv ts.length cs) (hs:di (Value.blk v) w ts cs)
 (hok:∀t,t∈ts→t.ok∧t.len≤1048576∧(t.comp.kind≠1→t.comp.kind≠2→0<t.comp.fields.length))
 (ho:cX w v xs) (hx:xs.length≤1048576) (hn:ts.length≤1048576):
 Calls Tryz.prog 129 #[v,sv,.func (.func 128) #[] #[]] w fun e w'=>∃v',e= .returned v'∧cX w' v' (xs++ae dg ts)∧Ap w v w' v':=by
 have hh:=h
 obtain⟨_,_,a,cap,rfl,_⟩:=h
 have hN:ts.length<18446744073709551616:=by omega
 have hlen:=bG ts.length hN
 have hb1:xs.length+(aI ts.length).length≤140737488355328:=by omega
 have hpl:∀i,((ts.take i).flatMap dg).length≤16777344*ts.length:=by
  intro i
  have h1:=j8 dg 16777344 (ts.take i) (fun t ht=>Pt t (hok t (List.mem_of_mem_take ht)).1 (hok t (List.mem_of_mem_take ht)).2.1)
  have h2:(ts.take i).length≤ts.length:=by rw[List.length_take];omega
  have:=Nat.mul_le_mul_left 16777344 h2
  omega
 go_enter Tryz.func129,Tryz.ntmps129
 go_wp2_with first|(go_at_call 85;refine(mZ ts.length _ hN).mono ?_;rintro e w2 ⟨v2,rfl,ho2,hN2,hF2⟩;have hs2:=ho2.sl (S':= []) (by simp);have hoo2:=bf.fr ho hF2 (by simp))|(at_builtin;refine dF rfl (.tmp 9) (.tmp 13) _ rfl _ _ _ rfl hoo2 _ _ _ rfl (hs2.src aB) hb1 ?_;intro v3 w3 hown3 hf3 hb3)
 have ho3:cX w3 v3 (xs++aI ts.length):=cX.app hown3
 have hA3:Ap w v w3 v3:=(Ap.fr0 hF2).trans (Ap.of hf3 hb3)
 go_loopw [0,17] (fun u n wr=>∃(i:Nat),n= .int .i64 i∧i≤ts.length∧cX wr u (xs++(aI ts.length++(ts.take i).flatMap dg))∧Ap w v wr u) (fun _ n _=>ts.length-(intOf n).toNat)
 case atStart=>exact⟨0,rfl,by omega,by simpa using ho3,hA3⟩
 case round=>
  obtain⟨i,rfl,hi,hoi,hAi⟩:=hrel
  have hF:=hAi.1
  by_cases hlt:i<ts.length
  ·obtain⟨t,ht⟩:∃t,ts[i]? =some t:=⟨ts[i],by simp[hlt]⟩
   obtain⟨b,off,cap2,hv,pv,rv,fv,hve,hb,hnS,hsr,hc⟩:=Sl.sub_elem hh hs i t ht
   injection hve with hv1 hv2 hv3
   subst hv1 hv3
   have hbw:b<wr.heap.size:=Nat.lt_of_lt_of_le hb hF.size
   have htm:t∈ts:=List.mem_of_getElem? ht
   obtain⟨hok1,hok2,hok3⟩:=hok t htm
   have hpi:=hpl i
   have hx2:(xs++(aI ts.length++(ts.take i).flatMap dg)).length+16*t.len+512≤70368744177664:=by rw[List.length_append,List.length_append];omega
   have e0:=(hF.cell hb hnS _).trans (hc 0 (by decide))
   have e1:=(hF.cell hb hnS _).trans (hc 1 (by decide))
   have e2:=(hF.cell hb hnS _).trans (hc 2 (by decide))
   have e3:=(hF.cell hb hnS _).trans (hc 3 (by decide))
   have e4:=(hF.cell hb hnS _).trans (hc 4 (by decide))
   have e5:=(hF.cell hb hnS _).trans (hc 5 (by decide))
   simp only[Nat.add_zero,←Nat.add_assoc,Kd,List.getElem?_cons_zero,List.getElem?_cons_succ]at e0 e1 e2 e3 e4 e5
   obtain⟨ha,hc,rfl⟩:=hsr.1.shape
   obtain⟨pa,pc,rfl⟩:=hsr.2.1.shape
   obtain⟨ra,rc,rfl⟩:=hsr.2.2.1.shape
   obtain⟨fa,fc,rfl⟩:=hsr.2.2.2.shape
   have hoa:=fun o=>cX.alloc hoi o
   have hAa:=fun o=>hAi.alloc o
   go_wp2_with (go_at_call 128;refine(wW _ (hg.ap (hAa _)) _ t _ _ _ _ (hsr.ap (hAa _)) (hoa _) hok1 hx2 hok3).mono ?_;rintro e w4 ⟨v4,rfl,ho4,hA4⟩)
   exact WJ
  ·exact WP
structure Dz (i:aa):Prop where
 ts:i.types.length≤1048576
 ls:i.labels.length≤1048576
 cs:i.catches.length≤1048576
 u:i.u<18446744073709551616
theorem C7 {w0 w:World} {G:List bt} {v:Value} {xs:List UInt8} (hS:St [] w0 w (.own 5 1 (v) (xs).length ((xs).map B)::G)) (hg:cq [] w0) (i:aa) (tv lv cv:Value) (hR:gR [] w0 i tv lv cv) (hx:xs.length≤17592186044416) (hm:dx i=true) (hs:Dz i):
 Calls Tryz.prog 193 #[v,.agg (cp i tv lv cv).toArray] w fun e w'=>∃v',e= .returned v'∧St [] w0 w' (.own 5 1 (v') (xs++aW i).length ((xs++aW i).map B)::G):=by
 obtain⟨o,x,y,u,⟨hk,hn⟩,⟨jk,jn⟩,n1,n2,ts,ls,⟨bk,⟨vk,vn,⟨wk,wn⟩⟩,bn⟩,cs⟩:=i
 obtain⟨h1,h2,h3,h4⟩:=hs
 dsimp only at h1 h2 h3 h4
 rcases fL o with h|(h|h)|h|h|h|h|h|h|h|h|h|h
 ·exact OH hS hg o x y u hk hn jk jn n1 n2 ts ls bk vk vn wk wn bn cs tv lv cv hR hx hm h1 h2 h3 h4 h
 ·exact OC hS hg o x y u hk hn jk jn n1 n2 ts ls bk vk vn wk wn bn cs tv lv cv hR hx hm h1 h2 h3 h4 h
 ·exact MX hS hg o x y u hk hn jk jn n1 n2 ts ls bk vk vn wk wn bn cs tv lv cv hR hx hm h1 h2 h3 h4 h
 ·exact MC hS hg o x y u hk hn jk jn n1 n2 ts ls bk vk vn wk wn bn cs tv lv cv hR hx hm h1 h2 h3 h4 h
 ·exact OT hS hg o x y u hk hn jk jn n1 n2 ts ls bk vk vn wk wn bn cs tv lv cv hR hx hm h1 h2 h3 h4 h
 ·exact OA hS hg o x y u hk hn jk jn n1 n2 ts ls bk vk vn wk wn bn cs tv lv cv hR hx hm h1 h2 h3 h4 h
 ·exact MW hS hg o x y u hk hn jk jn n1 n2 ts ls bk vk vn wk wn bn cs tv lv cv hR hx hm h1 h2 h3 h4 h
 ·exact KC hS hg o x y u hk hn jk jn n1 n2 ts ls bk vk vn wk wn bn cs tv lv cv hR hx hm h1 h2 h3 h4 h
 ·exact KM hS hg o x y u hk hn jk jn n1 n2 ts ls bk vk vn wk wn bn cs tv lv cv hR hx hm h1 h2 h3 h4 h
 ·exact Jh hS hg o x y u hk hn jk jn n1 n2 ts ls bk vk vn wk wn bn cs tv lv cv hR hx hm h1 h2 h3 h4 h
 ·exact LS hS hg o x y u hk hn jk jn n1 n2 ts ls bk vk vn wk wn bn cs tv lv cv hR hx hm h1 h2 h3 h4 h
 ·exact Nu hS hg o x y u hk hn jk jn n1 n2 ts ls bk vk vn wk wn bn cs tv lv cv hR hx hm h1 h2 h3 h4 h
 ·exact J4 hS hg o x y u hk hn jk jn n1 n2 ts ls bk vk vn wk wn bn cs tv lv cv hR hx hm h1 h2 h3 h4 h
theorem qA {h:aC} (k:ja h=true):(jt h).length≤12:=by
 have k:aj ⟨3,false,h⟩=true:=k
 have ok:=db k
 rw[ng k]
 exact mT _ ok.2.1 ok.2.2
theorem Gq {op:Int} (h0:0≤op):(xW op).length≤11:=by
 unfold xW
 split
 ·simp
 ·have:=az (op% 256) (by omega)
  simp only[List.length_cons];omega
theorem Ut {w:World} {v:Value} {op:Int} {Q:Ending→World→Prop} (h:∃S w0 G G' xs,St S w0 w G∧bg G (.own 5 1 (v) (xs).length ((xs).map B)) G'∧(0≤op∧op<65536)∧xs.length≤35184372088830∧∀v' w',St S w0 w' (.own 5 1 (v') (xs++xW op).length ((xs++xW op).map B)::G')→Q (.returned v') w'):Calls Tryz.prog 194 #[v,.int .i64 op] w Q:=by
 obtain⟨S,w0,G,G',xs,h1,h2,h3,h4,h5⟩:=h
 exact(Lj (h1.pick h2) op h3.1 h3.2 h4).mono fun e w' ⟨v',e1,e2⟩=>e1▸h5 v' w' e2
theorem Rc {w0 w:World} {v:Value} {i:aa} {tv lv cv:Value} {Q:Ending→World→Prop} (hg:cq [] w0) (hR:gR [] w0 i tv lv cv) (hm:dx i=true) (hs:Dz i) (h:∃G G' xs,St [] w0 w G∧bg G (.own 5 1 (v) (xs).length ((xs).map B)) G'∧xs.length≤17592186044416∧∀v' w',St [] w0 w' (.own 5 1 (v') (xs++aW i).length ((xs++aW i).map B)::G')→Q (.returned v') w'):Calls Tryz.prog 193 #[v,.agg (cp i tv lv cv).toArray] w Q:=by
 obtain⟨G,G',xs,h1,h2,h4,h5⟩:=h
 exact(C7 (h1.pick h2) hg i tv lv cv hR h4 hm hs).mono fun e w' ⟨v',e1,e2⟩=>e1▸h5 v' w' e2
set_option maxHeartbeats 3200000
theorem PG (hM:FZ) {w:World} (hg:cq [] w) (v:Value) (is:List aa) (ds:List Value) (h:Sl [] w 19 v is.length ds) (hs:dP [] w is ds) (hl:is.length≤549755813000) (hq:(al is).length≤17592186044000) (hwf:∀i,i∈is→WR i) (hsm:∀i,i∈is→Dz i):
 Calls Tryz.prog 132 #[v] w fun e w'=>∃v',e= .returned v'∧St [] w w' [.own 5 1 (v') (al is).length ((al is).map B)]:=by
 have hS:=St.start [] w
 have hh:=h
 have hl40:is.length≤1099511627776:=by omega
 have hl39:is.length≤549755813000:=hl
 obtain⟨va,vc,rfl⟩:=h.shape
 cases ha:is.all dx with
 |false=>
  have e:al is= []:=by unfold al;rw[ha];rfl
  rw[e]
  have Ha:=Lib.hid ha
  clear ha e hq
  go_enter Tryz.func132,Tryz.ntmps132
  go_wp2_with first|(go_at_call 192;(with_reducible refine(vl hM _ ?_ _ is ds ?_ ?_ hl40 hwf).mono ?_);(·apply St.gl7 (hg:=hg);(exact aw));(·(apply St.sl (hs:=h);(exact aw)));(·exact hS.inss hs);rintro e w2 ⟨rfl,hF2⟩;(try rw[Ha.out]);(try clear hQ);refine cB hF2 fun hS hQ=> ?_)
  go_ret
  exact⟨_,rfl,hS.dst (.nil rfl)⟩
 |true=>
  have Ha:=Lib.hid ha
  cases hn:jI is with
  |false=>
   have e:al is= []:=by unfold al;rw[ha,hn];rfl
   rw[e]
   have Hn:=Lib.hid hn
   clear ha hn e hq
   go_enter Tryz.func132,Tryz.ntmps132
   go_wp2_with first|(go_at_call 192;(with_reducible refine(vl hM _ ?_ _ is ds ?_ ?_ hl40 hwf).mono ?_);(·apply St.gl7 (hg:=hg);(exact aw));(·(apply St.sl (hs:=h);(exact aw)));(·exact hS.inss hs);rintro e w2 ⟨rfl,hF2⟩;(try rw[Ha.out]);(try clear hQ);refine cB hF2 fun hS hQ=> ?_)|(go_at_call 186;(with_reducible refine(qB _ _ is ds ?_ ?_ hl39).mono ?_);(·(apply St.sl (hs:=h);(exact aw)));(·exact hS.inss hs);rintro e w2 ⟨rfl,hF2⟩;(try rw[Hn.out]);(try clear hQ);refine cB hF2 fun hS hQ=> ?_)
   go_ret
   exact⟨_,rfl,hS.dst (.nil rfl)⟩
  |true=>
   have e:al is=is.flatMap de++ [UInt8.ofNat (11:Int).toNat]:=by unfold al;rw[ha,hn];rfl
   rw[e]at hq⊢
   have HQ:=Lib.hid hq
   have Hn:=Lib.hid hn
   clear ha hn e hq
   go_enter Tryz.func132,Tryz.ntmps132
   go_wp2_with first|(go_at_call 192;(with_reducible refine(vl hM _ ?_ _ is ds ?_ ?_ hl40 hwf).mono ?_);(·apply St.gl7 (hg:=hg);(exact aw));(·(apply St.sl (hs:=h);(exact aw)));(·exact hS.inss hs);rintro e w2 ⟨rfl,hF2⟩;(try rw[Ha.out]);(try clear hQ);refine cB hF2 fun hS hQ=> ?_)|(go_at_call 186;(with_reducible refine(qB _ _ is ds ?_ ?_ hl39).mono ?_);(·(apply St.sl (hs:=h);(exact aw)));(·exact hS.inss hs);rintro e w2 ⟨rfl,hF2⟩;(try rw[Hn.out]);(try clear hQ);refine cB hF2 fun hS hQ=> ?_)
   go_loopw [3,16] (fun u n wr=>∃(k:Nat),n= .int .i64 k∧k≤is.length∧St [] w wr [.own 5 1 (u) ((is.take k).flatMap de).length (((is.take k).flatMap de).map B)]) (fun _ n _=>is.length-(intOf n).toNat)
   case atStart=>exact⟨0,rfl,by omega,hS.dst (.nil rfl)⟩
   case round=>
    obtain⟨k,rfl,hk2,hS⟩:=hrel
    have lK:((is.take k).flatMap de).length≤17592186044000:=by
     have h1:=HQ.out
     have h2:is.flatMap de=(is.take k).flatMap de++(is.drop k).flatMap de:=by rw[←List.flatMap_append,List.take_append_drop]
     rw[h2]at h1
     simp only[List.length_append]at h1
     omega
    by_cases hlt:k<is.length
    ·obtain⟨i,hi⟩:∃t,is[k]? =some t:=⟨is[k],by simp[hlt]⟩
     have hmem:=List.mem_of_getElem? hi
     have hmi:=List.all_eq_true.1 Ha.out i hmem
     have hsi:=hsm i hmem
     have hop:=ed (cU hmi)
     have lI:=Gq hop.1
     have hop1:0≤i.op∧i.op<65536:=by have:=hop.1;have:=hop.2.1;omega
     obtain⟨b,off,cap2,tv,lv,cv,hv,hb,hnS,hR,hc⟩:=Sl.ins_elem hh hs k i hi
     injection hv with hv1 hv2 hv3
     subst hv1 hv3
     have hbw:b<wr.heap.size:=Nat.lt_of_lt_of_le hb hS.fr.size
     have hc2:∀r,r<19→wr.cell? ⟨b,off+(k*19+r),none⟩=(cp i tv lv cv)[r]? :=fun r hr=>(hS.fr.cell hb (by simp) _).trans (hc r hr)
     obtain⟨ta,tc,rfl⟩:=hR.1.shape
     obtain⟨la,lc,rfl⟩:=hR.2.1.shape
     obtain⟨ca,cc,rfl⟩:=hR.2.2.shape
     have hRow:wr.rangeAt b (off+k*19) (cp i (.slice ta i.types.length tc) (.slice la i.labels.length lc) (.slice ca i.catches.length cc)):=fun r v hv=>by
      rw[Nat.add_assoc,hc2 r (List.getElem?_eq_some_iff.1 hv).1]
      exact hv
     have hOne:∀v∈cp i (.slice ta i.types.length tc) (.slice la i.labels.length lc) (.slice ca i.catches.length cc),v.oneCell'=true:=by simp[cp,Value.oneCell']
     have e:(is.take (k+1)).flatMap de=(is.take k).flatMap de++xW i.op++aW i:=by
      rw[List.take_add_one,hi];simp[de]
     have E:=Lib.hid e
     clear e hi hc hnS hc2 hop
     go_wp2_with first|(refine bC (ty:=177) rfl rfl rfl eB rfl ?_;(repeat(apply Exists.intro));refine⟨?_,?_,?_,?_⟩;(·exact aw);(·(try simp only[World.size_alloc,World.size_setCell,ay,ar]);apply eD.elem;exact hRow);(·exact ff))|(refine cd (ty:=177) rfl rfl rfl rfl ?_;(repeat(apply Exists.intro));refine⟨?_,?_,?_,?_,?_,?_⟩;(·exact aw);(·exact aK);(·rfl);(·exact ff);(·exact hOne);intro wN hS;(try clear hQ);have hQ:=St.fq hS)
     have hbox:bB _ wr.heap.size (cp i (.slice ta i.types.length tc) (.slice la i.labels.length lc) (.slice ca i.catches.length cc)) 177:=hS.loc (by exact aK)
     refine wp_region_held_drew (S:=fun w'=>w'.rangeAt wr.heap.size 0 (cp i (.slice ta i.types.length tc) (.slice la i.labels.length lc) (.slice ca i.catches.length cc))) (by kernel_rfl) (bB.range (bB.drew hbox)) (fun hr=> ?_)
     have hS:=hS.drew
     refine wpAnyH_take (i:=0) (v:=u3) rfl (by kernel_rfl) (by kernel_rfl) (by kernel_rfl) (fun _ _ _ h=>h) (Or.inl ⟨by rfl,fun _ _=>by go_simp⟩) hr ?_
     simp only[Act.put,List.setIfInBounds_toArray,List.set_cons_zero,List.set_cons_succ]
     refine wpAnyH_take (i:=1) (v:= .pointer (some ⟨wr.heap.size,0,none⟩)) rfl (by kernel_rfl) (by kernel_rfl) (by kernel_rfl) (fun _ _ _ h=>h) (Or.inl ⟨by rfl,fun _ _=>by go_simp⟩) hr ?_
     simp only[Act.put,List.setIfInBounds_toArray,List.set_cons_zero,List.set_cons_succ]
     refine wpAnyH_take (i:=2) (v:= .int .i64 i.op) rfl (by kernel_rfl) (by kernel_rfl) (by kernel_rfl) (fun _ _ _ h=>h) (Or.inl ⟨by rfl,fun w' hw'=>by
      have hc:w'.cell? ⟨wr.heap.size,0,none⟩=some (.int .i64 i.op):=hw' 0 _ rfl
      go_simp⟩) hr ?_
     simp only[Act.put,List.setIfInBounds_toArray,List.set_cons_zero,List.set_cons_succ]
     refine wpAnyH_take (i:=4) (v:= .agg (List.toArray (cp i (.slice ta i.types.length tc) (.slice la i.labels.length lc) (.slice ca i.catches.length cc)))) rfl (by kernel_rfl) (by kernel_rfl) (by kernel_rfl) (fun _ _ _ h=>h) (yieldsIf_load_mid rfl 177 _ rfl wr.heap.size 0 rfl (cp i (.slice ta i.types.length tc) (.slice la i.labels.length lc) (.slice ca i.catches.length cc)) _ (fun _ h=>h) eB rfl ff) hr ?_
     simp only[Act.put,List.setIfInBounds_toArray,List.set_cons_zero,List.set_cons_succ]
     refine wpAnyH_ready (rs:= [3]) (by kernel_rfl) (by simp) ?_;refine AllReadyH.cons rfl (fun K hK=> ?_) AllReadyH.nil;rw[if_pos (by rfl)];go_simp
     refine Ut ?_
     (repeat(apply Exists.intro))
     refine⟨?_,?_,?_,?_,?_⟩
     ·(exact aw)
     ·exact aK
     ·exact hop1
     ·(exact bS)
     intro vN wN hS
     refine hK.out _ _ (by exact bB.range (hS.loc (by exact aK))) (fun hr=> ?_);clear hK K
     refine wpAnyH_ready (rs:= [5]) (by kernel_rfl) (by simp) ?_;refine AllReadyH.cons rfl (fun K hK=> ?_) AllReadyH.nil;rw[if_pos (by rfl)];go_simp
     refine Rc hg hR hmi hsi ?_
     (repeat(apply Exists.intro))
     refine⟨?_,?_,?_,?_⟩
     ·(exact aw)
     ·exact aK
     ·(exact bS)
     intro vM wM hS
     refine hK.out _ _ (by exact bB.range (hS.loc (by exact aK))) (fun hr=> ?_);clear hK K
     refine wpAnyH_take (i:=6) (v:=vM) rfl (by kernel_rfl) (by kernel_rfl) (by kernel_rfl) (fun _ _ _ h=>h) (Or.inl ⟨by rfl,fun _ _=>by go_simp⟩) hr ?_
     refine wpAnyH_done (by kernel_rfl) ?_ _
     clear hr hbox
     simp only[Act.put,List.setIfInBounds_toArray,List.set_cons_zero,List.set_cons_succ]
     go_wp2
     exact Xx
    ·obtain rfl:k=is.length:=by omega
     rw[List.take_length]at hS lK
     go_wp2_with first|(at_builtin;(try clear hQ);refine wb fun vN wN hS hQ=> ?_)
     go_ret
     exact⟨vN,rfl,hS.sel (by exact ic)⟩
theorem xS {f:ey} (h:bM f=true):f.val.heap.ok:=by
 unfold bM at h
 split at h
 ·exact db h
 ·split at h
  ·simp only[decide_eq_true_eq]at h
   rw[h]
   unfold aC.ok
   simp
  ·cases h
theorem t0 {t:bu} (h:bP t=true):t.ok∧(t.comp.kind≠1→t.comp.kind≠2→0<t.comp.fields.length):=by
 unfold bP at h
 simp only[Bool.and_eq_true,List.all_eq_true]at h
 obtain⟨⟨h1,⟨h2,h3⟩,h4⟩,h5⟩:=h
 refine⟨⟨fun x hx=> ?_,fun x hx=>db (h2 x hx),fun x hx=>db (h3 x hx),fun x hx=>xS (h4 x hx)⟩,fun k1 k2=> ?_⟩
 ·have:=h1 x hx
  simp only[bQ,decide_eq_true_eq]at this
  omega
 ·rw[if_neg k1,if_neg k2]at h5
  split at h5
  ·simp at h5;omega
  ·cases h5
theorem Du {w:World} (hg:Gl [] w) (sv:Value) (ts:List bu) (cs:List Value) (h:Sl [] w 6 sv ts.length cs) (hs:di [] w ts cs)
 (hl:∀t,t∈ts→t.len≤1048576) (hn:ts.length≤1048576):
 Calls Tryz.prog 79 #[sv] w fun e w'=>∃v',e= .returned v'∧cX w' v' (qO ts)∧jS w v'∧Fr [] w w':=by
 have hh:=h
 obtain⟨_,_,a,cap,rfl,_⟩:=h
 have hsz:=fun o=>World.size_alloc w o
 go_enter Tryz.func79,Tryz.ntmps79
 go_wp2
 go_loopw [7] (fun n wr=>∃(i:Nat),n= .int .i64 i∧i≤ts.length∧Fr [] w wr∧Hid ((ts.take i).all bP=true)) (fun n _=>ts.length-(intOf n).toNat)
 case atStart=>exact⟨0,rfl,by omega,Fr.refl _ _,Lib.hid rfl⟩
 case round=>
  obtain⟨i,rfl,hi,hF,hall⟩:=hrel
  by_cases hlt:i<ts.length
  ·obtain⟨t,ht⟩:∃t,ts[i]? =some t:=⟨ts[i],by simp[hlt]⟩
   obtain⟨b,off,cap2,hv,pv,rv,fv,hve,hb,hnS,hsr,hc⟩:=Sl.sub_elem hh hs i t ht
   injection hve with hv1 hv2 hv3
   subst hv1 hv3
   have hbw:b<wr.heap.size:=Nat.lt_of_lt_of_le hb hF.size
   have htm:t∈ts:=List.mem_of_getElem? ht
   have hl4:=hl t htm
   have htl:=Lib.hid hl4
   have hl4:t.supers.length≤1099511627776∧t.comp.params.length≤1099511627776∧t.comp.results.length≤1099511627776∧t.comp.fields.length≤1099511627776:=by
    unfold bu.len at hl4
    omega
   have e0:=(hF.cell hb hnS _).trans (hc 0 (by decide))
   have e1:=(hF.cell hb hnS _).trans (hc 1 (by decide))
   have e2:=(hF.cell hb hnS _).trans (hc 2 (by decide))
   have e3:=(hF.cell hb hnS _).trans (hc 3 (by decide))
   have e4:=(hF.cell hb hnS _).trans (hc 4 (by decide))
   have e5:=(hF.cell hb hnS _).trans (hc 5 (by decide))
   simp only[Nat.add_zero,←Nat.add_assoc,Kd,List.getElem?_cons_zero,List.getElem?_cons_succ]at e0 e1 e2 e3 e4 e5
   obtain⟨ha,hc,rfl⟩:=hsr.1.shape
   obtain⟨pa,pc,rfl⟩:=hsr.2.1.shape
   obtain⟨ra,rc,rfl⟩:=hsr.2.2.1.shape
   obtain⟨fa,fc,rfl⟩:=hsr.2.2.2.shape
   have hfo:=fun o=>hF.alloc o
   have hsr2:=fun o=>hsr.fr (hfo o) (by simp)
   go_wp2_with (go_at_call 59;refine(rP [] _ t _ _ _ _ (hsr2 _) hl4).mono ?_;rintro e w2 ⟨rfl,hF2⟩;generalize hpb:bP t=pb;have Hpb:=Lib.hid hpb;clear hpb)
   ·have hne:qO ts= []:=by
     unfold qO
     rw[if_neg]
     intro hc
     have:=List.all_eq_true.1 hc t htm
     rw[Hpb.out]at this
     simp_all
    go_ret
    exact⟨_,rfl,by rw[hne];exact cX.nil _,jS.nil _,(hfo _).trans hF2⟩
   ·go_roundw
    case rel=>
     refine⟨i+1,by go_num,by omega,(hfo _).trans hF2,Lib.hid ?_⟩
     rw[pr ts i t ht,List.all_append,hall.out]
     have:=Hpb.out
     simp_all
    case measure=>simp[intOf];omega
  ·have hk:i=ts.length:=by omega
   subst hk
   have hallP:ts.all bP=true:=by simpa using hall.out
   have hP:=fun t ht=>t0 (List.all_eq_true.1 hallP t ht)
   have HallP:=Lib.hid hallP
   clear hallP hall
   have hgr:=hg.fr hF (by simp)
   by_cases h0:ts.length=0
   ·have hts:ts= []:=List.length_eq_zero_iff.1 h0
    subst hts
    go_wp2
    go_ret
    exact⟨_,rfl,by simpa [qO]using cX.nil _,jS.nil _,hF⟩
   ·have z0:((ts.length:Int)==0)=false:=by simp;intro hc;subst hc;simp at h0
    by_cases h1:ts.length=1
    ·obtain⟨t,rfl⟩:∃t,ts= [t]:=by
      match ts,h1 with
      | [t],_=>exact⟨t,rfl⟩
     obtain⟨b,off,cap2,hv,pv,rv,fv,hve,hb,hnS,hsr,hc⟩:=Sl.sub_elem hh hs 0 t rfl
     injection hve with hv1 hv2 hv3
     subst hv1 hv3
     have e0:=(hF.cell hb hnS _).trans (hc 0 (by decide))
     have e1:=(hF.cell hb hnS _).trans (hc 1 (by decide))
     have e2:=(hF.cell hb hnS _).trans (hc 2 (by decide))
     have e3:=(hF.cell hb hnS _).trans (hc 3 (by decide))
     have e4:=(hF.cell hb hnS _).trans (hc 4 (by decide))
     have e5:=(hF.cell hb hnS _).trans (hc 5 (by decide))
     simp only[Nat.zero_mul,Nat.zero_add,Nat.add_zero,Kd,List.getElem?_cons_zero,List.getElem?_cons_succ]at e0 e1 e2 e3 e4 e5
     obtain⟨ha,hc,rfl⟩:=hsr.1.shape
     obtain⟨pa,pc,rfl⟩:=hsr.2.1.shape
     obtain⟨ra,rc,rfl⟩:=hsr.2.2.1.shape
     obtain⟨fa,fc,rfl⟩:=hsr.2.2.2.shape
     obtain⟨hk1,hk2⟩:=hP t (by simp)
     have hlt:=hl t (by simp)
     have hx2:([]:List UInt8).length+16*t.len+512≤70368744177664:=by simp;omega
     have hpr:qO [t]= []++dg t:=by unfold qO;rw[if_pos HallP.out];rfl
     have Hpr:=Lib.hid hpr
     have Hh:=Lib.hid hh
     have Hs:=Lib.hid hs
     have Hl:=Lib.hid hl
     clear hpr hP hh hs hl h0 z0 h1 hn
     go_wp2_with (go_at_call 128;refine(wW (.slice none 0 0) hgr [] t _ _ _ _ (hsr.fr hF (by simp)) (cX.nil _) hk1 hx2 hk2).mono ?_;rintro e w4 ⟨v4,rfl,ho4,hA4⟩)
     go_ret
     exact⟨v4,rfl,by rw[Hpr.out];exact ho4,fun b hb=>(hA4.2 b hb).elim (fun h=>by simp[Value.blk]at h) (fun h=>Nat.le_trans hF.size h),hF.trans hA4.1⟩
    ·have z1:((ts.length:Int)==1)=false:=by simp;omega
     have hszr:=fun o=>World.size_alloc wr o
     have hpr:qO ts= [78]++ae dg ts:=by
      unfold qO
      rw[if_pos HallP.out]
      match ts,h0,h1 with
      | [],h0,_=>simp at h0
      | [t],_,h1=>simp at h1
      |a::b::c,_,_=>rfl
     have hO:cX (wr.alloc (.cells [.int .u8 78].toArray 5)) (.slice (some ⟨wr.heap.size,0,none⟩) 1 1) [78]:=bf.made 5 1 1 [B 78] (by simp) rfl (by intro u hu;simp at hu;subst hu;rfl) (by decide)
     have hf1:Fr [] w (wr.alloc (.cells [.int .u8 78].toArray 5)):=hF.alloc _
     have hnb:∀(b:Nat),b<w.heap.size→b∈Value.blk (.slice (some ⟨wr.heap.size,0,none⟩) 1 1)→b∈([]:List Nat):=by
      intro b hb hm
      simp[Value.blk]at hm
      have:=hF.size
      omega
     have hSr:Sl (Value.blk (.slice (some ⟨wr.heap.size,0,none⟩) 1 1)) (wr.alloc (.cells [.int .u8 78].toArray 5)) 6 (.slice a ts.length cap) ts.length cs:=(hh.sub hnb).fr hf1 (by simp)
     have hsr:di (Value.blk (.slice (some ⟨wr.heap.size,0,none⟩) 1 1)) (wr.alloc (.cells [.int .u8 78].toArray 5)) ts cs:=di.fr hf1 (by simp) (di.sub hnb hs)
     have hgx:Gl (Value.blk (.slice (some ⟨wr.heap.size,0,none⟩) 1 1)) (wr.alloc (.cells [.int .u8 78].toArray 5)):=(hg.sub hnb).fr hf1 (by simp)
     have hokA:∀t,t∈ts→t.ok∧t.len≤1048576∧(t.comp.kind≠1→t.comp.kind≠2→0<t.comp.fields.length):=fun t ht=>⟨(hP t ht).1,hl t ht,(hP t ht).2⟩
     have Hpr:=Lib.hid hpr
     clear hpr hP hh hs hl h0 h1
     go_wp2_with (go_at_call 129;refine(A9 _ hgx [78] _ ts cs hSr hsr hokA hO (by decide) hn).mono ?_;rintro e w4 ⟨v4,rfl,ho4,hA4⟩)
     go_ret
     refine⟨v4,rfl,by rw[Hpr.out];exact ho4,fun b hb=>(hA4.2 b hb).elim (fun h=>by simp[Value.blk]at h;have:=hF.size;omega) (fun h=>by have:=hf1.size;omega),?_⟩
     exact hf1.then hA4.1 (by intro k hk;simp[Value.blk]at hk;right;have:=hF.size;omega)
theorem oM {id:Nat} (hid:id=0∨cr id≠none):id=0∨id=1∨id=2∨id=3∨id=4∨id=5∨id=13∨id=6∨id=7∨id=8∨id=9∨id=12∨id=10∨id=11:=by
 rcases hid with h|h
 ·exact .inl h
 ·refine Classical.byContradiction fun hn=>h ?_
  unfold cr
  rw[if_neg (by omega),if_neg (by omega),if_neg (by omega),if_neg (by omega),if_neg (by omega),if_neg (by omega),if_neg (by omega),if_neg (by omega),if_neg (by omega),if_neg (by omega),if_neg (by omega),if_neg (by omega),if_neg (by omega)]
theorem Rq {w0 w:World} {lb rb lc cb:Nat} {V:LV} {L:bT} {bv cv:Value} {bs:List UInt8} (id:Nat) (hid:id=0∨cr id≠none) (hL:vB w0 w lb rb V L) (h:Rd (V.S rb lb) w rb bv bs ah) (hg:cq (V.S rb lb) w) (hsm:bs.length≤274877906944) (hmf:L.m.funcs.length≤549755813888)
 (hlc:cE (V.S rb lb) w (fun w=>w.cell? ⟨lc,0,none⟩=some (.pointer (some ⟨lb,0,none⟩)))) (hct:cE (V.S rb lb) w (PY cb cv bs)):
 ∃F fi ca,pY id lb lc cb= .func (.func F) fi ca∧(∀args w,(callFunc F args).run Tryz.prog w= .ok (.enter F args) w)∧Calls Tryz.prog F (fi.push (.pointer (some ⟨rb,0,none⟩))++ca) w (fQ w0 V.xo lb rb bv bs (eC id bs L)):=by
 have hc:=oM hid
 rcases hc with rfl|rfl|rfl|rfl|rfl|rfl|rfl|rfl|rfl|rfl|rfl|rfl|rfl|rfl
 ·exact⟨_,_,_,rfl,enters_of Tryz.func170 (by kernel_rfl) rfl,(PP h rfl).mono fun e w' hh=>⟨hh.1,V,rfl,(hL.g.step hh.2.2 (fun _ h=>h)).t,hh.2.1⟩⟩
 ·exact⟨_,_,_,rfl,enters_of Tryz.func137 (by kernel_rfl) rfl,Vc ⟨hL,h,hg,hsm,hlc⟩⟩
 ·exact⟨_,_,_,rfl,enters_of Tryz.func140 (by kernel_rfl) rfl,Vm ⟨hL,h,hg,hsm,hlc⟩⟩
 ·exact⟨_,_,_,rfl,enters_of Tryz.func143 (by kernel_rfl) rfl,VZ ⟨hL,h,hg,hsm,hlc⟩⟩
 ·exact⟨_,_,_,rfl,enters_of Tryz.func146 (by kernel_rfl) rfl,U2 ⟨hL,h,hg,hsm,hlc⟩ hct⟩
 ·exact⟨_,_,_,rfl,enters_of Tryz.func150 (by kernel_rfl) rfl,VH ⟨hL,h,hg,hsm,hlc⟩⟩
 ·exact⟨_,_,_,rfl,enters_of Tryz.func153 (by kernel_rfl) rfl,WC ⟨hL,h,hg,hsm,hlc⟩⟩
 ·exact⟨_,_,_,rfl,enters_of Tryz.func156 (by kernel_rfl) rfl,Vd ⟨hL,h,hg,hsm,hlc⟩⟩
 ·exact⟨_,_,_,rfl,enters_of Tryz.func159 (by kernel_rfl) rfl,VS ⟨hL,h,hg,hsm,hlc⟩⟩
 ·exact⟨_,_,_,rfl,enters_of Tryz.func162 (by kernel_rfl) rfl,V1 ⟨hL,h,hg,hsm,hlc⟩⟩
 ·exact⟨_,_,_,rfl,enters_of Tryz.func164 (by kernel_rfl) rfl,SG ⟨hL,h,hg,hsm,hlc⟩⟩
 ·exact⟨_,_,_,rfl,enters_of Tryz.func167 (by kernel_rfl) rfl,Sa ⟨hL,h,hg,hsm,hlc⟩⟩
 ·exact⟨_,_,_,rfl,enters_of Tryz.func168 (by kernel_rfl) rfl,KL hL h hg hsm hmf⟩
 ·exact⟨_,_,_,rfl,enters_of Tryz.func169 (by kernel_rfl) rfl,Jj hL h hg hsm⟩
theorem Bi (id:Nat) (hid:id=0∨cr id≠none) {w:World} {lb:Nat} {cv:Value} (hcv:cv.oneCell'=true):Calls Tryz.prog 105 #[.pointer (some ⟨lb,0,none⟩),.int .u8 (id:Int),cv] w fun e w'=>
 e= .returned (pY id lb w.heap.size (w.heap.size+1))∧w'=(w.alloc (.cells #[.pointer (some ⟨lb,0,none⟩)] 185)).alloc (.cells #[cv] 34):=by
 have hc:=oM hid
 rcases hc with rfl|rfl|rfl|rfl|rfl|rfl|rfl|rfl|rfl|rfl|rfl|rfl|rfl|rfl
 ·exact GV hcv
 ·exact KE hcv
 ·exact I9 hcv
 ·exact Ik hcv
 ·exact KN hcv
 ·exact K2 hcv
 ·exact DW hcv
 ·exact I3 hcv
 ·exact Hu hcv
 ·exact JI hcv
 ·exact JZ hcv
 ·exact D8 hcv
 ·exact Er hcv
 ·exact ED hcv
theorem CQ:∀id∈List.range 256,fj [1,2,3,4,5,13,6,7,8,9,12,10,11] (UInt8.ofNat id)=(match cr id with|none=>(-1:Int)|some p=>(p:Int)):=by decide+kernel
theorem MM (id p:Nat) (h:cr id=some p):p≤12:=by
 have hc:=oM (id:=id) (.inr (by rw[h];simp))
 rcases hc with rfl|rfl|rfl|rfl|rfl|rfl|rfl|rfl|rfl|rfl|rfl|rfl|rfl|rfl
 all_goals(simp[cr]at h;try omega)
section
variable {b : List UInt8} {f at_ : Nat} {last : Int} {L : bT} {id v nx er : Nat}
theorem Me (h:b.length≤at_):fM b (f+1) last at_ L=((L,if eP L then 83 else 0,if eP L then at_ else 0):bT×Int×Int):=by rw[fM,if_pos h]
theorem Kq (h:at_<b.length) (h0:b.getD at_ 0≠0) (hp:cr (b.getD at_ 0).toNat=none):fM b (f+1) last at_ L=((L,60,at_):bT×Int×Int):=by rw[fM,if_neg (by omega),if_pos ⟨h0,hp⟩]
theorem Fg {p:Nat} (h:at_<b.length) (h0:b.getD at_ 0≠0) (hp:cr (b.getD at_ 0).toNat=some p) (hl:(p:Int)≤last):fM b (f+1) last at_ L=((L,81,at_):bT×Int×Int):=by
 rw[fM,if_neg (by omega),if_neg (fun h=>by rw[hp]at h;cases h.2),if_pos ⟨h0,by rw[hp];exact hl⟩]
theorem Rj {l2:Int} (h:at_<b.length) (hq:ak b (at_+1) 32 false=(v,nx,er)) (hl:(b.getD at_ 0=0∧l2=last)∨(b.getD at_ 0≠0∧∃p,cr (b.getD at_ 0).toNat=some p∧last< (p:Int)∧l2=p)):
 fM b (f+1) last at_ L=((if er≠0 then(L,er,at_+1)else if b.length-nx<v then(L,10,at_+1)else
  if (jF ((b.drop nx).take v) (eC (b.getD at_ 0).toNat ((b.drop nx).take v) L).2).err≠0 then
   ((eC (b.getD at_ 0).toNat ((b.drop nx).take v) L).1,(jF ((b.drop nx).take v) (eC (b.getD at_ 0).toNat ((b.drop nx).take v) L).2).err,SR (nx+(jF ((b.drop nx).take v) (eC (b.getD at_ 0).toNat ((b.drop nx).take v) L).2).errAt))
  else fM b f l2 (nx+v) (eC (b.getD at_ 0).toNat ((b.drop nx).take v) L).1):bT×Int×Int):=by
 rw[fM,hq]
 simp only
 rw[if_neg (by omega)]
 rcases hl with⟨h0,rfl⟩|⟨h0,p,hp,hlp,rfl⟩
 ·rw[if_neg (fun h=>h.1 h0),if_neg (fun h=>h.1 h0),if_pos h0]
 ·rw[if_neg (fun h=>by rw[hp]at h;cases h.2),if_neg (fun h=>by have h2:=h.2;rw[hp]at h2;simp only[Option.getD_some]at h2;omega),if_neg h0]
  simp only[hp,Option.getD_some]
end
end Go.Proofs.YtpdlmdlkecnpgaaGreatDoor
