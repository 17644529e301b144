/- Texts: MdB1. -/
import Derived.Test.YtpdlmdlkecnpgaaGreatDoorH0
import Derived.Test.YtpdlmdlkecnpgaaGreatDoorH43
import Derived.Test.YtpdlmdlkecnpgaaGreatDoorH41
set_option linter.unusedSimpArgs false
set_option linter.unusedVariables false
namespace Go.Proofs.YtpdlmdlkecnpgaaGreatDoor
open Go.RowKit
theorem gx {P:Program} {w:World} {ops:Array Oper} {rest:List Oper} {o:Oper} {a:Act} {Q:Exit→Act→World→Prop} {ty:TypeId} {x:Operand} {b n j:Nat} {d:TypeDesc} {g:Bool} (hgd:o.guard=some (j,g)) (hj:yielded ops a.tmps j=some g) (ho:o.op= .load ty x) (hx:a.eval x= .pointer (some ⟨b,n,none⟩)) (hu:P.underlying ty=some d) (hd:d.isRow=true)
 (h:∃S w0 G cs,St S w0 w G∧eD G w b n cs∧(P.info? ty).map (·.size)=some cs.length∧wpList P ops Q rest (a.put o.dst (.agg cs.toArray)) w):wpList P ops Q (o::rest) a w:=by
 have hw:Region.wanted o (yielded ops a.tmps)=true:=by simp[Region.wanted,hgd,hj]
 obtain⟨S,w0,G,cs,hst,hr,hi,h⟩:=h
 exact wpList_step fun K hK=>by
  rw[if_pos hw]
  exact wp_load_mid ty x ho b n hx cs d (hr.range hst) hu hd hi (hK _ _ h)
theorem yZ (w:World):cI [.slice none 0 0,.slice none 0 0,.slice none 0 0,.slice none 0 0,.slice none 0 0,.slice none 0 0,.slice none 0 0,.slice none 0 0,.int .i64 (-1),.slice none 0 0,.slice none 0 0] aV.none w:=
 ⟨_,_,_,_,_,_,_,_,_,_,rfl,an.nil _ _ _,an.nil _ _ _,an.nil _ _ _,an.nil _ _ _,an.nil _ _ _,an.nil _ _ _,an.nil _ _ _,an.nil _ _ _,an.nil _ _ _,an.nil _ _ _⟩
theorem kP {m:aV} (hm:cy m=true) (hu:xN m) (hw:ip m≤1048576):(dy m).length≤2147483656:=by
 have:=Fy hm hu hw
 have h8:aP.length=8:=rfl
 unfold dy
 rw[if_pos hm,List.length_append]
 omega
set_option maxRecDepth 100000
set_option maxHeartbeats 6400000
theorem DI {w:World} (hg:cq [] w) {m:aV} {c:List Value} (h:cI c m w) (hn:xk m) (hw:ip m≤1048576) {bv:Value} {bs:List UInt8} (hb:Sl [] w 1 bv bs.length (bs.map B)) (hb3:bs.length≤3000) (hm:cy m=true) (hE:(dw bs).2.1=0):
 Calls Tryz.prog 3 #[.agg c.toArray,bv] w fun e w'=>e= .returned (.bool true)∧Fr [] w w':=by
 have WF:=sZ hn hw
 have PMm:=wX hm (nC hn) hw
 have hrd:=pp hm (oB hm (nC hn) hw)
 have hps:=kP hm (nC hn) hw
 obtain⟨r1,r2,r3,r4,r5,r6⟩:=Ag (b:=bs) (by omega) hE
 have hlen:(((dy (dw bs).1).length:Nat):Int)≤(bs.length:Int)+7:=by omega
 have hps2:(dy (dw bs).1).length≤274877906944:=by omega
 obtain⟨N,hN⟩:∃N,(dw bs).1=N:=⟨_,rfl⟩
 rw[hN]at r1 r2 r3 r4 r5 r6 hlen hps2
 obtain⟨ba,bc,rfl⟩:=hb.shape
 obtain⟨ty,im,fu,ta,me,tg,gl,ex,el,da,rfl,h0,h1,h2,h3,h4,h5,h6,h7,h9,h10⟩:=h
 have hold:∀w',Fr [] w w'→cI [ty,im,fu,ta,me,tg,gl,ex,.int .i64 m.start,el,da] m w'∧Sl [] w' 1 (.slice ba bs.length bc) bs.length (bs.map B):=fun w' hf=>
  ⟨cI.fr ⟨ty,im,fu,ta,me,tg,gl,ex,el,da,rfl,h0,h1,h2,h3,h4,h5,h6,h7,h9,h10⟩ hf,hb.fr hf (by simp)⟩
 have o0:=an.one h0
 have o1:=an.one h1
 have o2:=an.one h2
 have o3:=an.one h3
 have o4:=an.one h4
 have o5:=an.one h5
 have o6:=an.one h6
 have o7:=an.one h7
 have o9:=an.one h9
 have o10:=an.one h10
 clear h0 h1 h2 h3 h4 h5 h6 h7 h9 h10
 have hS:=St.start [] w
 have fW:=Fr.refl [] w
 have q3:¬(3000:Int)< (bs.length:Int):=by omega
 go_enter Tryz.func3,Tryz.ntmps3
 go_upto_region 5 with first|(go_at_call 6;refine(qt (hg.fr (fW.trans (by exact aM)) (by simp))).mono ?_;rintro e w4 ⟨rfl,hF4⟩;(try clear hQ);refine cB hF4 fun hS hQ=> ?_)|(refine bC (ty:=33) rfl rfl rfl ce rfl ?_;refine qS ?_)|(go_at_call 7;refine(jN (hold _ (by exact aM)).1).mono ?_;rintro e w4 ⟨⟨n,rfl⟩,hF4⟩;(try clear hQ);refine cB hF4 fun hS hQ=> ?_)|fail
 all_goals first|(go_ret;exact⟨rfl,fW.trans (by exact aM)⟩)|skip
 obtain⟨b0,hb0⟩:∃b,w.heap.size=b:=⟨_,rfl⟩
 rw[hb0]at hS hQ⊢
 go_upto_region 8 with first|(refine bC (ty:=33) rfl rfl rfl ce rfl ?_;refine qS ?_)|(go_at_call 8;refine(po (hg.fr (fW.trans (by exact aM)) (by simp)) (hold _ (by exact aM)).1 WF PMm hm).mono ?_;rintro e w6 ⟨v6,rfl,s6⟩;(try clear hQ);refine qa s6 fun hS hQ=> ?_)|(go_at_call 9;refine(ij (bs:=dy m) (bf.sl (St.own hS (by exact aK)) (by simp)) (hg.fr (fW.trans hS.fr) (by simp)) (by omega)).mono ?_;rintro e w5 ⟨c5,rfl,hl5,ho5,hM5,hF5⟩;rw[hrd]at hM5⊢;have hold2:∀w',Fr [] w5 w'→bB w' b0 [ty,im,fu,ta,me,tg,gl,ex,.int .i64 m.start,el,da] 33∧cI [ty,im,fu,ta,me,tg,gl,ex,.int .i64 m.start,el,da] m w'∧cI c5 m w'∧Sl [] w' 1 (.slice ba bs.length bc) bs.length (bs.map B):=fun w' hf=>⟨((St.loc hS (by exact aK)).fr hF5 (by simp)).fr hf (by simp),(hold _ ((hS.fr.trans hF5).trans hf)).1,hM5.fr hf,(hold _ ((hS.fr.trans hF5).trans hf)).2⟩;have fW:=fW.trans (hS.fr.trans hF5);have hS:=St.start [] w5)|(refine cd (ty:=33) (vs:=c5) rfl rfl rfl rfl ?_;refine AZ ?_;intro wN hS;(try clear hQ);have hQ:=St.fq hS)|fail
 obtain⟨b7,hb7⟩:∃b,w5.heap.size=b:=⟨_,rfl⟩
 rw[hb7]at hS hQ⊢
 go_upto_region 12 with first|(refine gx (ty:=33) rfl rfl rfl rfl ce rfl ?_;refine qS ?_)|(refine gx (ty:=33) rfl rfl rfl rfl ce rfl ?_;refine UE ?_)|(go_at_call 10;refine(ld (hold2 _ (by exact aM)).2.1 (hold2 _ (by exact aM)).2.2.1).mono ?_;rintro e w7 ⟨rfl,hF7⟩;rw[decide_eq_true rfl];(try clear hQ);refine cB hF7 fun hS hQ=> ?_)|fail
 have holdb:∀w',Fr [] w5 w'→Sl [] w' 1 (.slice ba bs.length bc) bs.length (bs.map B):=fun w' hf=>(hold2 _ hf).2.2.2
 exact XV
theorem Ez {w:World} (hg:cq [] w) {m:aV} {c:List Value} (h:cI c m w) (hn:xk m) (hw:ip m≤1048576) {bv:Value} {bs:List UInt8} (hb:Sl [] w 1 bv bs.length (bs.map B)) (hb3:bs.length≤3000) (hm:cy m=true) (hE:¬(dw bs).2.1=0):
 Calls Tryz.prog 3 #[.agg c.toArray,bv] w fun e w'=>e= .returned (.bool true)∧Fr [] w w':=by
 have WF:=sZ hn hw
 have PMm:=wX hm (nC hn) hw
 have hrd:=pp hm (oB hm (nC hn) hw)
 have hps:=kP hm (nC hn) hw
 have hnone:=CR hE
 have hq:((dw bs).2.1 !=0)=true:=by simpa using hE
 obtain⟨ba,bc,rfl⟩:=hb.shape
 obtain⟨ty,im,fu,ta,me,tg,gl,ex,el,da,rfl,h0,h1,h2,h3,h4,h5,h6,h7,h9,h10⟩:=h
 have hold:∀w',Fr [] w w'→cI [ty,im,fu,ta,me,tg,gl,ex,.int .i64 m.start,el,da] m w'∧Sl [] w' 1 (.slice ba bs.length bc) bs.length (bs.map B):=fun w' hf=>
  ⟨cI.fr ⟨ty,im,fu,ta,me,tg,gl,ex,el,da,rfl,h0,h1,h2,h3,h4,h5,h6,h7,h9,h10⟩ hf,hb.fr hf (by simp)⟩
 have o0:=an.one h0
 have o1:=an.one h1
 have o2:=an.one h2
 have o3:=an.one h3
 have o4:=an.one h4
 have o5:=an.one h5
 have o6:=an.one h6
 have o7:=an.one h7
 have o9:=an.one h9
 have o10:=an.one h10
 clear h0 h1 h2 h3 h4 h5 h6 h7 h9 h10
 have hS:=St.start [] w
 have fW:=Fr.refl [] w
 have q3:¬(3000:Int)< (bs.length:Int):=by omega
 go_enter Tryz.func3,Tryz.ntmps3
 go_upto_region 5 with first|(go_at_call 6;refine(qt (hg.fr (fW.trans (by exact aM)) (by simp))).mono ?_;rintro e w4 ⟨rfl,hF4⟩;(try clear hQ);refine cB hF4 fun hS hQ=> ?_)|(refine bC (ty:=33) rfl rfl rfl ce rfl ?_;refine qS ?_)|(go_at_call 7;refine(jN (hold _ (by exact aM)).1).mono ?_;rintro e w4 ⟨⟨n,rfl⟩,hF4⟩;(try clear hQ);refine cB hF4 fun hS hQ=> ?_)|fail
 all_goals first|(go_ret;exact⟨rfl,fW.trans (by exact aM)⟩)|skip
 obtain⟨b0,hb0⟩:∃b,w.heap.size=b:=⟨_,rfl⟩
 rw[hb0]at hS hQ⊢
 go_upto_region 8 with first|(refine bC (ty:=33) rfl rfl rfl ce rfl ?_;refine qS ?_)|(go_at_call 8;refine(po (hg.fr (fW.trans (by exact aM)) (by simp)) (hold _ (by exact aM)).1 WF PMm hm).mono ?_;rintro e w6 ⟨v6,rfl,s6⟩;(try clear hQ);refine qa s6 fun hS hQ=> ?_)|(go_at_call 9;refine(ij (bs:=dy m) (bf.sl (St.own hS (by exact aK)) (by simp)) (hg.fr (fW.trans hS.fr) (by simp)) (by omega)).mono ?_;rintro e w5 ⟨c5,rfl,hl5,ho5,hM5,hF5⟩;rw[hrd]at hM5⊢;have hold2:∀w',Fr [] w5 w'→bB w' b0 [ty,im,fu,ta,me,tg,gl,ex,.int .i64 m.start,el,da] 33∧cI [ty,im,fu,ta,me,tg,gl,ex,.int .i64 m.start,el,da] m w'∧cI c5 m w'∧Sl [] w' 1 (.slice ba bs.length bc) bs.length (bs.map B):=fun w' hf=>⟨((St.loc hS (by exact aK)).fr hF5 (by simp)).fr hf (by simp),(hold _ ((hS.fr.trans hF5).trans hf)).1,hM5.fr hf,(hold _ ((hS.fr.trans hF5).trans hf)).2⟩;have fW:=fW.trans (hS.fr.trans hF5);have hS:=St.start [] w5)|(refine cd (ty:=33) (vs:=c5) rfl rfl rfl rfl ?_;refine AZ ?_;intro wN hS;(try clear hQ);have hQ:=St.fq hS)|fail
 obtain⟨b7,hb7⟩:∃b,w5.heap.size=b:=⟨_,rfl⟩
 rw[hb7]at hS hQ⊢
 go_upto_region 12 with first|(refine gx (ty:=33) rfl rfl rfl rfl ce rfl ?_;refine qS ?_)|(refine gx (ty:=33) rfl rfl rfl rfl ce rfl ?_;refine UE ?_)|(go_at_call 10;refine(ld (hold2 _ (by exact aM)).2.1 (hold2 _ (by exact aM)).2.2.1).mono ?_;rintro e w7 ⟨rfl,hF7⟩;rw[decide_eq_true rfl];(try clear hQ);refine cB hF7 fun hS hQ=> ?_)|fail
 have holdb:∀w',Fr [] w5 w'→Sl [] w' 1 (.slice ba bs.length bc) bs.length (bs.map B):=fun w' hf=>(hold2 _ hf).2.2.2
 exact XS
theorem EM {w:World} (hg:cq [] w) {m:aV} {c:List Value} (h:cI c m w) (hn:xk m) (hw:ip m≤1048576) {bv:Value} {bs:List UInt8} (hb:Sl [] w 1 bv bs.length (bs.map B)) (hb3:bs.length≤3000) (hm:cy m=false) (hE:(dw bs).2.1=0):
 Calls Tryz.prog 3 #[.agg c.toArray,bv] w fun e w'=>e= .returned (.bool true)∧Fr [] w w':=by
 have WF:=sZ hn hw
 obtain⟨r1,r2,r3,r4,r5,r6⟩:=Ag (b:=bs) (by omega) hE
 have hlen:(((dy (dw bs).1).length:Nat):Int)≤(bs.length:Int)+7:=by omega
 have hps2:(dy (dw bs).1).length≤274877906944:=by omega
 obtain⟨N,hN⟩:∃N,(dw bs).1=N:=⟨_,rfl⟩
 rw[hN]at r1 r2 r3 r4 r5 r6 hlen hps2
 obtain⟨ba,bc,rfl⟩:=hb.shape
 obtain⟨ty,im,fu,ta,me,tg,gl,ex,el,da,rfl,h0,h1,h2,h3,h4,h5,h6,h7,h9,h10⟩:=h
 have hold:∀w',Fr [] w w'→cI [ty,im,fu,ta,me,tg,gl,ex,.int .i64 m.start,el,da] m w'∧Sl [] w' 1 (.slice ba bs.length bc) bs.length (bs.map B):=fun w' hf=>
  ⟨cI.fr ⟨ty,im,fu,ta,me,tg,gl,ex,el,da,rfl,h0,h1,h2,h3,h4,h5,h6,h7,h9,h10⟩ hf,hb.fr hf (by simp)⟩
 have o0:=an.one h0
 have o1:=an.one h1
 have o2:=an.one h2
 have o3:=an.one h3
 have o4:=an.one h4
 have o5:=an.one h5
 have o6:=an.one h6
 have o7:=an.one h7
 have o9:=an.one h9
 have o10:=an.one h10
 clear h0 h1 h2 h3 h4 h5 h6 h7 h9 h10
 have hS:=St.start [] w
 have fW:=Fr.refl [] w
 have q3:¬(3000:Int)< (bs.length:Int):=by omega
 go_enter Tryz.func3,Tryz.ntmps3
 go_upto_region 5 with first|(go_at_call 6;refine(qt (hg.fr (fW.trans (by exact aM)) (by simp))).mono ?_;rintro e w4 ⟨rfl,hF4⟩;(try clear hQ);refine cB hF4 fun hS hQ=> ?_)|(refine bC (ty:=33) rfl rfl rfl ce rfl ?_;refine qS ?_)|(go_at_call 7;refine(jN (hold _ (by exact aM)).1).mono ?_;rintro e w4 ⟨⟨n,rfl⟩,hF4⟩;(try clear hQ);refine cB hF4 fun hS hQ=> ?_)|fail
 all_goals first|(go_ret;exact⟨rfl,fW.trans (by exact aM)⟩)|skip
 obtain⟨b0,hb0⟩:∃b,w.heap.size=b:=⟨_,rfl⟩
 rw[hb0]at hS hQ⊢
 go_upto_region 12 with first|(refine bC (ty:=33) rfl rfl rfl ce rfl ?_;refine qS ?_)|(go_at_call 8;refine(sQ (hg.fr (fW.trans (by exact aM)) (by simp)) (hold _ (by exact aM)).1 WF hm).mono ?_;rintro e w6 ⟨rfl,hF6⟩;(try clear hQ);refine cB hF6 fun hS hQ=> ?_)|(go_at_call 11;refine(pe (hg.fr (fW.trans (by exact aM)) (by simp)) (hold _ (by exact aM)).1 WF).mono ?_;rintro e w6 ⟨rfl,hF6⟩;rw[hm];(try clear hQ);refine cB hF6 fun hS hQ=> ?_)|fail
 have holdb:∀w',Fr [] w w'→Sl [] w' 1 (.slice ba bs.length bc) bs.length (bs.map B):=fun w' hf=>(hold _ hf).2
 exact XV
theorem E7 {w:World} (hg:cq [] w) {m:aV} {c:List Value} (h:cI c m w) (hn:xk m) (hw:ip m≤1048576) {bv:Value} {bs:List UInt8} (hb:Sl [] w 1 bv bs.length (bs.map B)) (hb3:bs.length≤3000) (hm:cy m=false) (hE:¬(dw bs).2.1=0):
 Calls Tryz.prog 3 #[.agg c.toArray,bv] w fun e w'=>e= .returned (.bool true)∧Fr [] w w':=by
 have WF:=sZ hn hw
 have hnone:=CR hE
 have hq:((dw bs).2.1 !=0)=true:=by simpa using hE
 obtain⟨ba,bc,rfl⟩:=hb.shape
 obtain⟨ty,im,fu,ta,me,tg,gl,ex,el,da,rfl,h0,h1,h2,h3,h4,h5,h6,h7,h9,h10⟩:=h
 have hold:∀w',Fr [] w w'→cI [ty,im,fu,ta,me,tg,gl,ex,.int .i64 m.start,el,da] m w'∧Sl [] w' 1 (.slice ba bs.length bc) bs.length (bs.map B):=fun w' hf=>
  ⟨cI.fr ⟨ty,im,fu,ta,me,tg,gl,ex,el,da,rfl,h0,h1,h2,h3,h4,h5,h6,h7,h9,h10⟩ hf,hb.fr hf (by simp)⟩
 have o0:=an.one h0
 have o1:=an.one h1
 have o2:=an.one h2
 have o3:=an.one h3
 have o4:=an.one h4
 have o5:=an.one h5
 have o6:=an.one h6
 have o7:=an.one h7
 have o9:=an.one h9
 have o10:=an.one h10
 clear h0 h1 h2 h3 h4 h5 h6 h7 h9 h10
 have hS:=St.start [] w
 have fW:=Fr.refl [] w
 have q3:¬(3000:Int)< (bs.length:Int):=by omega
 go_enter Tryz.func3,Tryz.ntmps3
 go_upto_region 5 with first|(go_at_call 6;refine(qt (hg.fr (fW.trans (by exact aM)) (by simp))).mono ?_;rintro e w4 ⟨rfl,hF4⟩;(try clear hQ);refine cB hF4 fun hS hQ=> ?_)|(refine bC (ty:=33) rfl rfl rfl ce rfl ?_;refine qS ?_)|(go_at_call 7;refine(jN (hold _ (by exact aM)).1).mono ?_;rintro e w4 ⟨⟨n,rfl⟩,hF4⟩;(try clear hQ);refine cB hF4 fun hS hQ=> ?_)|fail
 all_goals first|(go_ret;exact⟨rfl,fW.trans (by exact aM)⟩)|skip
 obtain⟨b0,hb0⟩:∃b,w.heap.size=b:=⟨_,rfl⟩
 rw[hb0]at hS hQ⊢
 go_upto_region 12 with first|(refine bC (ty:=33) rfl rfl rfl ce rfl ?_;refine qS ?_)|(go_at_call 8;refine(sQ (hg.fr (fW.trans (by exact aM)) (by simp)) (hold _ (by exact aM)).1 WF hm).mono ?_;rintro e w6 ⟨rfl,hF6⟩;(try clear hQ);refine cB hF6 fun hS hQ=> ?_)|(go_at_call 11;refine(pe (hg.fr (fW.trans (by exact aM)) (by simp)) (hold _ (by exact aM)).1 WF).mono ?_;rintro e w6 ⟨rfl,hF6⟩;rw[hm];(try clear hQ);refine cB hF6 fun hS hQ=> ?_)|fail
 have holdb:∀w',Fr [] w w'→Sl [] w' 1 (.slice ba bs.length bc) bs.length (bs.map B):=fun w' hf=>(hold _ hf).2
 exact XS
theorem CD {w:World} (hg:cq [] w) {m:aV} {c:List Value} (h:cI c m w) {bv:Value} {bs:List UInt8} (hb:Sl [] w 1 bv bs.length (bs.map B)) (hb3:¬bs.length≤3000):
 Calls Tryz.prog 3 #[.agg c.toArray,bv] w fun e w'=>e= .returned (.bool true)∧Fr [] w w':=by
 have hbl:bs.length≤9223372036854775807:=by
  obtain⟨_,_,_,_,e,h1,h2,_⟩:=hb
  unfold maxLen at h2
  omega
 obtain⟨ba,bc,rfl⟩:=hb.shape
 obtain⟨ty,im,fu,ta,me,tg,gl,ex,el,da,rfl,h0,h1,h2,h3,h4,h5,h6,h7,h9,h10⟩:=h
 have hold:∀w',Fr [] w w'→cI [ty,im,fu,ta,me,tg,gl,ex,.int .i64 m.start,el,da] m w'∧Sl [] w' 1 (.slice ba bs.length bc) bs.length (bs.map B):=fun w' hf=>
  ⟨cI.fr ⟨ty,im,fu,ta,me,tg,gl,ex,el,da,rfl,h0,h1,h2,h3,h4,h5,h6,h7,h9,h10⟩ hf,hb.fr hf (by simp)⟩
 have o0:=an.one h0
 have o1:=an.one h1
 have o2:=an.one h2
 have o3:=an.one h3
 have o4:=an.one h4
 have o5:=an.one h5
 have o6:=an.one h6
 have o7:=an.one h7
 have o9:=an.one h9
 have o10:=an.one h10
 clear h0 h1 h2 h3 h4 h5 h6 h7 h9 h10
 have hS:=St.start [] w
 have fW:=Fr.refl [] w
 have q3:(3000:Int)< (bs.length:Int):=by omega
 go_enter Tryz.func3,Tryz.ntmps3
 go_wp2_with first|(go_at_call 6;refine(qt (hg.fr (fW.trans (by exact aM)) (by simp))).mono ?_;rintro e w4 ⟨rfl,hF4⟩;(try clear hQ);refine cB hF4 fun hS hQ=> ?_)|(refine bC (ty:=33) rfl rfl rfl ce rfl ?_;refine qS ?_)|(go_at_call 7;refine(jN (hold _ (by exact aM)).1).mono ?_;rintro e w4 ⟨⟨n,rfl⟩,hF4⟩;(try clear hQ);refine cB hF4 fun hS hQ=> ?_)|fail
 all_goals
  go_ret
  exact⟨rfl,fW.trans (by exact aM)⟩
theorem Cj {w:World} (hg:cq [] w) {m:aV} {c:List Value} (h:cI c m w) (hn:xk m) (hw:ip m≤1048576) {bv:Value} {bs:List UInt8} (hb:Sl [] w 1 bv bs.length (bs.map B)):
 Calls Tryz.prog 3 #[.agg c.toArray,bv] w fun e w'=>e= .returned (.bool true)∧Fr [] w w':=by
 by_cases hb3:bs.length≤3000
 ·by_cases hE:(dw bs).2.1=0<;>cases hm:cy m
  ·exact EM hg h hn hw hb hb3 hm hE
  ·exact DI hg h hn hw hb hb3 hm hE
  ·exact E7 hg h hn hw hb hb3 hm hE
  ·exact Ez hg h hn hw hb hb3 hm hE
 ·exact CD hg h hb hb3
end Go.Proofs.YtpdlmdlkecnpgaaGreatDoor
