/- ModuleLess: a module without some of its lists has bytes that are shorter by just what the sections of those lists have; its other lists are read as they were; for every module of bulk at most 1048576. The tables of heap types and of opcodes hold what the text of the program lays (the card ties it). -/
import Derived.Test.YtpdlmdlkecnpgaaGreatDoorH0
import Derived.Test.YtpdlmdlkecnpgaaGreatDoorH44
import Derived.Test.YtpdlmdlkecnpgaaGreatDoorCards
import Derived.Test.YtpdlmdlkecnpgaaGreatDoorTie
import Derived.WalkKit
import Derived.ProofKit
import Derived.OpenShut
import Derived.Deep.DeepHandedRow
import Derived.Lib.LaidTab
import Derived.Test.YtpdlmdlkecnpgaaGreatDoorH43
set_option linter.unusedSimpArgs false
set_option linter.unusedVariables false
namespace Go.Proofs.YtpdlmdlkecnpgaaGreatDoor
open Go.RowKit
theorem Mh {m:aV} (h:xN m):xN (cR m)∧xN (cJ m):=
 ⟨⟨h.imports,h.funcs,h.tables,(fun _ h=>by cases h),h.globals,h.elems,h.datas⟩,⟨(fun _ h=>by cases h),(fun _ h=>by cases h),(fun _ h=>by cases h),h.mems,(fun _ h=>by cases h),(fun _ h=>by cases h),(fun _ h=>by cases h)⟩⟩
theorem SY (m:aV):ip (cR m)≤ip m∧ip (cJ m)≤ip m:=by
 constructor
 ·unfold ip cR
  simp
  omega
 ·unfold ip cJ aV.none
  simp
  omega
theorem Aq {m:aV} (h:cy m=true):(dy m).length=8+bl (secs m):=by
 rw[AD h,List.length_append]
 rfl
set_option maxRecDepth 100000
set_option maxHeartbeats 6400000
theorem Ih {w:World} (hg:cq [] w) {m:aV} {c:List Value} (h:cI c m w) (hn:xk m) (hw:ip m≤1048576) (hm:cy m=false):
 Calls Tryz.prog 5 #[.agg c.toArray] w fun e w'=>e= .returned (.bool true)∧Fr [] w w':=by
 have WF:=sZ hn hw
 obtain⟨ty,im,fu,ta,me,tg,gl,ex,el,da,rfl,h0,h1,h2,h3,h4,h5,h6,h7,h9,h10⟩:=h
 obtain⟨x4,y4,rfl⟩:=an.shape h4
 obtain⟨x5,y5,rfl⟩:=an.shape h5
 obtain⟨x7,y7,rfl⟩:=an.shape h7
 have hold:∀w',Fr [] w w'→cI [ty,im,fu,ta,.slice x4 m.mems.length y4,.slice x5 m.tags.length y5,gl,.slice x7 m.exports.length y7,.int .i64 m.start,el,da] m w'∧cI [ty,im,fu,ta,.slice none 0 0,.slice none 0 0,gl,.slice none 0 0,.int .i64 m.start,el,da] (cR m) w'∧cI [.slice none 0 0,.slice none 0 0,.slice none 0 0,.slice none 0 0,.slice x4 m.mems.length y4,.slice x5 m.tags.length y5,.slice none 0 0,.slice x7 m.exports.length y7,.int .i64 (-1),.slice none 0 0,.slice none 0 0] (cJ m) w':=fun w' hf=>
  ⟨cI.fr ⟨ty,im,fu,ta,_,_,gl,_,el,da,rfl,h0,h1,h2,h3,h4,h5,h6,h7,h9,h10⟩ hf,
   cI.fr ⟨ty,im,fu,ta,_,_,gl,_,el,da,rfl,h0,h1,h2,h3,an.nil _ _ _,an.nil _ _ _,h6,an.nil _ _ _,h9,h10⟩ hf,
   cI.fr ⟨_,_,_,_,_,_,_,_,_,_,rfl,an.nil _ _ _,an.nil _ _ _,an.nil _ _ _,an.nil _ _ _,h4,h5,an.nil _ _ _,h7,an.nil _ _ _,an.nil _ _ _⟩ hf⟩
 have o0:=an.one h0
 have o1:=an.one h1
 have o2:=an.one h2
 have o3:=an.one h3
 have o4:=an.one h4
 have o5:=an.one h5
 have o6:=an.one h6
 have o7:=an.one h7
 have o9:=an.one h9
 have o10:=an.one h10
 have oC:∀v∈([ty,im,fu,ta,.slice x4 m.mems.length y4,.slice x5 m.tags.length y5,gl,.slice x7 m.exports.length y7,.int .i64 m.start,el,da]:List Value),v.oneCell'=true:=by
  exact Wf
 clear h0 h1 h2 h3 h4 h5 h6 h7 h9 h10
 have hS:=St.start [] w
 have fW:=Fr.refl [] w
 go_enter Tryz.func5,Tryz.ntmps5
 go_wp2_with first|(go_at_call 6;refine(qt (hg.fr (fW.trans (by(first|exact hS.fr|(apply St.fr;(exact aw))|(apply St.fr;(first|exact hS0|(exact aw)))))) (by simp))).mono ?_;rintro e w4 ⟨rfl,hF4⟩;(try clear hQ);refine cB hF4 fun hS hQ=> ?_)|(refine bC (ty:=33) rfl rfl rfl ce rfl ?_;refine EA ?_)|(go_at_call 7;refine(jN (hold _ (by(first|exact hS.fr|(apply St.fr;(exact aw))|(apply St.fr;(first|exact hS0|(exact aw)))))).1).mono ?_;rintro e w4 ⟨⟨n,rfl⟩,hF4⟩;(try clear hQ);refine cB hF4 fun hS hQ=> ?_)|(go_at_call 8;refine(sQ (hg.fr (fW.trans (by(first|exact hS.fr|(apply St.fr;(exact aw))|(apply St.fr;(first|exact hS0|(exact aw)))))) (by simp)) (hold _ (by(first|exact hS.fr|(apply St.fr;(exact aw))|(apply St.fr;(first|exact hS0|(exact aw)))))).1 WF hm).mono ?_;rintro e w6 ⟨rfl,hF6⟩;(try clear hQ);refine cB hF6 fun hS hQ=> ?_)|fail
 all_goals
  go_ret
  exact⟨rfl,fW.trans (by(first|exact hS.fr|(apply St.fr;(exact aw))|(apply St.fr;(first|exact hS0|(exact aw)))))⟩
theorem JQ {w:World} (hg:cq [] w) {m:aV} {c:List Value} (h:cI c m w) (hn:xk m) (hw:ip m≤1048576) (hm:cy m=true):
 Calls Tryz.prog 5 #[.agg c.toArray] w fun e w'=>e= .returned (.bool true)∧Fr [] w w':=by
 have WF:=sZ hn hw
 have hu:=nC hn
 have PMm:=wX hm hu hw
 have sm:=oB hm hu hw
 obtain⟨hml,hmo⟩:=OJ hm
 obtain⟨hul,huo⟩:=Mh hu
 obtain⟨hwl,hwo⟩:=SY m
 obtain⟨sml,smo⟩:=EN sm
 have PMl:=wX hml hul (by omega)
 have PMo:=wX hmo huo (by omega)
 have WFl:=A0 hml (by omega)
 have WFo:=A0 hmo (by omega)
 have hrl:=pp hml sml
 have hro:=pp hmo smo
 have lm:=Aq hm
 have ll:=Aq hml
 have lo:=Aq hmo
 have hlen:=NX m
 have hzero:=LA m
 have psm:=kP hm hu hw
 have psl:=kP hml hul (by omega)
 have pso:=kP hmo huo (by omega)
 have qlen0:((((dy m).length:Nat):Int)-(((dy (cR m)).length:Nat):Int) !=(((dy (cJ m)).length:Nat):Int)-8)=false:=by simp;omega
 have qno:cy aV.none=true:=by decide+kernel
 have qbool0:decide (cR m=m)=((((dy (cJ m)).length:Nat):Int)==8):=by
  rw[Bool.eq_iff_iff]
  simp only[decide_eq_true_eq,beq_iff_eq]
  rw[←hzero]
  omega
 have un:xN aV.none:=⟨(fun _ h=>by cases h),(fun _ h=>by cases h),(fun _ h=>by cases h),(fun _ h=>by cases h),(fun _ h=>by cases h),(fun _ h=>by cases h),(fun _ h=>by cases h)⟩
 have wn:ip aV.none≤1048576:=by decide
 have PMn:=wX qno un wn
 have WFn:=A0 qno wn
 have qlen:=Lib.hid qlen0
 have qbool:=Lib.hid qbool0
 have Hrl:=Lib.hid hrl
 have Hro:=Lib.hid hro
 clear lm ll lo hlen hzero qlen0 qbool0 hrl hro
 obtain⟨ty,im,fu,ta,me,tg,gl,ex,el,da,rfl,h0,h1,h2,h3,h4,h5,h6,h7,h9,h10⟩:=h
 obtain⟨x4,y4,rfl⟩:=an.shape h4
 obtain⟨x5,y5,rfl⟩:=an.shape h5
 obtain⟨x7,y7,rfl⟩:=an.shape h7
 have hold:∀w',Fr [] w w'→cI [ty,im,fu,ta,.slice x4 m.mems.length y4,.slice x5 m.tags.length y5,gl,.slice x7 m.exports.length y7,.int .i64 m.start,el,da] m w'∧cI [ty,im,fu,ta,.slice none 0 0,.slice none 0 0,gl,.slice none 0 0,.int .i64 m.start,el,da] (cR m) w'∧cI [.slice none 0 0,.slice none 0 0,.slice none 0 0,.slice none 0 0,.slice x4 m.mems.length y4,.slice x5 m.tags.length y5,.slice none 0 0,.slice x7 m.exports.length y7,.int .i64 (-1),.slice none 0 0,.slice none 0 0] (cJ m) w':=fun w' hf=>
  ⟨cI.fr ⟨ty,im,fu,ta,_,_,gl,_,el,da,rfl,h0,h1,h2,h3,h4,h5,h6,h7,h9,h10⟩ hf,
   cI.fr ⟨ty,im,fu,ta,_,_,gl,_,el,da,rfl,h0,h1,h2,h3,an.nil _ _ _,an.nil _ _ _,h6,an.nil _ _ _,h9,h10⟩ hf,
   cI.fr ⟨_,_,_,_,_,_,_,_,_,_,rfl,an.nil _ _ _,an.nil _ _ _,an.nil _ _ _,an.nil _ _ _,h4,h5,an.nil _ _ _,h7,an.nil _ _ _,an.nil _ _ _⟩ hf⟩
 have o0:=an.one h0
 have o1:=an.one h1
 have o2:=an.one h2
 have o3:=an.one h3
 have o4:=an.one h4
 have o5:=an.one h5
 have o6:=an.one h6
 have o7:=an.one h7
 have o9:=an.one h9
 have o10:=an.one h10
 have oC:∀v∈([ty,im,fu,ta,.slice x4 m.mems.length y4,.slice x5 m.tags.length y5,gl,.slice x7 m.exports.length y7,.int .i64 m.start,el,da]:List Value),v.oneCell'=true:=by
  exact Wf
 clear h0 h1 h2 h3 h4 h5 h6 h7 h9 h10
 have hS:=St.start [] w
 have fW:=Fr.refl [] w
 go_enter Tryz.func5,Tryz.ntmps5
 go_upto_region 4 with first|(go_at_call 6;refine(qt (hg.fr (fW.trans (by(first|exact hS.fr|(apply St.fr;(exact aw))|(apply St.fr;(first|exact hS0|(exact aw)))))) (by simp))).mono ?_;rintro e w4 ⟨rfl,hF4⟩;(try clear hQ);refine cB hF4 fun hS hQ=> ?_)|(refine bC (ty:=33) rfl rfl rfl ce rfl ?_;refine EA ?_)|(go_at_call 8;refine(po (hg.fr (fW.trans (by(first|exact hS.fr|(apply St.fr;(exact aw))|(apply St.fr;(first|exact hS0|(exact aw)))))) (by simp)) (hold _ (by(first|exact hS.fr|(apply St.fr;(exact aw))|(apply St.fr;(first|exact hS0|(exact aw)))))).1 WF PMm hm).mono ?_;rintro e w6 ⟨v6,rfl,s6⟩;(try clear hQ);refine qa s6 fun hS hQ=> ?_)|fail
 have hS0:=hS
 obtain⟨vb,vc,rfl,_⟩:=bf.shape (St.own hS (.here))
 have hS:=hS0.sel (G':= [.loc w.heap.size [ty,im,fu,ta,.slice x4 m.mems.length y4,.slice x5 m.tags.length y5,gl,.slice x7 m.exports.length y7,.int .i64 m.start,el,da] 33]) (by exact ic)
 clear hS0
 go_upto_region 6 with first|(refine bC (ty:=33) rfl rfl rfl ce rfl ?_;refine EA ?_)|(go_at_call 7;refine(jN (hold _ (by(first|exact hS.fr|(apply St.fr;(exact aw))|(apply St.fr;(first|exact hS0|(exact aw)))))).1).mono ?_;rintro e w4 ⟨⟨n,rfl⟩,hF4⟩;(try clear hQ);refine cB hF4 fun hS hQ=> ?_)|fail
 all_goals first|(go_ret;exact⟨rfl,fW.trans (by(first|exact hS.fr|(apply St.fr;(exact aw))|(apply St.fr;(first|exact hS0|(exact aw)))))⟩)|skip
 obtain⟨b0,hb0⟩:∃b,w.heap.size=b:=⟨_,rfl⟩
 rw[hb0]at hS hQ⊢
 go_upto_region 8 with first|(refine bC (ty:=33) rfl rfl rfl ce rfl ?_;refine EA ?_)|(refine cd (ty:=33) rfl rfl rfl rfl ?_;refine UL ?_;intro wN hS;(try clear hQ);have hQ:=St.fq hS)|fail
 obtain⟨b5,hb5⟩:∃b,w4.heap.size=b:=⟨_,rfl⟩
 rw[hb5]at hS hQ⊢
 obtain⟨b6,hb6⟩:∃b,b5+1=b:=⟨_,rfl⟩
 rw[hb6]at hS hQ⊢
 obtain⟨w8,hw8⟩:∃x:World,x=wN:=⟨_,rfl⟩
 subst hw8
 clear hQ
 go_upto_region 9 with first|(refine bC (ty:=33) rfl rfl rfl ce rfl ?_;refine EA ?_)|(refine cd (ty:=33) rfl rfl rfl rfl ?_;refine UL ?_;intro wN hS;(try clear hQ);have hQ:=St.fq hS)|fail
 obtain⟨b7,hb7⟩:∃b,w8.heap.size=b:=⟨_,rfl⟩
 rw[hb7]at hS⊢
 have hS0:=hS.sel (G':= [.loc b7 [.slice none 0 0,.slice none 0 0,.slice none 0 0,.slice none 0 0,.slice none 0 0,.slice none 0 0,.slice none 0 0,.slice none 0 0,.int .i64 (-1),.slice none 0 0,.slice none 0 0] 33,.loc b5 [ty,im,fu,ta,.slice none 0 0,.slice none 0 0,gl,.slice none 0 0,.int .i64 m.start,el,da] 33,.loc b6 [.slice none 0 0,.slice none 0 0,.slice none 0 0,.slice none 0 0,.slice none 0 0,.slice none 0 0,.slice none 0 0,.slice none 0 0,.int .i64 (-1),.slice none 0 0,.slice none 0 0] 33,.loc b0 [ty,im,fu,ta,.slice x4 m.mems.length y4,.slice x5 m.tags.length y5,gl,.slice x7 m.exports.length y7,.int .i64 m.start,el,da] 33]) (by exact ic)
 clear hS
 have hS:=hS0
 clear hS0
 (try clear hQ);have hQ:=St.fq hS
 have hN:=AX hS.apart
 (try simp only[sL,tI,List.cons_append,List.nil_append,true_and,and_true]at hN)
 go_region_held3 (fun w'=>w'.cell? ⟨b0,7,none⟩=some (.slice x7 m.exports.length y7)∧w'.cell? ⟨b0,5,none⟩=some (.slice x5 m.tags.length y5)∧w'.cell? ⟨b0,4,none⟩=some (.slice x4 m.mems.length y4)) (first|(go_keep;done)|(simp[hQ];done)) (first|fail)
 clear hQ hN
 go_upto_region 12 with first|(refine bC (ty:=33) rfl rfl rfl ce rfl ?_;refine EA ?_)|(go_at_call 8;(with_reducible refine(po (hg.fr (fW.trans (by(first|exact hS.fr|(apply St.fr;(exact aw))|(apply St.fr;(first|exact hS0|(exact aw)))))) (by simp)) (hold _ (by(first|exact hS.fr|(apply St.fr;(exact aw))|(apply St.fr;(first|exact hS0|(exact aw)))))).2.1 WFl PMl hml).mono ?_);rintro e w6 ⟨vL,rfl,s6⟩;(try clear hQ);refine qa s6 fun hS hQ=> ?_)|(go_at_call 8;refine(po (hg.fr (fW.trans (by(first|exact hS.fr|(apply St.fr;(exact aw))|(apply St.fr;(first|exact hS0|(exact aw)))))) (by simp)) (hold _ (by(first|exact hS.fr|(apply St.fr;(exact aw))|(apply St.fr;(first|exact hS0|(exact aw)))))).2.2 WFo PMo hmo).mono ?_;rintro e w6 ⟨vO,rfl,s6⟩;(try clear hQ);refine qa s6 fun hS hQ=> ?_)|fail
 clear hQ
 have hS0:St [] w w6 [.own 5 1 (vO) (dy (cJ m)).length ((dy (cJ m)).map B),.own 5 1 (vL) (dy (cR m)).length ((dy (cR m)).map B),.loc b7 [.slice none 0 0,.slice none 0 0,.slice none 0 0,.slice none 0 0,.slice x4 m.mems.length y4,.slice x5 m.tags.length y5,.slice none 0 0,.slice x7 m.exports.length y7,.int .i64 (-1),.slice none 0 0,.slice none 0 0] 33,.loc b5 [ty,im,fu,ta,.slice none 0 0,.slice none 0 0,gl,.slice none 0 0,.int .i64 m.start,el,da] 33,.loc b6 [.slice none 0 0,.slice none 0 0,.slice none 0 0,.slice none 0 0,.slice none 0 0,.slice none 0 0,.slice none 0 0,.slice none 0 0,.int .i64 (-1),.slice none 0 0,.slice none 0 0] 33,.loc b0 [ty,im,fu,ta,.slice x4 m.mems.length y4,.slice x5 m.tags.length y5,gl,.slice x7 m.exports.length y7,.int .i64 m.start,el,da] 33]:=hS.sel (by exact ic)
 clear hS
 have hsh1:=bf.shape (St.own hS0 (.here))
 have hsh2:=bf.shape (St.own hS0 (.there .here))
 obtain⟨aO,cO,e1,_⟩:=hsh1
 obtain⟨aL,cL,e2,_⟩:=hsh2
 subst e1 e2
 have hS:=hS0
 clear hS0
 have q12:=qlen.out
 go_upto_region 14 with fail
 clear q12
 go_upto_region 15 with first|(go_at_call 9;refine(ij (bs:=dy (cR m)) (bf.sl (St.own hS (by exact aK)) (by simp)) (hg.fr (fW.trans hS.fr) (by simp)) (by omega)).mono ?_;rintro e w5 ⟨c5,rfl,hl5,ho5,hM5,hF5⟩;rw[Hrl.out]at hM5⊢;have F1:∀w',Fr [] w5 w'→Sl [] w' 1 (.slice aO (dy (cJ m)).length cO) (dy (cJ m)).length ((dy (cJ m)).map B)∧bB w' b7 [.slice none 0 0,.slice none 0 0,.slice none 0 0,.slice none 0 0,.slice x4 m.mems.length y4,.slice x5 m.tags.length y5,.slice none 0 0,.slice x7 m.exports.length y7,.int .i64 (-1),.slice none 0 0,.slice none 0 0] 33∧bB w' b5 [ty,im,fu,ta,.slice none 0 0,.slice none 0 0,gl,.slice none 0 0,.int .i64 m.start,el,da] 33∧bB w' b6 [.slice none 0 0,.slice none 0 0,.slice none 0 0,.slice none 0 0,.slice none 0 0,.slice none 0 0,.slice none 0 0,.slice none 0 0,.int .i64 (-1),.slice none 0 0,.slice none 0 0] 33∧bB w' b0 [ty,im,fu,ta,.slice x4 m.mems.length y4,.slice x5 m.tags.length y5,gl,.slice x7 m.exports.length y7,.int .i64 m.start,el,da] 33∧(cI [ty,im,fu,ta,.slice x4 m.mems.length y4,.slice x5 m.tags.length y5,gl,.slice x7 m.exports.length y7,.int .i64 m.start,el,da] m w'∧cI [ty,im,fu,ta,.slice none 0 0,.slice none 0 0,gl,.slice none 0 0,.int .i64 m.start,el,da] (cR m) w'∧cI [.slice none 0 0,.slice none 0 0,.slice none 0 0,.slice none 0 0,.slice x4 m.mems.length y4,.slice x5 m.tags.length y5,.slice none 0 0,.slice x7 m.exports.length y7,.int .i64 (-1),.slice none 0 0,.slice none 0 0] (cJ m) w')∧cI c5 (cR m) w':=fun w' hf=>⟨(bf.sl (St.own hS (.here)) (by simp)).fr (hF5.trans hf) (by simp),(St.loc hS (by exact aK)).fr (hF5.trans hf) (by simp),(St.loc hS (by exact aK)).fr (hF5.trans hf) (by simp),(St.loc hS (by exact aK)).fr (hF5.trans hf) (by simp),(St.loc hS (by exact aK)).fr (hF5.trans hf) (by simp),hold _ ((hS.fr.trans hF5).trans hf),hM5.fr hf⟩;have fW:=fW.trans (hS.fr.trans hF5);have hS:=St.start [] w5)|(refine cd (ty:=33) (vs:=c5) rfl rfl rfl rfl ?_;(repeat(apply Exists.intro));refine⟨?_,?_,?_,?_,?_,?_⟩;(·exact aw);(·exact aK);(·exact hl5);(·rw[hl5];exact br);(·exact ho5);intro wN hS;(try clear hQ);have hQ:=St.fq hS)|fail
 obtain⟨b12,hb12⟩:∃b,w5.heap.size=b:=⟨_,rfl⟩
 rw[hb12]at hS hQ⊢
 go_upto_region 16 with first|(go_at_call 9;refine(ij (bs:=dy (cJ m)) (F1 _ hS.fr).1 (hg.fr (fW.trans hS.fr) (by simp)) (by omega)).mono ?_;rintro e w7 ⟨c6,rfl,hl6,ho6,hM6,hF6⟩;rw[Hro.out]at hM6⊢;have F2:∀w',Fr [] w7 w'→(bB w' b7 [.slice none 0 0,.slice none 0 0,.slice none 0 0,.slice none 0 0,.slice x4 m.mems.length y4,.slice x5 m.tags.length y5,.slice none 0 0,.slice x7 m.exports.length y7,.int .i64 (-1),.slice none 0 0,.slice none 0 0] 33∧bB w' b5 [ty,im,fu,ta,.slice none 0 0,.slice none 0 0,gl,.slice none 0 0,.int .i64 m.start,el,da] 33∧bB w' b6 [.slice none 0 0,.slice none 0 0,.slice none 0 0,.slice none 0 0,.slice none 0 0,.slice none 0 0,.slice none 0 0,.slice none 0 0,.int .i64 (-1),.slice none 0 0,.slice none 0 0] 33∧bB w' b0 [ty,im,fu,ta,.slice x4 m.mems.length y4,.slice x5 m.tags.length y5,gl,.slice x7 m.exports.length y7,.int .i64 m.start,el,da] 33)∧(cI [ty,im,fu,ta,.slice x4 m.mems.length y4,.slice x5 m.tags.length y5,gl,.slice x7 m.exports.length y7,.int .i64 m.start,el,da] m w'∧cI [ty,im,fu,ta,.slice none 0 0,.slice none 0 0,gl,.slice none 0 0,.int .i64 m.start,el,da] (cR m) w'∧cI [.slice none 0 0,.slice none 0 0,.slice none 0 0,.slice none 0 0,.slice x4 m.mems.length y4,.slice x5 m.tags.length y5,.slice none 0 0,.slice x7 m.exports.length y7,.int .i64 (-1),.slice none 0 0,.slice none 0 0] (cJ m) w')∧cI c5 (cR m) w'∧cI c6 (cJ m) w'∧bB w' b12 c5 33:=fun w' hf=>(fun k=>⟨⟨k.2.1,k.2.2.1,k.2.2.2.1,k.2.2.2.2.1⟩,k.2.2.2.2.2.1,k.2.2.2.2.2.2,hM6.fr hf,(St.loc hS (by exact aK)).fr (hF6.trans hf) (by simp)⟩) (F1 w' ((hS.fr.trans hF6).trans hf));have fW:=fW.trans (hS.fr.trans hF6);have hS:=St.start [] w7)|(refine cd (ty:=33) (vs:=c6) rfl rfl rfl rfl ?_;(repeat(apply Exists.intro));refine⟨?_,?_,?_,?_,?_,?_⟩;(·exact aw);(·exact aK);(·exact hl6);(·rw[hl6];exact br);(·exact ho6);intro wN hS;(try clear hQ);have hQ:=St.fq hS)|fail
 obtain⟨b14,hb14⟩:∃b,w7.heap.size=b:=⟨_,rfl⟩
 rw[hb14]at hS hQ⊢
 clear hQ
 go_upto_region 18 with first|(refine gx (ty:=33) rfl rfl rfl rfl ce rfl ?_;refine EA ?_)|(refine gx (ty:=33) rfl rfl rfl rfl ce rfl ?_;(repeat(apply Exists.intro));refine⟨?_,?_,?_,?_⟩;(·exact aw);(·exact eD.elem (bB.range (F2 _ hS.fr).2.2.2.2));(·first|exact br|(rw[hl5];exact br)|(rw[hl6];exact br)))|(refine gx (ty:=33) rfl rfl rfl rfl ce rfl ?_;(repeat(apply Exists.intro));refine⟨?_,?_,?_,?_⟩;(·exact aw);(·exact eD.elem (bB.range (F2 _ hS.fr).1.2.1));(·first|exact br|(rw[hl5];exact br)|(rw[hl6];exact br)))|(refine gx (ty:=33) rfl rfl rfl rfl ce rfl ?_;(repeat(apply Exists.intro));refine⟨?_,?_,?_,?_⟩;(·exact aw);(·exact eD.elem (bB.range (F2 _ hS.fr).1.1));(·first|exact br|(rw[hl5];exact br)|(rw[hl6];exact br)))|(refine gx (ty:=33) rfl rfl rfl rfl ce rfl ?_;(repeat(apply Exists.intro));refine⟨?_,?_,?_,?_⟩;(·exact aw);(·exact eD.elem (bB.range (F2 _ hS.fr).1.2.2.2));(·first|exact br|(rw[hl5];exact br)|(rw[hl6];exact br)))|(go_at_call 10;(with_reducible refine(ld (F2 _ (by(first|exact hS.fr|(apply St.fr;(exact aw))|(apply St.fr;(first|exact hS0|(exact aw)))))).2.2.1 (F2 _ (by(first|exact hS.fr|(apply St.fr;(exact aw))|(apply St.fr;(first|exact hS0|(exact aw)))))).2.1.2.1).mono ?_);rintro e w8 ⟨rfl,hF8⟩;rw[decide_eq_true rfl];(try clear hQ);refine cB hF8 fun hS hQ=> ?_)|(go_at_call 10;(with_reducible refine(ld (F2 _ (by(first|exact hS.fr|(apply St.fr;(exact aw))|(apply St.fr;(first|exact hS0|(exact aw)))))).2.2.2.1 (F2 _ (by(first|exact hS.fr|(apply St.fr;(exact aw))|(apply St.fr;(first|exact hS0|(exact aw)))))).2.1.2.2).mono ?_);rintro e w8 ⟨rfl,hF8⟩;rw[decide_eq_true rfl];(try clear hQ);refine cB hF8 fun hS hQ=> ?_)|(go_at_call 10;(with_reducible refine(ld (F2 _ (by(first|exact hS.fr|(apply St.fr;(exact aw))|(apply St.fr;(first|exact hS0|(exact aw)))))).2.2.1 (F2 _ (by(first|exact hS.fr|(apply St.fr;(exact aw))|(apply St.fr;(first|exact hS0|(exact aw)))))).2.1.1).mono ?_);rintro e w8 ⟨rfl,hF8⟩;rw[qbool.out];(try clear hQ);refine cB hF8 fun hS hQ=> ?_)|fail
 go_wp2_with first|(refine bC (ty:=33) rfl rfl rfl ce rfl ?_;(repeat(apply Exists.intro));refine⟨?_,?_,?_,?_⟩;(·exact aw);(·exact eD.elem (bB.range (F2 _ hS.fr).1.2.2.1));(·first|exact br|(rw[hl5];exact br)|(rw[hl6];exact br)))|(go_at_call 8;refine(po (hg.fr (fW.trans (by(first|exact hS.fr|(apply St.fr;(exact aw))|(apply St.fr;(first|exact hS0|(exact aw)))))) (by simp)) (yZ _) WFn PMn qno).mono ?_;rintro e w9 ⟨vN,rfl,s9⟩;rw[Nh]at s9;obtain⟨aN,cN,e3,_⟩:=bf.shape (St.own s9 (.here));subst e3;(try clear hQ);refine qa s9 fun hS hQ=> ?_)|fail
 go_ret
 exact⟨rfl,fW.trans (by(first|exact hS.fr|(apply St.fr;(exact aw))|(apply St.fr;(first|exact hS0|(exact aw)))))⟩
theorem Ch {w:World} (hg:cq [] w) {m:aV} {c:List Value} (h:cI c m w) (hn:xk m) (hw:ip m≤1048576):
 Calls Tryz.prog 5 #[.agg c.toArray] w fun e w'=>e= .returned (.bool true)∧Fr [] w w':=by
 cases hm:cy m
 ·exact Ih hg h hn hw hm
 ·exact JQ hg h hn hw hm
namespace lawEl
open Go.ChangeShapes Go.WideShapes Go.ChangeAt Go.RowKit
theorem RO:(laidOutB Tryz.pinned.checked.prog)=true:=by kernel_rfl
theorem RW:((Rows.moduleLessUptoRow.inPlace==Tryz.pinned.checked.prog.inPlace 5))=true:=by kernel_rfl
theorem O9:((Rows.moduleLessUptoRow.unfollowed==Tryz.pinned.checked.prog.unfollowed 5))=true:=by kernel_rfl
end lawEl
namespace lawEl
open Go.ChangeShapes Go.WideShapes Go.ChangeAt Go.RowKit
theorem Nm:((Rows.moduleLessUptoRow.recurses==Tryz.pinned.checked.prog.recurses 5))=true:=by kernel_rfl
theorem Nx:((Rows.moduleLessUptoRow.named==Tryz.pinned.checked.prog.varsNamed 5))=true:=by kernel_rfl
theorem RE:(mapsRowed Tryz.pinned.checked.prog)=true:=by kernel_rfl
theorem Od:((Rows.moduleLessUptoRow.plainKeys==Tryz.pinned.checked.prog.plainKeys))=true:=by kernel_rfl
theorem N4:(Tryz.pinned.checked.prog.stopsHeard)=true:=by kernel_rfl
theorem Mg:(Tryz.pinned.checked.prog.mayEnter)=true:=by kernel_rfl
theorem R2:(Rows.moduleLessUptoRow.wf (OpenSpec.ofChange (Rows.OpenSpec.upto Rows.moduleLessSpec).bare))=true:=by kernel_rfl
theorem RA:(Tryz.f5.params.all (Tryz.pinned.checked.prog.readableRec ·))=true:=by kernel_rfl
theorem RU:(namedTie Tryz.pinned.checked.prog Rows.moduleLessUptoRow.named (Rows.OpenSpec.upto Rows.moduleLessSpec).bare.vars)=true:=by kernel_rfl
theorem RL:((Rows.moduleLessUptoRow.stops== []))=true:=by kernel_rfl
theorem RM:((Tryz.pinned.checked.prog.stops== []))=true:=by kernel_rfl
theorem RR:((Rows.moduleLessUptoRow.knobs== []))=true:=by kernel_rfl
theorem RH:((Tryz.pinned.checked.prog.stopKnobs== []))=true:=by kernel_rfl
theorem M5:((Rows.moduleLessUptoRow.maps==(Tryz.f5.params.toList++(Rows.OpenSpec.upto Rows.moduleLessSpec).bare.plain.varTypes Tryz.pinned.checked.prog).any (Tryz.pinned.checked.prog.mapsRec ·)))=true:=by kernel_rfl
theorem O3:((Rows.moduleLessUptoRow.ifaces==(Tryz.f5.params.toList++(Rows.OpenSpec.upto Rows.moduleLessSpec).bare.plain.varTypes Tryz.pinned.checked.prog).any (Tryz.pinned.checked.prog.ifacesRec ·)))=true:=by kernel_rfl
theorem Pq:((Rows.moduleLessUptoRow.mapsOut==Tryz.pinned.checked.prog.mapsAmong Tryz.f5.resultTypes.toList))=true:=by kernel_rfl
theorem Mr:((Rows.moduleLessUptoRow.loops==(Tryz.f5.params.toList++(Rows.OpenSpec.upto Rows.moduleLessSpec).bare.plain.varTypes Tryz.pinned.checked.prog).any (Tryz.pinned.checked.prog.loopsFrom ·)))=true:=by kernel_rfl
theorem OS:((Rows.moduleLessUptoRow.wideKeys==(Tryz.f5.params.toList++(Rows.OpenSpec.upto Rows.moduleLessSpec).bare.plain.varTypes Tryz.pinned.checked.prog++Tryz.f5.resultTypes.toList).any (Tryz.pinned.checked.prog.wideKeysFrom ·)))=true:=by kernel_rfl
theorem NS:((Rows.OpenSpec.upto Rows.moduleLessSpec).bare.vars.all (Tryz.pinned.checked.prog.varReadable ·))=true:=by kernel_rfl
theorem L3:(Tryz.f5.resultTypes.all (fun t=>Tryz.pinned.checked.prog.readableRec t&&decide (t<Tryz.pinned.checked.prog.types.size)))=true:=by kernel_rfl
theorem Ow:((Rows.moduleLessUptoRow.ifacesOut==Tryz.f5.resultTypes.toList.any (Tryz.pinned.checked.prog.ifacesRec ·)))=true:=by kernel_rfl
theorem NF:((Rows.moduleLessUptoRow.loopsOut==Tryz.f5.resultTypes.toList.any (Tryz.pinned.checked.prog.loopsFrom ·)))=true:=by kernel_rfl
theorem Mb:(Rows.moduleLessUptoRow.shortTexts.isNone)=true:=by kernel_rfl
theorem Ln:((Rows.moduleLessUptoRow.lifted==Tryz.pinned.checked.prog.liftsFinal))=true:=by kernel_rfl
theorem Mx:((Tryz.pinned.checked.prog.make==some Rows.moduleLessUptoRow.make))=true:=by kernel_rfl
theorem Ml:((Rows.moduleLessUptoRow.kinds==(if Rows.moduleLessUptoRow.domain.isEmpty then []else Tryz.f5.params.toList.map fun t=>match Tryz.pinned.checked.prog.underlying t with|some (.int k)=>some k| _=>none)))=true:=by kernel_rfl
theorem MO:((Rows.moduleLessUptoRow.pinned==Rows.moduleLessUptoRow.pinnedBy))=true:=by kernel_rfl
theorem Nw:((Rows.moduleLessUptoRow.veiled==(Tryz.f5.params.toList++(Rows.OpenSpec.upto Rows.moduleLessSpec).bare.plain.varTypes Tryz.pinned.checked.prog++Tryz.f5.resultTypes.toList).any (Tryz.pinned.checked.prog.veiledRec ·)))=true:=by kernel_rfl
theorem Ps:(Rows.moduleLessUptoRow.veiledFits Tryz.pinned.checked.prog Tryz.f5.params.toList (Tryz.f5.params.toList++(Rows.OpenSpec.upto Rows.moduleLessSpec).bare.plain.varTypes Tryz.pinned.checked.prog++Tryz.f5.resultTypes.toList))=true:=by kernel_rfl
end lawEl
namespace lawEl
open Go.ChangeShapes Go.WideShapes Go.ChangeAt Go.RowKit Go.Proofs.YtpdlmdlkecnpgaaGreatDoor
theorem pars:Tryz.f5.params.toList= [33]:=by rw[Tryz.params5]
theorem pars_ok:∀t,t∈Tryz.f5.params.toList→Tryz.prog.readableRec t=true∧t<Tryz.prog.types.size:=by
 rw[pars]
 intro t ht
 simp only[List.mem_cons,List.not_mem_nil,or_false]at ht
 rcases ht with rfl<;>exact⟨by kernel_rfl,of_decide_eq_true (by kernel_rfl)⟩
theorem contract (H:Type) (enc:TypeId×Value→H) (W:World) (base:Nat) (args:Array Value) (ds gs:List (DataW H)) (before:List MemPlace)
 (hval:∀(j:Nat) t v,Tryz.f5.params[j]? =some t→args[j]? =some v→Value.okWide Tryz.prog W .any base t v)
 (hW:DataW.Whole enc Tryz.prog Tryz.f5.params.toList Rows.moduleLessSpec.vars false W args.toList ds gs before) (hk:Rows.uptoSmall H (ds++gs)=true) (hL:laidMetH Tryz.prog Rows.moduleLessUptoRow.laid W):
 Calls Tryz.prog 5 args W fun e W'=>∃v,e= .returned v∧Rows.moduleLessSpec.post enc Tryz.prog Tryz.f5 false true false false W args v W':=by
 have hW':=hW
 obtain⟨p,q,hA0,hV,rfl,hfz,hnd⟩:=hW
 have hA:DataW.TrodAll enc Tryz.prog W 0 (fun _=>true) true Tryz.f5.params.toList args.toList ds p:=hA0
 rw[Tryz.params5]at hA hval
 obtain⟨v0,d0,rfl,rfl,h0⟩:=trodAll_one hA
 obtain⟨c0,e0,_⟩:=okWide_struct Tryz.underlying33 (hval 0 33 v0 rfl rfl)
 subst e0
 obtain⟨fuel0,hf0⟩:=h0
 obtain⟨m0,M0,Q0,W0⟩:=GA _ _ _ hf0
 have M0:cI c0.toList m0 W:=M0
 have W0:ip m0≤Rows.uptoBulk d0:=W0
 have gl:=ui hL
 have hb:=of_decide_eq_true hk
 simp only[List.cons_append,List.nil_append,Rows.uptoBulkAll]at hb
 refine(Ch gl (c:=c0.toList) M0 Q0 (by omega)).mono fun e W' ⟨he,hg⟩=> ?_
 subst he
 exact⟨_,rfl,BO hW' rfl (by kernel_rfl) pars_ok rfl hg⟩
theorem laid_met (os:Os):laidMet Tryz.prog Rows.moduleLessUptoRow.laid ((jH os).forCall (fun _ _=>0) ⟨#[],#[.agg #[.slice none 0 0,.slice none 0 0,.slice none 0 0,.slice none 0 0,.slice none 0 0,.slice none 0 0,.slice none 0 0,.slice none 0 0,.int .i64 0,.slice none 0 0,.slice none 0 0]],[]⟩).memory:=
 laidMet_of_run' 8 (by kernel_rfl) (by kernel_rfl)
theorem reads (os:Os) {H:Type} (enc:TypeId×Value→H):∃places,DataW.whole enc Tryz.prog ((jH os).forCall (fun _ _=>0) ⟨#[],#[.agg #[.slice none 0 0,.slice none 0 0,.slice none 0 0,.slice none 0 0,.slice none 0 0,.slice none 0 0,.slice none 0 0,.slice none 0 0,.int .i64 0,.slice none 0 0,.slice none 0 0]],[]⟩).memory Tryz.f5.params.toList Rows.moduleLessSpec.vars false #[Value.agg #[.slice none 0 0,.slice none 0 0,.slice none 0 0,.slice none 0 0,.slice none 0 0,.slice none 0 0,.slice none 0 0,.slice none 0 0,.int .i64 0,.slice none 0 0,.slice none 0 0]].toList 8=some ([.agg [.nil,.nil,.nil,.nil,.nil,.nil,.nil,.nil,.lit (.int .i64 0),.nil,.nil]],[],places):=
 ⟨[],by kernel_rfl⟩
theorem lifted (os:Os) (started:os.Started) (H:Type) (enc:TypeId×Value→H) (F:Stop.Interp):
 ReturnsInHanded {} Tryz.checked os 5 .any ((Rows.OpenSpec.upto Rows.moduleLessSpec).preRow enc Tryz.prog Tryz.f5 Rows.moduleLessUptoRow.domain false Rows.moduleLessUptoRow.laid) (((Rows.OpenSpec.upto Rows.moduleLessSpec).at F).post enc Tryz.prog Tryz.f5 false true false false):=by
 obtain⟨places,hx⟩:=reads os enc
 refine returnsInHanded_of_row (C:=Tryz.checked) (s:=(Rows.OpenSpec.upto Rows.moduleLessSpec)) own started (by kernel_rfl) Tryz.func5
  (witness_row_at (enc:=enc) (C:=Tryz.checked) false (jH os) #[.agg #[.slice none 0 0,.slice none 0 0,.slice none 0 0,.slice none 0 0,.slice none 0 0,.slice none 0 0,.slice none 0 0,.slice none 0 0,.int .i64 0,.slice none 0 0,.slice none 0 0]] rfl (by kernel_rfl) (by kernel_rfl) (by kernel_rfl)
   (OpenSpec.preRow_of_cond 8 hx (by kernel_rfl) (fun k hk=>by cases hk;kernel_rfl) (by kernel_rfl) (laid_met os))) ?_
 exact Vk
theorem said_named:Tryz.pinned.checked.prog.funcNamed Rows.moduleLessUptoRow.func=some 5:=by kernel_rfl
theorem said_facts:joinedFacts Tryz.pinned.checked.prog 5 Tryz.f5 (Rows.OpenSpec.upto Rows.moduleLessSpec).bare Rows.moduleLessUptoRow=true:=by
 exact XB
theorem said_inst:Tryz.f5.isInstance Tryz.pinned.checked.prog Rows.moduleLessUptoRow.origin Rows.moduleLessUptoRow.targs:=of_decide_eq_true (by kernel_rfl)
theorem said_wrap:Tryz.f5.isWrapper Tryz.pinned.checked.prog Rows.moduleLessUptoRow.wrapper Rows.moduleLessUptoRow.mainSum:=by unfold Func.isWrapper;first|(rw[if_pos (by decide+kernel)];kernel_rfl)|(rw[if_neg (by decide+kernel)];exact⟨rfl,rfl⟩)
theorem said:Rows.ModuleLessUptoSaid:=
 OpenClaim.holds_of_cond 5 Tryz.f5 rfl rfl rfl rfl rfl rfl rfl ⟨rfl,rfl,rfl,rfl,rfl⟩ rfl rfl rfl rfl rfl said_named Tryz.func5 said_facts
  said_inst said_wrap
  (fun os started H enc _ F=>by rw[OpenClaim.pre_eq_preRow];exact lifted os started H enc F)
theorem plain (f:FuncId) (fn:Func) (hf:Tryz.pinned.checked.prog.funcNamed "geode/geodelaw08.ModuleLess" =some f) (hfn:Tryz.pinned.checked.prog.funcs[f]? =some fn):
 false=Tryz.pinned.checked.prog.looks []∧∀(j:Nat) t,fn.params[j]? =some t→Tryz.pinned.checked.prog.wantsStandIn t=false:=by
 obtain rfl:f=5:=Option.some.inj ((show Tryz.prog.funcNamed "geode/geodelaw08.ModuleLess" =some 5 by kernel_rfl).symm.trans hf)|>.symm
 obtain rfl:fn=Tryz.f5:=(Option.some.inj (Tryz.func5.symm.trans hfn)).symm
 refine⟨by kernel_rfl,fun j t ht=> ?_⟩
 rw[Tryz.params5]at ht
 have hm:=Array.mem_of_getElem? ht
 simp only[List.mem_toArray,List.mem_cons,List.not_mem_nil,or_false]at hm
 rcases hm with rfl
 ·exact(show Tryz.prog.wantsStandIn 33=false by kernel_rfl)
theorem card:Rows.ModuleLessUptoCardSaid:=
 Claim7.holds_tied_plain_at .later [] _ _ _ _ said (fun _ h=>by cases h) (by kernel_rfl) (fun _ h=>by cases h) moduleLessUpto_row_tie rfl ⟨rfl,rfl⟩ (by kernel_rfl) rfl plain (by kernel_rfl)
end lawEl
theorem moduleLessUpto_card:Rows.ModuleLessUptoCardSaid:=lawEl.card
#print axioms moduleLessUpto_card
end Go.Proofs.YtpdlmdlkecnpgaaGreatDoor
