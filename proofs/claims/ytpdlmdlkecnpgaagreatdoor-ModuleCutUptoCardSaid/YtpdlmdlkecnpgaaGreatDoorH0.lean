/- Closing blocks of tactics that stand in more than one place, each as a lemma with a default proof. -/
import Derived.ProofKit
import Derived.WalkKit
import Derived.WalkSpells
import Derived.WalkLawsBesides
import Derived.Deep.QuietTactic
import Derived.BigQuiet
import Derived.LaidEqlPtr
import Derived.Deep.AppendSrc
import Derived.Deep.Upon
import Derived.Deep.RegionWith
import Derived.Deep.LoopGhost
import Derived.Deep.RegionLaw
import Derived.Deep.RegionLawGrows
import Derived.Lib.Hide
import Derived.OpenShut
import Derived.Deep.DeepHandedRow
import Derived.Lib.LaidTab
import Derived.Lib.SliceRun
import Derived.Deep.Slices
import Derived.Lib.SmallJoins
import Derived.Deep.RegionHeld3
import Derived.RegionTactic
import Derived.Deep.DeepCutAuto
import Derived.Deep.MidRow
import Derived.Lib.Bytealg
import Derived.Laws.Externs
import Derived.Laws.StandIn
import Derived.IntWalk
import Derived.Great.BuildSlice
import Derived.Lib.DecodeN
import Derived.Lib.Strings
import Derived.Laws.IdiomStrings
import Derived.Laws.Runes
import Derived.Laws.RangeAny
import Derived.Laws.Strings3
import Derived.Laws.StructEq
import Derived.Shelf.Abstract
set_option linter.unusedSimpArgs false
set_option linter.unusedVariables false
namespace Go.Proofs.YtpdlmdlkecnpgaaGreatDoor
theorem y1 {p:Prop} (h:p:=by
 go_enter Tryz.func255,Tryz.ntmps255
 go_wp2_with first|(refine bC (ty:=177) rfl rfl rfl eB rfl ?_;refine Tl ?_)|(refine iE (ty:=177) rfl rfl rfl rfl ?_;refine W9 ?_;intro wN hS hFN;(try clear hQ);have hQ:=St.fq hS.st;(try clear hN);have hN:=St.aq hS.st)|(go_at_call 274;refine lL fun hT=> ?_;refine(tu hT.rd (hT.gl7' hg)).mono ?_;rintro e w1 ⟨rfl,hR1,hF1⟩;have hS:=hT.call hR1 hF1;clear hT hR1 hF1;(try clear hQ);have hQ:=St.fq hS.st;(try clear hN);have hN:=St.aq hS.st)|(go_at_call 233;refine lL fun hT=> ?_;refine(dd (hT.gl7 hg) _ (by omega) (by omega)).mono ?_;rintro e w1 ⟨rfl,hF1⟩;have hS:=hT.step0 hF1;clear hT hF1;(try clear hQ);have hQ:=St.fq hS.st;(try clear hN);have hN:=St.aq hS.st;(try rw[HK.out]))|(go_at_call 256;(try clear hQ);refine kL (fun h=>eV h) fun w1 hS hQ hN=> ?_)|(go_at_call 275;(try clear hQ);refine kL (fun h=>tq h) fun w1 hS hQ hN=> ?_)|(go_at_call 277;refine lL fun hT=> ?_;refine(sT (op:=(bA bs s).1) hT).mono ?_;rintro e w1 ⟨rfl,hS⟩;unfold cp aa.of at hS;(try clear hQ);have hQ:=St.fq hS.st;(try clear hN);have hN:=St.aq hS.st)|(go_at_call 276;refine lL fun hT=> ?_;refine(sB hT.rd).mono ?_;rintro e w1 ⟨v1,rfl,hD⟩;have hS:=hT.join hD;simp only[List.cons_append,List.nil_append]at hS;have hO:bf [] _ _ _ _ _ _:=hS.st.head;obtain⟨a1,c1,rfl,hc1,hc2⟩:=bf.shape hO;clear hT hD hO;(try clear hQ);have hQ:=St.fq hS.st;(try clear hN);have hN:=St.aq hS.st)|(go_at_call 280;refine lL fun hT=> ?_;refine(oV hT.rd).mono ?_;rintro e w1 ⟨v1,rfl,hD⟩;have hS:=hT.join hD;simp only[List.cons_append,List.nil_append]at hS;have hO:bf [] _ _ _ _ _ _:=hS.st.head;obtain⟨a1,c1,rfl,hc1,hc2⟩:=bf.shape hO;clear hT hD hO;(try clear hQ);have hQ:=St.fq hS.st;(try clear hN);have hN:=St.aq hS.st)|(go_at_call 279;(try clear hQ);refine kL (fun h=>wR h) fun w1 hS hQ hN=> ?_)|(go_at_call 272;(try clear hQ);refine kL (fun h=>rI h) fun w1 hS hQ hN=> ?_)|(go_at_call 282;(try clear hQ);refine kL (fun h=>pK h) fun w1 hS hQ hN=> ?_)|(go_at_call 278;refine lL fun hT=> ?_;refine(zP hT.rd 32 (by decide) (by decide)).mono ?_;rintro e w1 ⟨rfl,hR1,hF1⟩;have hS:=hT.call hR1 hF1;clear hT hR1 hF1;(try clear hQ);have hQ:=St.fq hS.st;(try clear hN);have hN:=St.aq hS.st)|(go_at_call 278;refine lL fun hT=> ?_;refine(zP hT.rd 64 (by decide) (by decide)).mono ?_;rintro e w1 ⟨rfl,hR1,hF1⟩;have hS:=hT.call hR1 hF1;clear hT hR1 hF1;(try clear hQ);have hQ:=St.fq hS.st;(try clear hN);have hN:=St.aq hS.st)
 exact Wu
):p:=h
theorem y2 {p:Prop} (h:p:=by
 go_enter Tryz.func279,Tryz.ntmps279
 go_wp2_with first|(go_at_call 175;refine lL fun hT=> ?_;refine(d5 hT.rd).mono ?_;rintro e w1 ⟨rfl,rfl⟩;clear hT)|(go_at_call 278;refine lL fun hT=> ?_;refine(zP hT.rd 33 (by decide) (by decide)).mono ?_;rintro e w1 ⟨rfl,hR1,hF1⟩;have hl1:=hR1.le;have hw:=IntWalk.wrap64_in (((rS bs 33 s).2.at_:Nat)-(s.at_:Nat):Int) (by omega);have hS:=hT.call hR1 hF1;clear hT hR1 hF1;(try clear hQ);have hQ:=St.fq hS.st;(try clear hN);have hN:=St.aq hS.st)|(go_at_call 256;(try clear hQ);refine kL (fun h=>eV h) fun w1 hS hQ hN=> ?_)|(go_at_call 104;refine lL fun hT=> ?_;refine(MB (S:= []) (bs:= [UInt8.ofNat (iH (rS bs 33 s).1)]) (by show Sl [] _ 1 _ 1 [B (UInt8.ofNat (iH (rS bs 33 s).1))];rw[hB.out];exact bB.sl1 (hT.st.loc bg.here) rfl (by simp)) hT.gl0 (by simp)).mono ?_;rintro e w2 ⟨ra,va,rfl,hA,hN2,hF2⟩;have hO:=hT;clear hT)|(go_at_call 254;refine(qP hA).mono ?_;rintro e w3 ⟨rfl,hA3,hF3⟩;have hAa:=hA3.alloc;have hS:=hO.alone hF2 hN2 hF3;clear hO hF2 hN2 hF3;(try clear hQ);have hQ:=St.fq hS.st;(try clear hN);have hN:=St.aq hS.st)|(go_at_call 176;refine(Dk (hAa _)).mono ?_;rintro e w' ⟨rfl,nq,rfl⟩)|(go_at_call 272;(try clear hQ);refine kL (fun h=>rI h) fun w1 hS hQ hN=> ?_)|(go_at_call 174;(try clear hQ);refine kL (fun h=>dY h _ _) fun w1 hS hQ hN=> ?_)
 refine uT rfl rfl yS rfl rfl ?_;refine Yp ?_
 exact⟨rfl,by exact tH,by exact td⟩
):p:=h
theorem y3 {p:Prop} (h:p:=by
 go_wp2_with first|(refine oY rfl rfl rfl ?_;refine QE ?_;intro wN hS;(try clear hQ);have hQ:=St.fq hS)|(go_at_call 11;refine(hM.out _ (by exact aM)).mono ?_;rintro e w4 ⟨rfl,hF4⟩;rw[HM.out];(try clear hQ);refine cB hF4 fun hS hQ=> ?_)|(go_at_call 33;refine(pL _ m.funcs (an.fr dG.fr h2 (by exact aM))).mono ?_;rintro e w4 ⟨rfl,hF4⟩;rw[HN.out];(try clear hQ);refine cB hF4 fun hS hQ=> ?_)|(go_at_call 13;refine(rC gv (p:=cm) (St.pick (G:= _) (by exact aA) (by exact aK)) h0 (by exact bS) HPgrp.out).mono ?_;rintro e w4 ⟨v4,rfl,hS⟩;(try clear hQ);have hQ:=St.fq hS)|(go_at_call 15;refine(rf gp (p:=dR) (St.pick (G:= _) (by exact aA) (by exact aK)) h1 (by exact bS) HPimp.out).mono ?_;rintro e w4 ⟨v4,rfl,hS⟩;(try clear hQ);have hQ:=St.fq hS)|(go_at_call 20;refine(rL jj (p:=fD) (St.pick (G:= _) (by exact aA) (by exact aK)) h3 (by exact bS) HPtab.out).mono ?_;rintro e w4 ⟨v4,rfl,hS⟩;(try clear hQ);have hQ:=St.fq hS)|(go_at_call 22;refine(ro fR (p:=ea) (St.pick (G:= _) (by exact aA) (by exact aK)) h4 (by exact bS) HPlim.out).mono ?_;rintro e w4 ⟨v4,rfl,hS⟩;(try clear hQ);have hQ:=St.fq hS)|(go_at_call 24;refine(sh gj (p:=eW) (St.pick (G:= _) (by exact aA) (by exact aK)) h5 (by exact bS) HPint.out).mono ?_;rintro e w4 ⟨v4,rfl,hS⟩;(try clear hQ);have hQ:=St.fq hS)|(go_at_call 26;refine(rV jm (p:=gg) (St.pick (G:= _) (by exact aA) (by exact aK)) h6 (by exact bS) HPglo.out).mono ?_;rintro e w4 ⟨v4,rfl,hS⟩;(try clear hQ);have hQ:=St.fq hS)|(go_at_call 28;refine(su gq (p:=fF) (St.pick (G:= _) (by exact aA) (by exact aK)) h7 (by exact bS) HPexp.out).mono ?_;rintro e w4 ⟨v4,rfl,hS⟩;(try clear hQ);have hQ:=St.fq hS)|(go_at_call 31;refine(py fH (p:=cw) (St.pick (G:= _) (by exact aA) (by exact aK)) h9 (by exact bS) HPelem.out).mono ?_;rintro e w4 ⟨v4,rfl,hS⟩;(try clear hQ);have hQ:=St.fq hS)|(go_at_call 37;refine(sj gP (p:=eu) (St.pick (G:= _) (by exact aA) (by exact aK)) h10 (by exact bS) HPdat.out).mono ?_;rintro e w4 ⟨v4,rfl,hS⟩;(try clear hQ);have hQ:=St.fq hS)|(go_at_call 17;(with_reducible refine(rx dG (p:=(fun f=>au f.type)) (St.pick (G:= _) (by exact aA) (by exact aK)) h2 (by exact bS) HPfun.out).mono ?_);rintro e w4 ⟨v4,rfl,hS⟩;(try clear hQ);have hQ:=St.fq hS)|(go_at_call 17;refine(rQ dG (p:=dq) (St.pick (G:= _) (by exact aA) (by exact aK)) h2 (by exact bS) HPcod.out).mono ?_;rintro e w4 ⟨v4,rfl,hS⟩;(try clear hQ);have hQ:=St.fq hS)|fail
 go_ret2
 exact⟨_,rfl,hS.sel (by exact ic)⟩
):p:=h
theorem y4 {p:Prop} (h:p:=by
 have hB:=Nk
 unfold eS zL
 rw[hk]
 simp only[jR,qI,nP,mO,e0,e1,if_true,if_false,Bool.false_eq_true,Bool.true_eq_false,Nat.reduceEqDiff,Nat.reduceLT,reduceCtorEq,Nat.lt_irrefl,Nat.zero_ne_one,Nat.one_ne_zero,Nat.succ_ne_zero]
 clear e0 e1
 go_enter Tryz.func166,Tryz.ntmps166
 go_wp2_with first|(go_at_call 205;refine hU fun hT=> ?_;(with_reducible refine(eG 7 7 7 7 rfl rfl (by decide) (by decide) hT.rd).mono ?_);rintro e w1 ⟨rfl,hR1,hF1⟩;have hS:=hT.call hR1 hF1;clear hT hR1 hF1;(try clear hQ);have hQ:=St.fq hS.r.st;(try clear hN);have hN:=St.aq hS.r.st)|(go_at_call 205;refine hU fun hT=> ?_;(with_reducible refine(eG 0 0 0 0 rfl rfl (by decide) (by decide) hT.rd).mono ?_);rintro e w1 ⟨rfl,hR1,hF1⟩;have hS:=hT.call hR1 hF1;clear hT hR1 hF1;(try clear hQ);have hQ:=St.fq hS.r.st;(try clear hN);have hN:=St.aq hS.r.st)|(go_at_call 163;(try clear hQ);refine ia (fun h=>ko h) fun w1 hS hQ hN=> ?_)|(go_at_call 211;refine hU fun hT=> ?_;refine(nL hT.wide (hT.gl7 hg) hsm).mono ?_;rintro e w1 ⟨a1,c1,rfl,hP1,hR1,hF1⟩;have hS:=hT.callK hR1 hF1 hP1;clear hT hR1 hF1 hP1;(try clear hQ);have hQ:=St.fq hS.r.st;(try clear hN);have hN:=St.aq hS.r.st)|(go_at_call 218;(try clear hQ);refine ia (fun h=>El h) fun w1 hS hQ hN=> ?_)|(go_at_call 219;refine hU fun hT=> ?_;(with_reducible refine(Br hT.wide (hT.gl7 hg) hsm).mono ?_);rintro e w1 ⟨v1,cs1,rfl,hK⟩;have hT2:=hT.join hK;simp only[List.cons_append,List.nil_append]at hT2;have hO:bf [] _ _ _ _ _ _:=hT2.r.st.head;obtain⟨a5,c5,rfl,_,_⟩:=bf.shape hO;have hS:=hT2.ownK bg.here;clear hT hT2 hK hO;(try clear hQ);have hQ:=St.fq hS.r.st;(try clear hN);have hN:=St.aq hS.r.st)|(go_at_call 219;refine hU fun hT=> ?_;(with_reducible refine(CM hT.wide (hT.gl7 hg) hsm).mono ?_);rintro e w1 ⟨v1,cs1,rfl,hK⟩;have hT2:=hT.join hK;simp only[List.cons_append,List.nil_append]at hT2;have hO:bf [] _ _ _ _ _ _:=hT2.r.st.head;obtain⟨a5,c5,rfl,_,_⟩:=bf.shape hO;have hS:=hT2.ownK bg.here;clear hT hT2 hK hO;(try clear hQ);have hQ:=St.fq hS.r.st;(try clear hN);have hN:=St.aq hS.r.st)
 refine lf rfl rfl xq rfl rfl ?_;refine Vy ?_
 refine⟨_,rfl,rfl,by simp[Value.oneCell'],?_,by exact rz,by exact rY⟩
 (apply KT.fin;(·exact gL));intro wz hz
 exact⟨_,_,rfl,Vv (hz _ List.mem_cons_self) (hz _ (by simp)),hz _ (by simp)⟩
):p:=h
theorem y5 {p:Prop} (h:p:=by
 have hB:=Nk
 unfold eS zL
 rw[hk]
 simp only[jR,qI,nP,mO,e0,e1,if_true,if_false,Bool.false_eq_true,Bool.true_eq_false,Nat.reduceEqDiff,Nat.reduceLT,reduceCtorEq,Nat.lt_irrefl,Nat.zero_ne_one,Nat.one_ne_zero,Nat.succ_ne_zero]
 clear e0 e1
 go_enter Tryz.func166,Tryz.ntmps166
 go_wp2_with first|(go_at_call 205;refine hU fun hT=> ?_;(with_reducible refine(eG 7 7 7 7 rfl rfl (by decide) (by decide) hT.rd).mono ?_);rintro e w1 ⟨rfl,hR1,hF1⟩;have hS:=hT.call hR1 hF1;clear hT hR1 hF1;(try clear hQ);have hQ:=St.fq hS.r.st;(try clear hN);have hN:=St.aq hS.r.st)|(go_at_call 205;refine hU fun hT=> ?_;(with_reducible refine(eG 0 0 0 0 rfl rfl (by decide) (by decide) hT.rd).mono ?_);rintro e w1 ⟨rfl,hR1,hF1⟩;have hS:=hT.call hR1 hF1;clear hT hR1 hF1;(try clear hQ);have hQ:=St.fq hS.r.st;(try clear hN);have hN:=St.aq hS.r.st)|(go_at_call 163;(try clear hQ);refine ia (fun h=>ko h) fun w1 hS hQ hN=> ?_)|(go_at_call 211;refine hU fun hT=> ?_;refine(nL hT.wide (hT.gl7 hg) hsm).mono ?_;rintro e w1 ⟨a1,c1,rfl,hP1,hR1,hF1⟩;have hS:=hT.callK hR1 hF1 hP1;clear hT hR1 hF1 hP1;(try clear hQ);have hQ:=St.fq hS.r.st;(try clear hN);have hN:=St.aq hS.r.st)|(go_at_call 218;(try clear hQ);refine ia (fun h=>El h) fun w1 hS hQ hN=> ?_)|(go_at_call 219;refine hU fun hT=> ?_;(with_reducible refine(Br hT.wide (hT.gl7 hg) hsm).mono ?_);rintro e w1 ⟨v1,cs1,rfl,hK⟩;have hT2:=hT.join hK;simp only[List.cons_append,List.nil_append]at hT2;have hO:bf [] _ _ _ _ _ _:=hT2.r.st.head;obtain⟨a5,c5,rfl,_,_⟩:=bf.shape hO;have hS:=hT2.ownK bg.here;clear hT hT2 hK hO;(try clear hQ);have hQ:=St.fq hS.r.st;(try clear hN);have hN:=St.aq hS.r.st)|(go_at_call 219;refine hU fun hT=> ?_;(with_reducible refine(CM hT.wide (hT.gl7 hg) hsm).mono ?_);rintro e w1 ⟨v1,cs1,rfl,hK⟩;have hT2:=hT.join hK;simp only[List.cons_append,List.nil_append]at hT2;have hO:bf [] _ _ _ _ _ _:=hT2.r.st.head;obtain⟨a5,c5,rfl,_,_⟩:=bf.shape hO;have hS:=hT2.ownK bg.here;clear hT hT2 hK hO;(try clear hQ);have hQ:=St.fq hS.r.st;(try clear hN);have hN:=St.aq hS.r.st)
 refine lf rfl rfl xq rfl rfl ?_;refine Vy ?_
 refine⟨_,rfl,rfl,by simp[Value.oneCell'],?_,by exact rz,by exact rY⟩
 (apply KT.fin;(·exact gL));intro wz hz
 exact⟨_,_,rfl,Vv (hz _ List.mem_cons_self) (hz _ (by simp)),eo.nil _⟩
):p:=h
theorem y6 {p:Prop} (h:p:=by
 have HK:=Lib.hid hk
 go_enter Tryz.func142,Tryz.ntmps142
 go_wp2_with first|(refine bC (ty:=79) rfl rfl rfl sk rfl ?_;refine Yr ?_)|(refine ss (ty:=79) rfl rfl rfl rfl ?_;refine Xc ?_;intro wN hS;(try clear hQ);have hQ:=St.fq hS.r.st;(try clear hN);have hN:=St.aq hS.r.st)|(go_at_call 171;(try clear hQ);refine ia (fun h=>AB h) fun w1 hS hQ hN=> ?_)|(go_at_call 205;refine hU fun hT=> ?_;(with_reducible refine(eG 7 4 7 4 rfl rfl (by decide) (by decide) hT.rd).mono ?_);rintro e w1 ⟨rfl,hR1,hF1⟩;have hS:=hT.call hR1 hF1;clear hT hR1 hF1;(try clear hQ);have hQ:=St.fq hS.r.st;(try clear hN);have hN:=St.aq hS.r.st)|(go_at_call 163;(try clear hQ);refine ia (fun h=>ko h) fun w1 hS hQ hN=> ?_)|(go_at_call 206;(try clear hQ);refine ia (fun h=>vY h) fun w1 hS hQ hN=> ?_)|(go_at_call 152;(try clear hQ);refine ia (fun h=>sS h) fun w1 hS hQ hN=> ?_)|(go_at_call 207;(try clear hQ);refine ia (fun h=>BH h) fun w1 hS hQ hN=> ?_)|(go_at_call 155;(try clear hQ);refine ia (fun h=>LX h) fun w1 hS hQ hN=> ?_)
 refine lf rfl rfl sk rfl rfl ?_;refine WX ?_
 exact⟨by first|rfl|(rw[HK.out];rfl),by exact rz,by exact rY⟩
):p:=h
theorem y7 {p:Prop} (h:p:=by
 repeat(first|(with_reducible assumption)|(with_reducible refine Rd.setLoc ?_ (by simp) (by omega) _ _)|(with_reducible apply Rd.alloc)|(with_reducible apply Rd.drewN))
):p:=h
theorem y8 {p:Prop} (h:p:=by
 (try clear g1)
 (try clear g4)
 (try clear g5)
 unfold cj
 go_enter Tryz.func53,Tryz.ntmps53
 go_wp2_with first|(refine AN Fo rfl rfl rfl rfl ((GF ek ek2 en en2 hk hk2 hn hn2 _).trans (by rw[T1.out])) ?_)|(go_at_call 111;refine(kI (eo.fr p2x (by exact aM)) (eo.fr q2x (by exact aM))).mono ?_;rintro e w4 ⟨rfl,hF4⟩;rw[T4.out];(try clear hQ);refine cB hF4 fun hS hQ=> ?_)|(go_at_call 112;refine(HE.out _ (by exact aM)).mono ?_;rintro e w4 ⟨rfl,hF4⟩;rw[T5.out];(try clear hQ);refine cB hF4 fun hS hQ=> ?_)|fail
 go_ret
 refine⟨?_,by exact aM⟩
 rw[EQ.out]
 (try rw[T1.out])
 (try rw[T2.out])
 (try rw[T3.out])
 (try rw[T4.out])
 (try rw[T5.out])
 rfl
):p:=h
theorem y9 {p:Prop} (h:p:=by
 have hmf:∀(fn:Fn) (first cap:Array Value) (w:World),(Instr.makeFunc fn first cap).run Tryz.prog w= .ok (.func fn first cap) w:=fun _ _ _ _=>rfl
 cases cv<;>first|(cases hcv;done)|skip
 all_goals
  go_enter Tryz.func105,Tryz.ntmps105
  go_wp2
  go_ret
  exact⟨rfl,rfl⟩
):p:=h
theorem xI {p:Prop} (h:p:=by
 rcases q with q1|⟨q1,q2⟩
 all_goals
  go_enter Tryz.func274,Tryz.ntmps274
  go_wp2_with first|(go_at_call 175;refine lL fun hT=> ?_;refine(d5 hT.rd).mono ?_;rintro e w1 ⟨rfl,rfl⟩;clear hT)|(go_at_call 210;(try clear hQ);refine kL (fun h=>fd h) fun w1 hS hQ hN=> ?_)|(go_at_call 213;(try clear hQ);refine kL (fun h=>zJ h 32 (by decide) (by decide)) fun w1 hS hQ hN=> ?_)|(go_at_call 287;refine lL fun hT=> ?_;refine(yg (hT.gl7 hg) _).mono ?_;rintro e w1 ⟨rfl,hF1⟩;have hS:=hT.step0 hF1;clear hT hF1;(try clear hQ);have hQ:=St.fq hS.st;(try clear hN);have hN:=St.aq hS.st)|(go_at_call 233;refine lL fun hT=> ?_;refine(dd (hT.gl7 hg) _ (by omega) (by omega)).mono ?_;rintro e w1 ⟨rfl,hF1⟩;have hS:=hT.step0 hF1;clear hT hF1;(try clear hQ);have hQ:=St.fq hS.st;(try clear hN);have hN:=St.aq hS.st)|(go_at_call 174;(try clear hQ);refine kL (fun h=>dY h _ _) fun w1 hS hQ hN=> ?_)
  (go_ret;exact⟨rfl,by exact tH,by exact td⟩)
):p:=h
theorem Gu {p:Prop} (h:p:=by
 have HU:=Lib.hid hu
 clear hu
 clear he hk e0
 go_enter Tryz.func255,Tryz.ntmps255
 go_wp2_with first|(refine bC (ty:=177) rfl rfl rfl eB rfl ?_;refine Tl ?_)|(refine iE (ty:=177) rfl rfl rfl rfl ?_;refine W9 ?_;intro wN hS hFN;(try clear hQ);have hQ:=St.fq hS.st;(try clear hN);have hN:=St.aq hS.st)|(go_at_call 274;refine lL fun hT=> ?_;refine(tu hT.rd (hT.gl7' hg)).mono ?_;rintro e w1 ⟨rfl,hR1,hF1⟩;have hS:=hT.call hR1 hF1;clear hT hR1 hF1;(try clear hQ);have hQ:=St.fq hS.st;(try clear hN);have hN:=St.aq hS.st)|(go_at_call 233;refine lL fun hT=> ?_;refine(dd (hT.gl7 hg) _ (by omega) (by omega)).mono ?_;rintro e w1 ⟨rfl,hF1⟩;have hS:=hT.step0 hF1;clear hT hF1;(try clear hQ);have hQ:=St.fq hS.st;(try clear hN);have hN:=St.aq hS.st;(try rw[HK.out]))|(go_at_call 256;(try clear hQ);refine kL (fun h=>eV h) fun w1 hS hQ hN=> ?_)|(go_at_call 275;(try clear hQ);refine kL (fun h=>tq h) fun w1 hS hQ hN=> ?_)|(go_at_call 277;refine lL fun hT=> ?_;refine(sT (op:=(bA bs s).1) hT).mono ?_;rintro e w1 ⟨rfl,hS⟩;unfold cp aa.of at hS;(try clear hQ);have hQ:=St.fq hS.st;(try clear hN);have hN:=St.aq hS.st)|(go_at_call 276;refine lL fun hT=> ?_;refine(sB hT.rd).mono ?_;rintro e w1 ⟨v1,rfl,hD⟩;have hS:=hT.join hD;simp only[List.cons_append,List.nil_append]at hS;have hO:bf [] _ _ _ _ _ _:=hS.st.head;obtain⟨a1,c1,rfl,hc1,hc2⟩:=bf.shape hO;clear hT hD hO;(try clear hQ);have hQ:=St.fq hS.st;(try clear hN);have hN:=St.aq hS.st)|(go_at_call 280;refine lL fun hT=> ?_;refine(oV hT.rd).mono ?_;rintro e w1 ⟨v1,rfl,hD⟩;have hS:=hT.join hD;simp only[List.cons_append,List.nil_append]at hS;have hO:bf [] _ _ _ _ _ _:=hS.st.head;obtain⟨a1,c1,rfl,hc1,hc2⟩:=bf.shape hO;clear hT hD hO;(try clear hQ);have hQ:=St.fq hS.st;(try clear hN);have hN:=St.aq hS.st)|(go_at_call 279;(try clear hQ);refine kL (fun h=>wR h) fun w1 hS hQ hN=> ?_)|(go_at_call 272;(try clear hQ);refine kL (fun h=>rI h) fun w1 hS hQ hN=> ?_)|(go_at_call 282;(try clear hQ);refine kL (fun h=>pK h) fun w1 hS hQ hN=> ?_)|(go_at_call 278;refine lL fun hT=> ?_;refine(zP hT.rd 32 (by decide) (by decide)).mono ?_;rintro e w1 ⟨rfl,hR1,hF1⟩;have hS:=hT.call hR1 hF1;clear hT hR1 hF1;(try clear hQ);have hQ:=St.fq hS.st;(try clear hN);have hN:=St.aq hS.st)|(go_at_call 278;refine lL fun hT=> ?_;refine(zP hT.rd 64 (by decide) (by decide)).mono ?_;rintro e w1 ⟨rfl,hR1,hF1⟩;have hS:=hT.call hR1 hF1;clear hT hR1 hF1;(try clear hQ);have hQ:=St.fq hS.st;(try clear hN);have hN:=St.aq hS.st)
 refine uT rfl rfl eB rfl rfl ?_;refine XX ?_
 refine⟨.slice none 0 0,.slice none 0 0,.slice none 0 0,by rw[HU.out];rfl,by(have hZ:=(((hS.nil 61 4 0).nil 3 1 0).nil 300 3 0);refine hZ.sel ?_;unfold qw;(exact zl))⟩
):p:=h
theorem XW {p:Prop} (h:p:=by
 have fX:∀r,(w4.alloc (.cells #[.int .i64 ck,.slice pa ps.length pc,.slice ra rs.length rc,.slice (some ⟨fb0,fo0,none⟩) fs.length fc] 134)).cell? ⟨fb0,fo0+r,none⟩=w4.cell? ⟨fb0,fo0+r,none⟩:=fun r=>World.cell?_alloc_lt _ _ ⟨fb0,fo0+r,none⟩ hflt
 have e0:=(fX 0).trans (hfc 0 (by decide))
 have e1:=(fX 1).trans (hfc 1 (by decide))
 have e2:=(fX 2).trans (hfc 2 (by decide))
 have e3:=(fX 3).trans (hfc 3 (by decide))
 have e4:=(fX 4).trans (hfc 4 (by decide))
 have e5:=(fX 5).trans (hfc 5 (by decide))
 simp only[Nat.add_zero,fG,List.getElem?_cons_zero,List.getElem?_cons_succ]at e0 e1 e2 e3 e4 e5
 have Hfc:=Lib.hid hfc
 clear hfc fX
 go_wp2_with fail
 have hfc:=Hfc.out
 go_region_held3 (fun w'=>w'.cell? ⟨w4.heap.size,3,none⟩=some (.slice (some ⟨fb0,fo0,none⟩) fs.length fc)∧w'.cell? ⟨fb0,fo0,none⟩=some (.int .i64 f0.pack)∧w'.cell? ⟨fb0,fo0+1,none⟩=some (.int .i64 f0.val.kind)∧w'.cell? ⟨fb0,fo0+2,none⟩=some (.bool f0.val.null)∧w'.cell? ⟨fb0,fo0+3,none⟩=some (.int .i64 f0.val.heap.kind)∧w'.cell? ⟨fb0,fo0+4,none⟩=some (.int .i64 f0.val.heap.n)∧w'.cell? ⟨fb0,fo0+5,none⟩=some (.bool f0.mut_))
  (first|(exact⟨kc5,(fc5 0).trans (hfc 0 (by decide)),(fc5 1).trans (hfc 1 (by decide)),(fc5 2).trans (hfc 2 (by decide)),(fc5 3).trans (hfc 3 (by decide)),(fc5 4).trans (hfc 4 (by decide)),(fc5 5).trans (hfc 5 (by decide))⟩)|(exact⟨kc6,(fc6 0).trans<|(fc5 0).trans (hfc 0 (by decide)),(fc6 1).trans<|(fc5 1).trans (hfc 1 (by decide)),(fc6 2).trans<|(fc5 2).trans (hfc 2 (by decide)),(fc6 3).trans<|(fc5 3).trans (hfc 3 (by decide)),(fc6 4).trans<|(fc5 4).trans (hfc 4 (by decide)),(fc6 5).trans<|(fc5 5).trans (hfc 5 (by decide))⟩)|(exact⟨by simp,e0,e1,e2,e3,e4,e5⟩)|(go_keep;done))
  (first|(refine eZ (by rfl) (.tmp 31) (.tmp 32) _ (by rfl) _ _ _ (by rfl) hO _ _ _ (by rfl) (j6 aB hXs _ _ _ rfl) hb1 ?_;intro v5 w5 hown5 hf5 hb5;have hA5:=(Ap.fr0 fO).trans (Ap.of hf5 hb5);have hAW5:=hAX.trans hA5;have hoW5:=cX.app1 (c:=94) hown5;have hgW5:=hgW.ap hAW5;have p2:=s2W.ap hAW5;have p3:=s3W.ap hAW5;have p4:=s4W.ap hAW5;have kb5:=hA5.not hltX hbW;have hL5:=hLX.ap hA5 hbW;have kc5:=hL5.cell 3;have fc5:∀r,w5.cell? ⟨fb0,fo0+r,none⟩=w4.cell? ⟨fb0,fo0+r,none⟩:=(fun r=>hAW5.1.cell hflt hfS _);have fs5:=hAW5.not hflt hfS;have fl5:=Nat.lt_of_lt_of_le hflt hAW5.1.size)|(go_at_call 191;refine(ob _ hgW5 _ f0 hoW5 hok0 hx5).mono ?_;rintro e w6 ⟨v6,rfl,ho6,hA6⟩;have hL6:=hL5.ap hA6 kb5;have kc6:=hL6.cell 3;have fc6:∀r,w6.cell? ⟨fb0,fo0+r,none⟩=w5.cell? ⟨fb0,fo0+r,none⟩:=(fun r=>hA6.1.cell fl5 fs5 _)))
 exact QB
):p:=h
theorem KG {p:Prop} (h:p:=by
 have q1:(t.err !=0)=true:=by simp[he]
 have He:=Lib.hid he
 clear he
 go_wp2_with (go_at_call 222;(try clear hQ);refine ia (fun h=>dI h) fun w1 hS hQ hN=> ?_)
 go_ret
 exact cV.fin hS hI (.inr He.out)
):p:=h
theorem VG {p:Prop} (h:p:=by
 (try clear g3)
 (try clear g4)
 go_enter Tryz.func55,Tryz.ntmps55
 go_wp2_with first|(go_at_call 111;refine(kI (eo.fr p2x (by exact aM)) (eo.fr q2x (by exact aM))).mono ?_;rintro e w4 ⟨rfl,hF4⟩;rw[T3.out];(try clear hQ);refine cB hF4 fun hS hQ=> ?_)|(go_at_call 113;refine(Fa (p1x.fr (by exact aM) (by simp)) (q1x.fr (by exact aM) (by simp))).mono ?_;rintro e w4 ⟨rfl,hF4⟩;rw[T4.out];(try clear hQ);refine cB hF4 fun hS hQ=> ?_)|fail
 go_ret
 refine⟨?_,by exact aM⟩
 rw[EQ.out]
 (try rw[T1.out])
 (try rw[T2.out])
 (try rw[T3.out])
 (try rw[T4.out])
 rfl
):p:=h
theorem XV {p:Prop} (h:p:=by
 clear hQ
 go_upto_region 15 with first|(go_at_call 9;refine(ij (bs:=bs) (holdb _ (by exact aM)) (hg.fr (fW.trans (by exact aM)) (by simp)) (by omega)).mono ?_;rintro e w5 ⟨c5,rfl,hl5,ho5,hM5,hF5⟩;rw[hN]at hM5;rw[hE];have fW:=fW.trans (hS.fr.trans hF5);have hS:=St.start [] w5)|(refine cd (ty:=33) (vs:=c5) rfl rfl rfl rfl ?_;refine AZ ?_;intro wN hS;(try clear hQ);have hQ:=St.fq hS)|fail
 obtain⟨b8,hb8⟩:∃b,w5.heap.size=b:=⟨_,rfl⟩
 rw[hb8]at hS hQ⊢
 go_upto_region 17 with first|(refine bC (ty:=33) rfl rfl rfl ce rfl ?_;refine qS ?_)|(go_at_call 8;refine(po (hg.fr (fW.trans (by exact aM)) (by simp)) (hM5.fr (by exact aM)) r2 r3 r1).mono ?_;rintro e w6 ⟨v6,rfl,s6⟩;(try clear hQ);refine qa s6 fun hS hQ=> ?_)|(go_at_call 9;refine(ij (bs:=dy N) (bf.sl (St.own hS (by exact aK)) (by simp)) (hg.fr (fW.trans hS.fr) (by simp)) hps2).mono ?_;rintro e w6 ⟨c6,rfl,hl6,ho6,hM6,hF6⟩;rw[r6]at hM6⊢;have hold3:∀w',Fr [] w6 w'→bB w' b8 c5 33∧cI c5 N w'∧cI c6 N w':=fun w' hf=>⟨((St.loc hS (by exact aK)).fr hF6 (by simp)).fr hf (by simp),hM5.fr ((hS.fr.trans hF6).trans hf),hM6.fr hf⟩;have hV:=bf.shape (St.own hS (.here));have fW:=fW.trans (hS.fr.trans hF6);have hS:=St.start [] w6)|(refine cd (ty:=33) (vs:=c6) rfl rfl rfl rfl ?_;refine Xt ?_;intro wN hS;(try clear hQ);have hQ:=St.fq hS)|fail
 obtain⟨b9,hb9⟩:∃b,w6.heap.size=b:=⟨_,rfl⟩
 rw[hb9]at hS hQ⊢
 have hS0:=hS
 obtain⟨va,vc,rfl,_⟩:=hV
 have hS:=hS0
 clear hS0
 go_wp2_with first|(refine bC (ty:=33) rfl rfl rfl ce rfl ?_;refine qS ?_)|(refine bC (ty:=33) rfl rfl rfl ce rfl ?_;refine UO ?_)|(refine gx (ty:=33) rfl rfl rfl rfl ce rfl ?_;refine qS ?_)|(refine gx (ty:=33) rfl rfl rfl rfl ce rfl ?_;refine UO ?_)|(go_at_call 11;refine(pe (hg.fr (fW.trans (by exact aM)) (by simp)) (hold3 _ (by exact aM)).2.1 r2).mono ?_;rintro e w7 ⟨rfl,hF7⟩;rw[r1];(try clear hQ);refine cB hF7 fun hS hQ=> ?_)|(go_at_call 10;refine(ld (hold3 _ (by exact aM)).2.1 (hold3 _ (by exact aM)).2.2).mono ?_;rintro e w7 ⟨rfl,hF7⟩;rw[decide_eq_true rfl];(try clear hQ);refine cB hF7 fun hS hQ=> ?_)|fail
 go_ret
 exact⟨rfl,fW.trans (by exact aM)⟩
):p:=h
theorem W8 {p:Prop} (h:p:=by
 go_enter Tryz.func274,Tryz.ntmps274
 go_wp2_with first|(go_at_call 175;refine lL fun hT=> ?_;refine(d5 hT.rd).mono ?_;rintro e w1 ⟨rfl,rfl⟩;clear hT)|(go_at_call 210;(try clear hQ);refine kL (fun h=>fd h) fun w1 hS hQ hN=> ?_)|(go_at_call 213;(try clear hQ);refine kL (fun h=>zJ h 32 (by decide) (by decide)) fun w1 hS hQ hN=> ?_)|(go_at_call 287;refine lL fun hT=> ?_;refine(yg (hT.gl7 hg) _).mono ?_;rintro e w1 ⟨rfl,hF1⟩;have hS:=hT.step0 hF1;clear hT hF1;(try clear hQ);have hQ:=St.fq hS.st;(try clear hN);have hN:=St.aq hS.st)|(go_at_call 233;refine lL fun hT=> ?_;refine(dd (hT.gl7 hg) _ (by omega) (by omega)).mono ?_;rintro e w1 ⟨rfl,hF1⟩;have hS:=hT.step0 hF1;clear hT hF1;(try clear hQ);have hQ:=St.fq hS.st;(try clear hN);have hN:=St.aq hS.st)|(go_at_call 174;(try clear hQ);refine kL (fun h=>dY h _ _) fun w1 hS hQ hN=> ?_)
 (go_ret;exact⟨rfl,by exact tH,by exact td⟩)
):p:=h
theorem X6 {p:Prop} (h:p:=by
 have hh:=h
 obtain⟨_,_,a,cap,rfl,_⟩:=h
 (first|(go_at_call 116;go_enter Tryz.func116,Tryz.ntmps116)|(go_at_call 237;go_enter Tryz.func237,Tryz.ntmps237))
 go_wp2
 go_loopw [9] (fun n wr=>∃(i:Nat),n= .int .i64 i∧i≤ts.length∧Fr [] w wr∧Hid (ts.all aj=(ts.drop i).all aj)) (fun n _=>ts.length-(intOf n).toNat)
 case atStart=>exact⟨0,rfl,by omega,Fr.refl _ _,Lib.hid rfl⟩
 case round=>
  obtain⟨i,rfl,hi,hF,hg⟩:=hrel
  by_cases hlt:i<ts.length
  ·obtain⟨t,ht⟩:∃t,ts[i]? =some t:=⟨ts[i],by simp[hlt]⟩
   obtain⟨b,off,cap2,hv,hb,hnS,hc⟩:=Sl.elem hh (fun _=>rfl) i t ht
   injection hv with hv1 hv2 hv3
   subst hv1 hv3
   have hbw:b<wr.heap.size:=Nat.lt_of_lt_of_le hb hF.size
   have hd:=gB ts i t ht
   have e0:=(hF.cell hb (by simp) _).trans (hc 0 (by decide))
   have e1:=(hF.cell hb (by simp) _).trans (hc 1 (by decide))
   have e2:=(hF.cell hb (by simp) _).trans (hc 2 (by decide))
   have e3:=(hF.cell hb (by simp) _).trans (hc 3 (by decide))
   simp only[Nat.add_zero,←Nat.add_assoc,cj,List.getElem?_cons_zero,List.getElem?_cons_succ]at e0 e1 e2 e3
   have f1:=fun o=>hF.alloc o
   cases hp:aj t
   ·have hall:ts.all aj=false:=by rw[hg.out,hd];simp[hp]
    have Hall:=Lib.hid hall
    clear hall
    go_wp2_with (go_at_call 117;refine(cK _ t).mono ?_;rintro e w2 ⟨rfl,hF2⟩;rw[hp])
    exact QD
   ·have hall:ts.all aj=(ts.drop (i+1)).all aj:=by rw[hg.out,hd];simp[hp]
    have Hall:=Lib.hid hall
    clear hall
    go_wp2_with (go_at_call 117;refine(cK _ t).mono ?_;rintro e w2 ⟨rfl,hF2⟩;rw[hp])
    exact Qi
  ·have hk:i=ts.length:=by omega
   subst hk
   have hall:ts.all aj=true:=by rw[hg.out];simp
   exact K1
):p:=h
theorem X7 {p:Prop} (h:p:=by
 go_enter Tryz.func149,Tryz.ntmps149
 go_wp2_with first|(go_at_call 173;refine hU fun hT=> ?_;refine(gU hT.rd).mono ?_;rintro e w1 ⟨rfl,nq,rfl⟩;have hS:=hT.drewN nq;clear hT;(try clear hQ);have hQ:=St.fq hS.r.st;(try clear hN);have hN:=St.aq hS.r.st;have hcw:=HC.out _ hS.fr)|(go_at_call 173;refine hU fun hT=> ?_;refine(gU hT.rd).mono ?_;rintro e w1 ⟨rfl,nq,rfl⟩;have hS:=hT.drewN nq;clear hT;(try clear hQ);have hQ:=St.fq hS.r.st;(try clear hN);have hN:=St.aq hS.r.st)|(go_at_call 175;refine hU fun hT=> ?_;refine(d5 hT.rd).mono ?_;rintro e w1 ⟨rfl,rfl⟩;clear hT)|(go_at_call 210;(try clear hQ);refine ia (fun h=>fd h) fun w1 hS hQ hN=> ?_)|(go_at_call 205;refine hU fun hT=> ?_;(with_reducible refine(eG 0 0 0 0 rfl rfl (by decide) (by decide) hT.rd).mono ?_);rintro e w1 ⟨rfl,hR1,hF1⟩;have hS:=hT.call hR1 hF1;clear hT hR1 hF1;(try clear hQ);have hQ:=St.fq hS.r.st;(try clear hN);have hN:=St.aq hS.r.st)|(go_at_call 206;(try clear hQ);refine ia (fun h=>vY h) fun w1 hS hQ hN=> ?_)|(go_at_call 211;refine hU fun hT=> ?_;refine(nL hT.wide (hT.gl7 hg) hsm).mono ?_;rintro e w1 ⟨a1,c1,rfl,hP1,hR1,hF1⟩;have hS:=hT.callK hR1 hF1 hP1;clear hT hR1 hF1 hP1;(try clear hQ);have hQ:=St.fq hS.r.st;(try clear hN);have hN:=St.aq hS.r.st)|(refine bC (ty:=86) rfl rfl rfl mU rfl ?_;refine V4 ?_)|(refine ss (ty:=86) rfl rfl rfl rfl ?_;refine VJ ?_;intro wN hS;(try clear hQ);have hQ:=St.fq hS.r.st;(try clear hN);have hN:=St.aq hS.r.st)
 refine lf rfl rfl mU rfl rfl ?_;refine Us ?_
 refine⟨_,rfl,rfl,by simp[Value.oneCell'],?_,by exact rz,by exact rY⟩
 (apply KT.fin;(·exact gL));intro wz hz
 exact⟨_,rfl,eo.nil _⟩
):p:=h
theorem WN {p:Prop} (h:p:=by
 (try clear g2)
 (try clear g3)
 go_enter Tryz.func44,Tryz.ntmps44
 go_wp2_with first|(go_at_call 110;refine(Rt (an.fr ik.fr p1x (by exact aM)) (an.fr ik.fr q1x (by exact aM))).mono ?_;rintro e w4 ⟨rfl,hF4⟩;rw[T2.out];(try clear hQ);refine cB hF4 fun hS hQ=> ?_)|(go_at_call 111;refine(kI (eo.fr p2x (by exact aM)) (eo.fr q2x (by exact aM))).mono ?_;rintro e w4 ⟨rfl,hF4⟩;rw[T3.out];(try clear hQ);refine cB hF4 fun hS hQ=> ?_)|fail
 exact Ux
):p:=h
theorem WM {p:Prop} (h:p:=by
 (try clear g1)
 (try clear g3)
 unfold dv cj du
 go_enter Tryz.func46,Tryz.ntmps46
 go_wp2_with first|(refine AN MR rfl rfl rfl rfl ((Ic ek ek2 en en2 hk hk2 hn hn2 lw lw2 mn mn2 mx mx2 lh lh2 _).trans (by rw[T1.out])) ?_)|(go_at_call 111;refine(kI (eo.fr p2x (by exact aM)) (eo.fr q2x (by exact aM))).mono ?_;rintro e w4 ⟨rfl,hF4⟩;rw[T3.out];(try clear hQ);refine cB hF4 fun hS hQ=> ?_)|fail
 exact Ux
):p:=h
theorem sz {p:Prop} (h:p:=by
 go_ret
 exact⟨_,rfl,hS.sel (by exact ic)⟩
):p:=h
theorem XC {p:Prop} (h:p:=by
 have g1:(t.err==0)=true:=by simp[he]
 have hx:av (bw bs) k t=((bw bs t).1::(av (bw bs) (k-1) (bw bs t).2).1,(av (bw bs) (k-1) (bw bs t).2).2):=by
  exact KF
 have HX:=Lib.hid hx
 have hkp:0<k:=by omega
 have hb2:xs.length+1≤1099511627776:=by omega
 have hk40:k≤1099511627776:=by have:=Hks.out;omega
 clear hx he hexit hbnd
 have hone:∀u∈cj (bw bs t).1,u.oneCell'=true:=(by intro u hu;simp[cj]at hu;rcases hu with rfl|rfl|rfl|rfl<;>rfl)
 have hrv:=hnew.not hrb
 go_wp2_with first|(go_at_call 228;refine(be hR).mono ?_;rintro e w' ⟨rfl,rfl⟩)|((go_at_call 254;refine(qP hR).mono ?_;rintro e w2 ⟨rfl,hR2,hF2⟩);have hown2:=hown.fr hF2 (by intro b hb;simp at hb;subst hb;exact hrv))|(at_builtin;refine Rv rfl (.tmp 17) (.tmp 20) _ rfl _ _ _ rfl (hown2.alloc _) _ _ _ rfl (pQ ph _ (cj (bw bs t).1) _ _ _ rfl hone) hb2 ?_;intro v' w3 hown3 hf3 hb3)
 have hF3:Fr [rb] w w3:=((hF.trans hF2).alloc _).app hf3 hnew
 go_roundw
 case rel=>
  refine⟨k-1,xs++ [(bw bs t).1],_,by go_num,?_,hnew.app hb3 (by have:=hF.size;have:=hF2.size;first|omega|(simp only[World.size_alloc];omega)),h.step hF3 ((hR2.loc.alloc _).fr hf3 hrv) hR2.le,hF3,by have:=Hks.out;simp;omega,Lib.hid ?_⟩
  ·simpa using hown3
  ·rw[hg.out,HX.out];simp
 case measure=>simp[intOf];omega
):p:=h
theorem Ya {p:Prop} (h:p:=by
 have hb:=ed (cU hm)
 have ho1: -9223372036854775808≤o:=by have:=hb.1;dsimp only at this;omega
 have ho2:o<9223372036854775808:=by have:=hb.1;have:=hb.2.1;dsimp only at this;omega
 obtain⟨tS,lS,cS⟩:=hR
 obtain⟨ta,tc,rfl⟩:=tS.shape
 obtain⟨la,lc,rfl⟩:=lS.shape
 obtain⟨ca,cc,rfl⟩:=cS.shape
 dsimp only at tS lS cS
 have e0:xs++aW (⟨o,x,y,u,⟨hk,hn⟩,⟨jk,jn⟩,n1,n2,ts,ls,⟨bk,⟨vk,vn,⟨wk,wn⟩⟩,bn⟩,cs⟩:aa)=xs++au x:=by rw[vz (by dsimp only;omega)]
 have E0:=Lib.hid e0
 clear e0
 generalize xs++aW (⟨o,x,y,u,⟨hk,hn⟩,⟨jk,jn⟩,n1,n2,ts,ls,⟨bk,⟨vk,vn,⟨wk,wn⟩⟩,bn⟩,cs⟩:aa)=Y at E0⊢
 have hX:=(bz _).1 (wc (by dsimp only;omega) hm).1
 dsimp only at hX
 have lX:=az x (by omega)
 have HK:=Lib.hid hsh
 clear hsh
 clear hb hm
 unfold cp
 dsimp only
 go_enter Tryz.func193,Tryz.ntmps193
 go_wp2_with first|(go_at_call 233;(with_reducible refine(dd ?_ _ ?_ ?_).mono ?_);(·apply St.gl7 (hg:=hg);(exact aw));(·omega);(·omega);rintro e w2 ⟨rfl,hF2⟩;(try clear hQ);refine cB hF2 fun hS hQ=> ?_;(try rw[HK.out]))|(go_at_call 242;(try rw[hwk]);refine mE ?_;refine zy ?_;intro vN wN hS;(try clear hQ);have hQ:=St.fq hS)
 exact wy
):p:=h
theorem WI {p:Prop} (h:p:=by
 simp only[Act.put,List.getElem_toArray,List.getElem_cons_succ,List.getElem_cons_zero,List.setIfInBounds_toArray,List.set_cons_zero,List.set_cons_succ]
 refine wpAnyH_done (by kernel_rfl) ?_ _
 clear hr
 rw[Hq.out]
 exact U1
):p:=h
theorem XR {p:Prop} (h:p:=by
 clear hcn
 go_enter Tryz.func225,Tryz.ntmps225
 go_wp2_with first|(go_at_call 205;refine hU fun hT=> ?_;(with_reducible refine(eG 3 2 3 2 rfl rfl (by decide) (by decide) hT.rd).mono ?_);rintro e w1 ⟨rfl,hR1,hF1⟩;have hS:=hT.call hR1 hF1;clear hT hR1 hF1;(try clear hQ);have hQ:=St.fq hS.r.st;(try clear hN);have hN:=St.aq hS.r.st)|(go_at_call 163;(try clear hQ);refine ia (fun h=>ko h) fun w1 hS hQ hN=> ?_)|(go_at_call 211;refine hU fun hT=> ?_;refine(nL hT.wide (hT.gl7 hg) hsm).mono ?_;rintro e w1 ⟨a1,c1,rfl,hP1,hR1,hF1⟩;have hS:=hT.callK hR1 hF1 hP1;clear hT hR1 hF1 hP1;(try clear hQ);have hQ:=St.fq hS.r.st;(try clear hN);have hN:=St.aq hS.r.st)|(go_at_call 199;(try clear hQ);refine ia (fun h=>cZ h) fun w1 hS hQ hN=> ?_)|(go_at_call 172;refine hU fun hT=> ?_;refine(uV _ (by omega) hT.wide).mono ?_;rintro e w1 ⟨a2,c2,rfl,hP1,hR1,hF1⟩;have hS:=hT.callK hR1 hF1 hP1;clear hT hR1 hF1 hP1;(try clear hQ);have hQ:=St.fq hS.r.st;(try clear hN);have hN:=St.aq hS.r.st)
 refine lf rfl rfl v8 rfl rfl ?_;refine Vw ?_
 refine⟨_,rfl,rfl,by simp[Value.oneCell'],?_,by exact rz,by exact rY⟩
 (apply KT.fin;(·exact gL));intro wz hz
 exact⟨_,_,rfl,hz _ (by simp),hz _ List.mem_cons_self⟩
):p:=h
theorem Vo {p:Prop} (h:p:=by
 have hk:i=xs.length:=by omega
 have he:decide (xs=ys)=true:=decide_eq_true (by
  have:=ht.out
  rw[List.take_of_length_le (by omega),List.take_of_length_le (by have:=Hlen.out;omega)]at this
  exact this)
 have He:=Lib.hid he
 clear he
 have i1:¬(i:Int)< (xs.length:Int):=by omega
 go_wp2
 go_ret
 exact⟨by rw[He.out];rfl,hF⟩
):p:=h
theorem Sm {p:Prop} (h:p:=by
 go_wp2_with fail
 go_quiet (fail)
 go_wp2
 go_ret
 exact⟨by rw[Hne.out];rfl,by exact cF⟩
):p:=h
theorem Yb {p:Prop} (h:p:=by
 go_wp2_with fail
 go_region_held3 (fun w'=>w'.cell? ⟨w4.heap.size,1,none⟩=some (.slice pa ps.length pc))
  (first|(go_keep;done)|(exact kc5.trans (by simp))|(exact kc6.trans (kc5.symm.trans (kc5.trans (by simp)))))
  (first|(refine eZ (by rfl) (.tmp 41) (.tmp 42) _ (by rfl) _ _ _ (by rfl) hO _ _ _ (by rfl) (j6 aB hXs _ _ _ rfl) hb1 ?_;intro v5 w5 hown5 hf5 hb5;have hA5:=(Ap.fr0 fO).trans (Ap.of hf5 hb5);have hAW5:=hAX.trans hA5;have hoW5:=cX.app1 (c:=96) hown5;have hgW5:=hgW.ap hAW5;have p2:=s2W.ap hAW5;have p3:=s3W.ap hAW5;have p4:=s4W.ap hAW5;have kb5:=hA5.not hltX hbW;have hL5:=hLX.ap hA5 hbW;have kc5:=hL5.cell 1)|(go_at_call 189;refine(lP _ hgW5 _ _ ps p2 o2 hoW5 hx5).mono ?_;rintro e w6 ⟨v6,rfl,ho6,hA6⟩;have hL6:=hL5.ap hA6 kb5;have kc6:=hL6.cell 1))
 exact Wt
):p:=h
theorem Ui {p:Prop} (h:p:=by
 refine lf rfl rfl (by exact zu) rfl rfl ?_;(repeat(apply Exists.intro));refine⟨?_,?_,?_,?_⟩;(·exact gL);(·exact iA);(·exact zz)
 exact Hm
):p:=h
theorem Wk {p:Prop} (h:p:=by
 repeat(first|(with_reducible exact Fr.refl _ _)|(with_reducible assumption)|(with_reducible apply Fr.alloc)|(with_reducible apply Fr.drew)|(with_reducible apply Fr.drewN)|(with_reducible refine Fr.setCell ?_ (by first|(left;simp;done)|(right;simp;done)|(right;simp;omega)) _))
):p:=h
theorem IB {p:Prop} (h:p:=by
 go_roundw
 case rel=>exact cV.next hS hI hj0 He hj (by go_num)
 case measure=>simp[intOf];omega
):p:=h
theorem K0 {p:Prop} (h:p:=by
 have HE:=Lib.hid (cV.fin hS hI (.inl hj0))
 subst hj0
 clear hS hI
 go_wp2
 go_ret
 exact HE.out
):p:=h
theorem Yd {p:Prop} (h:p:=by
 (repeat(apply Exists.intro))
 refine⟨?_,?_,?_,?_,?_,?_,?_,?_,?_⟩
 ·(exact aA)
 ·(exact aK)
 ·rfl
 ·rfl
 ·rfl
 ·rfl
 ·exact zz
 ·simp[Value.oneCell']
 intro wN hS
 (refine hK.out _ _ (by exact bB.range (hS.loc (by exact aK))) (fun hr=> ?_);clear hK K)
 (refine wpAnyH_take (i:=7) (v:= .bool true) rfl (by kernel_rfl) (by kernel_rfl) (by kernel_rfl) (fun _ _ _ h=>h) (Or.inl ⟨by rfl,fun _ _=>by go_simp⟩) hr ?_;simp only[Act.put,List.setIfInBounds_toArray,List.set_cons_zero,List.set_cons_succ])
 exact U6
):p:=h
theorem RG {p:Prop} (h:p:=by
 have e:decide ((⟨ek,en,⟨hk,hn⟩⟩:aF)=mN)=true:=by rw[←hT];rw[Bool.eq_iff_iff];simp[mN]
 unfold aG
 dsimp only
 rw[e];rw[hA]
 try rfl
):p:=h
theorem Xv {p:Prop} (h:p:=by
 (try clear g1)
 (try clear g2)
 unfold dK cj
 go_enter Tryz.func50,Tryz.ntmps50
 go_wp2_with first|(refine AN Mz rfl rfl rfl rfl ((Iz ek ek2 en en2 hk hk2 hn hn2 mt mt2 _).trans (by rw[T1.out])) ?_)|(go_at_call 111;refine(kI (eo.fr p2x (by exact aM)) (eo.fr q2x (by exact aM))).mono ?_;rintro e w4 ⟨rfl,hF4⟩;rw[T2.out];(try clear hQ);refine cB hF4 fun hS hQ=> ?_)|fail
 go_ret
 refine⟨?_,by exact aM⟩
 rw[EQ.out]
 (try rw[T1.out])
 (try rw[T2.out])
 rfl
):p:=h
theorem W5 {p:Prop} (h:p:=by
 clear eX eY hn
 go_enter Tryz.func277,Tryz.ntmps277
 go_wp2_with first|(go_at_call 175;refine lL fun hT=> ?_;refine(d5 hT.rd).mono ?_;rintro e w1 ⟨rfl,rfl⟩;clear hT)|(go_at_call 275;(try clear hQ);refine kL (fun h=>tq h) fun w1 hS hQ hN=> ?_)|(go_at_call 213;(try clear hQ);refine kL (fun h=>zJ h 64 (by decide) (by decide)) fun w1 hS hQ hN=> ?_)|(go_at_call 174;(try clear hQ);refine kL (fun h=>dY h _ _) fun w1 hS hQ hN=> ?_)
 go_end0
 exact⟨rfl,hS.set bg.here 3 _⟩
):p:=h
theorem XO {p:Prop} (h:p:=by
 clear hm
 go_enter Tryz.func223,Tryz.ntmps223
 go_wp2_with first|(go_at_call 175;refine hU fun hT=> ?_;refine(d5 hT.rd).mono ?_;rintro e w1 ⟨rfl,rfl⟩;clear hT)|(go_at_call 260;refine hU fun hT=> ?_;refine(MI hT.wide hsm).mono ?_;rintro e w1 ⟨v1,cs1,rfl,hK⟩;have hS:=hT.join hK;have hO:bf [] _ _ _ _ _ _:=hS.r.st.head;obtain⟨a1,c1,rfl,_,_⟩:=bf.shape hO;clear hT hK hO;(try clear hQ);have hQ:=St.fq hS.r.st;(try clear hN);have hN:=St.aq hS.r.st)|(go_at_call 124;(with_reducible refine(C3 (S:= []) (Qs hS) Hr.out (by have:=Hlen.out;omega)).mono ?_);rintro e w2 ⟨rfl,hF2⟩;have hT:=hS.step0 hF2;clear hS;have hS:=hT;clear hT;(try clear hQ);have hQ:=St.fq hS.r.st;(try clear hN);have hN:=St.aq hS.r.st)|(go_at_call 174;(try clear hQ);refine ia (fun h=>dY h _ _) fun w1 hS hQ hN=> ?_)
 go_ret
 have hK:=hS.ownK bg.here
 refine⟨a1,c1,rfl,hK.fin fun wz hz=>⟨_,hz _ List.mem_cons_self,hz _ (by simp)⟩,hK.rd,hK.fr⟩
):p:=h
theorem WL {p:Prop} (h:p:=by
 by_cases he:s.err=0
 ·have g1:(s.err==0)=true:=by simp[he]
  rw[if_pos he]
  clear he
  (first|(go_at_call 291;go_enter Tryz.func291,Tryz.ntmps291)|(go_at_call 266;go_enter Tryz.func266,Tryz.ntmps266)|(go_at_call 285;go_enter Tryz.func285,Tryz.ntmps285)|(go_at_call 203;go_enter Tryz.func203,Tryz.ntmps203))
  go_wp2_with (go_at_call 228;refine(be h).mono ?_;rintro e w' ⟨rfl,rfl⟩)
  exact Cs
 ·have g1:(s.err==0)=false:=by simp[he]
  rw[if_neg he]
  clear he
  (first|(go_at_call 291;go_enter Tryz.func291,Tryz.ntmps291)|(go_at_call 266;go_enter Tryz.func266,Tryz.ntmps266)|(go_at_call 285;go_enter Tryz.func285,Tryz.ntmps285)|(go_at_call 203;go_enter Tryz.func203,Tryz.ntmps203))
  go_wp2_with (go_at_call 228;refine(be h).mono ?_;rintro e w' ⟨rfl,rfl⟩)
  exact Cs
):p:=h
theorem qF {p:Prop} (h:p:=by
 go_ret
 exact⟨rfl,by exact aM⟩
):p:=h
theorem XH {p:Prop} (h:p:=by
 go_wp2_with fail
 go_region_held3 (fun w'=>w'.cell? ⟨w4.heap.size,3,none⟩=some (.slice fa fs.length fc))
  (first|(go_keep;done)|(exact kc5.trans (by simp))|(exact kc6.trans (kc5.symm.trans (kc5.trans (by simp)))))
  (first|(refine eZ (by rfl) (.tmp 53) (.tmp 54) _ (by rfl) _ _ _ (by rfl) hO _ _ _ (by rfl) (j6 aB hXs _ _ _ rfl) hb1 ?_;intro v5 w5 hown5 hf5 hb5;have hA5:=(Ap.fr0 fO).trans (Ap.of hf5 hb5);have hAW5:=hAX.trans hA5;have hoW5:=cX.app1 (c:=95) hown5;have hgW5:=hgW.ap hAW5;have p2:=s2W.ap hAW5;have p3:=s3W.ap hAW5;have p4:=s4W.ap hAW5;have kb5:=hA5.not hltX hbW;have hL5:=hLX.ap hA5 hbW;have kc5:=hL5.cell 3)|(go_at_call 190;refine(ql _ hgW5 _ _ fs p4 o4 hoW5 hx5).mono ?_;rintro e w6 ⟨v6,rfl,ho6,hA6⟩;have hL6:=hL5.ap hA6 kb5;have kc6:=hL6.cell 3))
 exact QB
):p:=h
theorem Ul {p:Prop} (h:p:=by
 have gl:(((xs.length:Nat):Int) !=((ys.length:Nat):Int))=true:=by simp;omega
 have he:decide (xs=ys)=false:=decide_eq_false (fun h=>hlen (by rw[h]))
 have He:=Lib.hid he
 clear he hlen
 (first|(go_at_call 177;go_enter Tryz.func177,Tryz.ntmps177)|(go_at_call 230;go_enter Tryz.func230,Tryz.ntmps230)|(go_at_call 179;go_enter Tryz.func179,Tryz.ntmps179)|(go_at_call 48;go_enter Tryz.func48,Tryz.ntmps48)|(go_at_call 231;go_enter Tryz.func231,Tryz.ntmps231))
 go_wp2
 go_ret
 exact⟨by rw[He.out];rfl,Fr.refl _ _⟩
):p:=h
theorem VL {p:Prop} (h:p:=by
 have q:((((xs.length:Nat):Int)) !=((ys.length:Nat):Int))=true:=by simp;omega
 have hne:decide (xs=ys)=false:=by
  exact TP
 rw[hne]
 (first|(go_at_call 47;go_enter Tryz.func47,Tryz.ntmps47)|(go_at_call 110;go_enter Tryz.func110,Tryz.ntmps110)|(go_at_call 51;go_enter Tryz.func51,Tryz.ntmps51)|(go_at_call 42;go_enter Tryz.func42,Tryz.ntmps42)|(go_at_call 48;go_enter Tryz.func48,Tryz.ntmps48))
 go_wp2
 go_ret
 exact⟨rfl,Fr.refl _ _⟩
):p:=h
theorem Lf {p:Prop} (h:p:=by
 go_ret
 exact⟨v,cs,rfl,(hS.join hK).got fun w hw=>hw _ List.mem_cons_self⟩
):p:=h
theorem W4 {p:Prop} (h:p:=by
 go_enter Tryz.func221,Tryz.ntmps221
 go_wp2_with first|(go_at_call 175;refine hU fun hT=> ?_;refine(d5 hT.rd).mono ?_;rintro e w1 ⟨rfl,rfl⟩;clear hT)|(go_at_call 199;(try clear hQ);refine ia (fun h=>cZ h) fun w1 hS hQ hN=> ?_)|(go_at_call 174;(try clear hQ);refine ia (fun h=>dY h _ _) fun w1 hS hQ hN=> ?_)
 go_ret
 exact Hm
):p:=h
theorem WW {p:Prop} (h:p:=by
 go_enter Tryz.func205,Tryz.ntmps205
 go_wp2_with first|(go_at_call 175;refine hU fun hT=> ?_;refine(d5 hT.rd).mono ?_;rintro e w1 ⟨rfl,rfl⟩;clear hT)|(go_at_call 210;(try clear hQ);refine ia (fun h=>fd h) fun w1 hS hQ hN=> ?_)|(go_at_call 174;(try clear hQ);refine ia (fun h=>dY h _ _) fun w1 hS hQ hN=> ?_)
 go_ret
 exact Hm
):p:=h
theorem XD {p:Prop} (h:p:=by
 clear h1
 go_enter Tryz.func106,Tryz.ntmps106
 go_wp2_with first|(go_at_call 173;refine hU fun hT=> ?_;refine(gU hT.rd).mono ?_;rintro e w1 ⟨rfl,nq,rfl⟩;have hS:=hT.drewN nq;clear hT;(try clear hQ);have hQ:=St.fq hS.r.st;(try clear hN);have hN:=St.aq hS.r.st)|(go_at_call 175;refine hU fun hT=> ?_;refine(d5 hT.rd).mono ?_;rintro e w1 ⟨rfl,rfl⟩;clear hT)|(go_at_call 174;(try clear hQ);refine ia (fun h=>dY h _ _) fun w1 hS hQ hN=> ?_)|(go_at_call 176;refine hU fun hT=> ?_;refine(Dk hT.rd).mono ?_;rintro e w1 ⟨rfl,nq2,rfl⟩;have hS:=hT.drewN nq2;clear hT;(try clear hQ);have hQ:=St.fq hS.r.st;(try clear hN);have hN:=St.aq hS.r.st)
 go_ret2
 exact Hm
):p:=h
theorem XS {p:Prop} (h:p:=by
 clear hQ
 go_wp2_with first|(go_at_call 9;refine(ij (bs:=bs) (holdb _ (by exact aM)) (hg.fr (fW.trans (by exact aM)) (by simp)) (by omega)).mono ?_;rintro e w5 ⟨c5,rfl,hl5,ho5,hM5,hF5⟩;rw[hnone]at hM5;have fW:=fW.trans (hS.fr.trans hF5);have hS:=St.start [] w5)|(refine cd (ty:=33) (vs:=c5) rfl rfl rfl rfl ?_;refine AZ ?_;intro wN hS;(try clear hQ);have hQ:=St.fq hS)|(refine bC (ty:=33) rfl rfl rfl ce rfl ?_;refine qS ?_)|(go_at_call 10;refine(ld (hM5.fr (by exact aM)) (yZ _)).mono ?_;rintro e w7 ⟨rfl,hF7⟩;rw[decide_eq_true rfl];(try clear hQ);refine cB hF7 fun hS hQ=> ?_)|fail
 go_ret
 exact⟨rfl,fW.trans (by exact aM)⟩
):p:=h
theorem X0 {p:Prop} (h:p:=by
 rw[hd]at h64
 go_wp2_with (at_builtin;refine dF rfl (.tmp 34) (.tmp 36) _ rfl _ _ _ rfl (hown.alloc _) _ _ _ rfl (sq aB _ _ _ _ rfl) hbnd ?_)
 intro v' w1 hown1 hf1 hb1
 have e2:bs.length+1=(eN N).length:=by rw[hg.out,eI m (by omega) (by omega)];simp
 rw[Hc.out,←pU _ (by omega),e2,show bs.map B++ [B (UInt8.ofNat (m% 128).toNat)]=(eN N).map B by rw[hg.out,eI m (by omega) (by omega)];simp]at hown1
 clear e2 hq
 exact Vu
):p:=h
theorem Wm {p:Prop} (h:p:=by
 have e:decide ((⟨ek,en,⟨hk,hn⟩⟩:aF)=mN)=false:=by rw[←hT];rw[Bool.eq_iff_iff];simp[mN]
 unfold aG
 dsimp only
 rw[e]
 try rfl
):p:=h
theorem Tz {p:Prop} (h:p:=by
 intro hh
 rw[hg.out]
 cases k with
 |zero=>simp[av]
 |succ k=>simp[av,hh.resolve_left (by omega)]
):p:=h
theorem TX {p:Prop} (h:p:=by
 have HA:=Lib.hid hA
 have HALL:=Lib.hid (Li hI2)
 clear hT hA hi hm hnm hby e1 e2 hO hI
 exact Xp
):p:=h
theorem UK {p:Prop} (h:p:=by
 go_wp2_with fail
 go_quiet (fail)
 go_wp2
 go_roundw
 case rel=>exact⟨i+1,by go_num,by omega,by exact cF,Hn⟩
 case measure=>simp[intOf];omega
):p:=h
theorem zV {p:Prop} (h:p:=by
 rw[List.length_append]
 omega
):p:=h
theorem Xr {p:Prop} (h:p:=by
 go_ret
 refine⟨_,rfl,?_,by rw[hE.out];exact hR,hF⟩
 rw[hE.out]
 simp only[ax.told,if_neg he]
 exact Sl.nil _ _ _
):p:=h
theorem XP {p:Prop} (h:p:=by
 clear h3
 go_enter Tryz.func218,Tryz.ntmps218
 go_wp2_with first|(go_at_call 175;refine hU fun hT=> ?_;refine(d5 hT.rd).mono ?_;rintro e w1 ⟨rfl,rfl⟩;clear hT)|(go_at_call 254;(try clear hQ);refine ia (fun h=>qP h) fun w1 hS hQ hN=> ?_)|(go_at_call 174;(try clear hQ);refine ia (fun h=>dY h _ _) fun w1 hS hQ hN=> ?_)
 refine lf rfl rfl kx rfl rfl ?_;(repeat(apply Exists.intro));refine⟨?_,?_,?_,?_⟩;(·exact gL);(·exact iA);(·exact iP)
 exact Hm
):p:=h
theorem R7 {p:Prop} (h:p:=by
 obtain⟨cs,⟨_,_,a,cap,e,h4,h5,_⟩,_⟩:=h1
 unfold maxLen at h5
 exact⟨a,cap,e,by omega⟩
):p:=h
theorem TJ {p:Prop} (h:p:=by
 obtain⟨cs,⟨_,_,a,cap,e,h4,h5,_⟩,_⟩:=h
 unfold maxLen at h5
 exact⟨a,cap,e,by omega⟩
):p:=h
theorem VN {p:Prop} (h:p:=by
 obtain rfl:i=xs.length:=by omega
 have He:=Lib.hid (Bd ht.out Hlen.out)
 clear ht
 go_wp2
 go_ret
 exact⟨by rw[He.out];rfl,hF⟩
):p:=h
theorem XT {p:Prop} (h:p:=by
 obtain⟨v,nx,er⟩:=q
 simp only at hcon hr⊢
 have hr2:((er:Int) !=0)=true:=by simp;omega
 have hr3:((er:Int)==0)=false:=by simp;omega
 have Hcon:=Lib.hid hcon
 have Hd:=h.drewN
 clear hp hcon hr
 (first|(go_at_call 257;go_enter Tryz.func257,Tryz.ntmps257)|(go_at_call 288;go_enter Tryz.func288,Tryz.ntmps288))
 go_wp2_with (go_at_call 228;refine(be (by assumption)).mono ?_;rintro e w' ⟨rfl,rfl⟩)
 go_quiet (((first|go_at_call 258|go_at_call 289);exact Calls.quiet_of_same ((Hcon.out _).mono fun e w' hh=>⟨hh.1,hh.2.symm⟩)))
 go_wp2_with (go_at_call 174;refine(dY (Hd _) _ _).mono ?_;rintro e w1 ⟨rfl,hR1,hF1⟩)
 go_ret
 exact⟨rfl,hR1,(Fr.of_drewN _ _ _).trans hF1⟩
):p:=h
theorem WJ {p:Prop} (h:p:=by
 go_roundw
 case rel=>exact⟨i+1,by go_num,by omega,by rw[pr ts i t ht,List.flatMap_append];simpa using ho4,(hAa _).trans hA4⟩
 case measure=>simp[intOf];omega
):p:=h
theorem RN {p:Prop} (h:p:=by
 first|exact kz rfl (by omega)|exact kn (by decide) rfl (fun h=>by omega)
):p:=h
theorem Pz {p:Prop} (h:p:=by
 (first|(go_at_call 182;go_enter Tryz.func182,Tryz.ntmps182)|(go_at_call 115;go_enter Tryz.func115,Tryz.ntmps115)|(go_at_call 117;go_enter Tryz.func117,Tryz.ntmps117)|(go_at_call 119;go_enter Tryz.func119,Tryz.ntmps119))
 go_wp2
 go_ret
 exact⟨rfl,by exact cF⟩
):p:=h
theorem X1 {p:Prop} (h:p:=by
 clear hm
 go_enter Tryz.func281,Tryz.ntmps281
 go_wp2_with first|(go_at_call 282;(try clear hQ);refine kL (fun h=>pK h) fun w1 hS hQ hN=> ?_)|(go_at_call 275;(try clear hQ);refine kL (fun h=>tq h) fun w1 hS hQ hN=> ?_)
 refine uT rfl rfl yQ rfl rfl ?_;(repeat(apply Exists.intro));refine⟨?_,?_,?_,?_⟩;(·exact oi);(·exact iA);(·exact vC)
 exact⟨rfl,by exact tH,by exact td⟩
):p:=h
theorem Yh {p:Prop} (h:p:=by
 obtain⟨v,nx,er⟩:=q
 simp only at hcon hr hnx⊢
 subst hr
 have Hcon:=Lib.hid hcon
 clear hp hcon
 (first|(go_at_call 257;go_enter Tryz.func257,Tryz.ntmps257)|(go_at_call 288;go_enter Tryz.func288,Tryz.ntmps288))
 go_wp2_with (go_at_call 228;refine(be (by assumption)).mono ?_;rintro e w' ⟨rfl,rfl⟩)
 go_quiet (((first|go_at_call 258|go_at_call 289);exact Calls.quiet_of_same ((Hcon.out _).mono fun e w' hh=>⟨hh.1,hh.2.symm⟩)))
 go_wp2
 go_ret
 have hf:Fr [rb] w ((w.drewN nq).setCell ⟨rb,0,none⟩ (.int .i64 nx)):=(Fr.of_drewN _ _ _).setCell (by simp) _
 exact⟨rfl,h.step hf ((h.loc.drewN nq).set 0 _) hnx,hf⟩
):p:=h
theorem Yc {p:Prop} (h:p:=by
 clear hm
 go_enter Tryz.func282,Tryz.ntmps282
 go_wp2_with first|(go_at_call 175;refine lL fun hT=> ?_;refine(d5 hT.rd).mono ?_;rintro e w1 ⟨rfl,rfl⟩;clear hT)|(go_at_call 210;(try clear hQ);refine kL (fun h=>fd h) fun w1 hS hQ hN=> ?_)|(go_at_call 174;(try clear hQ);refine kL (fun h=>dY h _ _) fun w1 hS hQ hN=> ?_)
 go_ret
 exact⟨rfl,by exact tH,by exact td⟩
):p:=h
theorem XG {p:Prop} (h:p:=by
 unfold iI at hm⊢
 cases hwl:iY X
 all_goals
  simp only[Bool.false_eq_true,if_false,if_true]
  go_enter Tryz.func227,Tryz.ntmps227
  go_wp2_with first|(go_at_call 103;refine Hcon.out.mono ?_;rintro e w' ⟨rfl,rfl⟩)|(go_at_call 120;(with_reducible refine(jY _ hX _).mono ?_);rintro e w1 ⟨rfl,hF1⟩)
  all_goals first|(exfalso;omega)|skip
  go_ret3
  exact⟨rfl,hF1⟩
):p:=h
theorem WQ {p:Prop} (h:p:=by
 go_wp2
 go_roundw
 case rel=>exact⟨i+1,_,rfl,by go_num,by omega,by first|exact hS|exact hS.drew⟩
 case measure=>simp[intOf];omega
):p:=h
theorem XU {p:Prop} (h:p:=by
 intro w hg o x y u hk hn jk jn n1 n2 ts ls bk vk vn wk wn bn cs tv lv cv h h1 h2 hts hls hcs hsh b hm
 have hB:b=((ev x)&&decide (({op:=o,x:=0,y:=y,u:=u,heap:={kind:=hk,n:=hn},heap2:={kind:=jk,n:=jn},null:=n1,null2:=n2,types:=ts,labels:=ls,block:={kind:=bk,val:={kind:=vk,null:=vn,heap:={kind:=wk,n:=wn}},n:=bn},catches:=cs}:aa)=aa.of o)):=Lc
 exact J7
):p:=h
theorem X8 {p:Prop} (h:p:=by
 intro ts
 induction ts with
 |nil=>intro i t h;simp at h
 |cons a ts ih=>
  intro i t h r hr
  rw[List.flatMap_cons]
  cases i with
  |zero=>
   simp at h
   subst h
   rw[List.getElem?_append_left (by rw[hk];omega)]
   simp
  |succ i=>
   simp at h
   rw[List.getElem?_append_right (by rw[hk,Nat.succ_mul];omega),hk,←ih i t h r hr]
   congr 1
   rw[Nat.succ_mul]
   omega
):p:=h
theorem Yf {p:Prop} (h:p:=by
 go_wp2;go_ret;have hf3:Fr [rb] w1 (w1.setCell ⟨rb,0,none⟩ (.int .i64 ((s.at_:Int)))):=(Fr.refl _ _).setCell (by simp) _;have hR3:=hR1.step hf3 (hR1.loc.set 0 _) (s':={s with at_:=s.at_}) (by first|omega|(simp only;omega))
 exact VM
):p:=h
theorem Ye {p:Prop} (h:p:=by
 go_wp2_with first|(go_at_call 203;refine(pP hR _).mono ?_;rintro e w' ⟨rfl,rfl⟩)|(go_at_call 228;refine(be hR).mono ?_;rintro e w' ⟨rfl,rfl⟩)
 go_ret
 refine⟨_,[],rfl,?_,?_,by rw[hE.out];exact hR,hF⟩
 ·rw[hE.out]
  simp only[ax.told,if_neg he]
  exact Sl.nil _ _ _
 ·rw[hE.out]
  simp only[ax.told,if_neg he]
  rfl
):p:=h
theorem W2 {p:Prop} (h:p:=by
 have hst':=(hst.dst hp).app hf ho' hb'
 have e1:X.length+Y.length=(X++Y).length:=by simp
 have e2:X.map B++Y.map B=(X++Y).map B:=by simp
 rw[e1,e2]at hst'
 exact h v' w' hst'
):p:=h
theorem Uh {p:Prop} (h:p:=by
 exact⟨_,rfl,by simpa using ho4,(hA3.alloc _).trans (Ap.of hf4 hb4)⟩
):p:=h
theorem PB {p:Prop} (h:p:=by
 funext bs s;unfold fw cA;simp[h];rfl
):p:=h
theorem SB {p:Prop} (h:p:=by
 have:=congrArg aa.x e
 simp only[aa.of]at this
 omega
):p:=h
theorem XB {p:Prop} (h:p:=by
 unfold joinedFacts
 simp only[R2,RO,RE,RA,RU,RL,RM,RR,RH,RW,O9,Nm,Nx,M5,O3,Pq,Mr,OS,NS,L3,Ow,NF,Od,Mb,N4,Mg,Ln,Mx,Ml,MO,Nw,Ps,Bool.and_self,Bool.true_and,Bool.and_true]
 kernel_rfl
):p:=h
theorem XF {p:Prop} (h:p:=by
 go_wp2_with first|(go_at_call 291;refine(pN hR _).mono ?_;rintro e w' ⟨rfl,rfl⟩)|(go_at_call 228;refine(be hR).mono ?_;rintro e w' ⟨rfl,rfl⟩)
 go_ret
 refine⟨_,rfl,?_,jS.nil _,by rw[hE.out];exact hR,hF⟩
 rw[hE.out]
 simp only[ax.told,if_neg he]
 exact bf.nil _ _ _ _
):p:=h
theorem WP {p:Prop} (h:p:=by
 have hk:i=ts.length:=by omega
 subst hk
 go_wp2
 go_ret
 exact⟨_,rfl,by simpa [ae]using hoi,hAi⟩
):p:=h
theorem Sv {p:Prop} (h:p:=by
 simp only[List.length_cons,List.length_append]
 omega
):p:=h
theorem Yg {p:Prop} (h:p:=by
 have hF3:=hF.trans hS.fr
 first
  |exact⟨k+1,by go_num,by omega,hF3,HI2⟩
  |(refine⟨_,_,_,⟨k+1,?_,by omega,hF3,HI2⟩,rfl,rfl,rfl⟩;first|rfl|go_num|simp)
  |(refine⟨_,_,_,_,_,⟨k+1,?_,by omega,hF3,HI2⟩,rfl,rfl,rfl,rfl,rfl⟩;first|rfl|go_num|simp)
):p:=h
theorem Xx {p:Prop} (h:p:=by
 go_roundw
 case rel=>
  refine⟨k+1,by go_num,by omega,?_⟩
  rw[E.out]
  exact hS.sel (by exact ic)
 case measure=>simp[intOf];omega
):p:=h
theorem XN {p:Prop} (h:p:=by
 have HH:=Lib.hid hfg;clear hfg hg
 go_wp2_with (go_at_call 197;refine(pg _ _ _ _ (by omega) (by omega) (by omega)).mono ?_;rintro e w' ⟨rfl,rfl⟩)
 apply wp_goto
 exact⟨rfl,rfl,rfl,by rw[←HH.out];rfl,by rw[←HH.out],by rw[←HH.out],rfl⟩
):p:=h
theorem XJ {p:Prop} (h:p:=by
 rw[if_neg h11]at hs
 injection hs with hs
 subst hs
 have q11:(op==11)=false:=by simp;omega
 obtain⟨a0,c0,rfl,hc0,_⟩:=bf.shape ho
 clear h1 h4 h5 h11 hl ho
 go_enter Tryz.func241,Tryz.ntmps241
 go_wp2
 go_ret
 exact⟨.slice a0 n.length c0,rfl,hS⟩
):p:=h
theorem Px {p:Prop} (h:p:=by
 simp only[List.length_append]
 omega
):p:=h
theorem XE {p:Prop} (h:p:=by
 refine⟨m/128,bs++ [UInt8.ofNat ((m% 128).toNat+128)],by first|rfl|rw[hq],by omega,by omega,by omega,by simpa using hown1,hnew.app hb1 (by have:=hfr.size;omega),(hfr.alloc _).app hf1 hnew,Lib.hid ?_⟩
 rw[hg.out,na m (by omega)];simp
):p:=h
theorem X3 {p:Prop} (h:p:=by
 have g1:(t.err !=0)=true:=by simp[he]
 have hE:=Lib.hid (hexit (.inr he))
 clear hexit hbnd
 go_wp2_with first|(go_at_call 256;(try clear hQ);refine kL (fun h=>eV h) fun w1 hS hQ hN=> ?_)
 go_ret
 refine⟨_,rfl,?_⟩
 rw[hE.out]
 exact hS
):p:=h
theorem X5 {p:Prop} (h:p:=by
 have:=u8_and_nat c 64 (by omega) (by decide)
 rw[show(64:Nat)=2^6 from rfl,nat_bit 6 c]at this
 rw[show(64:Int)=((2^6:Nat):Int) from rfl,this]
 by_cases h6:64≤c
 ·rw[show c/2^6=1 by omega];simp[h6]
 ·rw[show c/2^6=0 by omega];simp[h6]
):p:=h
theorem Xh {p:Prop} (h:p:=by
 go_ret
 refine⟨_,rfl,?_,by rw[hE.out];exact hR,hF⟩
 rw[hE.out]
 simp only[ax.told,if_pos he]
 exact hown.slN hnew h.lt
):p:=h
theorem XZ {p:Prop} (h:p:=by
 go_wp2_with (go_at_call 232;refine(qc _ _ _).mono ?_;rintro e w' ⟨rfl,hw⟩;rw[hw])
 go_roundw
 case rel=>exact⟨pos+(Utf8.decode s pos).2,b,acc+1,rfl,by go_num,by omega,HC.out,by omega⟩
 case measure=>simp;omega
):p:=h
theorem XI {p:Prop} (h:p:=by
 have hl:=DP t.supers hs.supers hp.1 bs _ _ ha1
 have hl:bX bs (bR bs) s.next=(t.supers,(s.adv 1).adv (ae aZ t.supers).length):=hl
 rw[hpk,if_pos (by decide),hl,dt,hf]
 simp[Nat.add_comm]
):p:=h
theorem X4 {p:Prop} (h:p:=by
 rw[if_pos he]at h0⊢
 split at h0
 ·rename_i h1
  rw[if_pos h1]
  exact⟨_,_,Prod.ext rfl (Prod.ext rfl h1),rfl⟩
 ·rename_i h1
  rw[eg he (by exact_mod_cast h1)]at h0
  exact absurd h0 (by simpa using h1)
):p:=h
theorem XM {p:Prop} (h:p:=by
 go_enter Tryz.func200,Tryz.ntmps200
 go_wp2_with fail
 go_quiet ((go_at_call 228;exact Calls.quiet_of_same ((be (h.drewN _)).mono fun e w' hh=>⟨hh.1,hh.2.symm⟩)))
 go_wp2
 go_ret2
 exact⟨rfl,_,rfl⟩
):p:=h
theorem Xz {p:Prop} (h:p:=by
 have h2:(ts.take i).length≤ts.length:=by rw[List.length_take];omega
 have:=Nat.mul_le_mul_left 16 h2
 omega
):p:=h
theorem Xn {p:Prop} (h:p:=by
 go_roundw
 case rel=>exact⟨i+1,by go_num,by omega,hF.trans hS.fr,Hall⟩
 case measure=>simp[intOf];omega
):p:=h
theorem WK {p:Prop} (h:p:=by
 obtain⟨cs,⟨_,_,a,cap,e,h4,h5,_⟩,_⟩:=h10
 unfold maxLen at h5
 omega
):p:=h
theorem X9 {p:Prop} (h:p:=by
 go_enter Tryz.func174,Tryz.ntmps174
 go_wp2_with (go_at_call 228;refine(be (by assumption)).mono ?_;rintro e w' ⟨rfl,rfl⟩)
 go_end0
 exact⟨rfl,by rw[HH.out];exact h,Fr.refl _ _⟩
):p:=h
theorem XY {p:Prop} (h:p:=by
 have:c=105∨c=106∨c=107∨c=108∨c=109∨c=110∨c=111∨c=112∨c=113∨c=114∨c=115∨c=116:=by omega
 rcases this with rfl|rfl|rfl|rfl|rfl|rfl|rfl|rfl|rfl|rfl|rfl|rfl<;>decide
):p:=h
theorem Uj {p:Prop} (h:p:=by
 rw[List.length_append]
 try simp only
 omega
):p:=h
theorem WS {p:Prop} (h:p:=by
 clear hn hx hI
 go_wp2
 go_ret
 exact⟨by rw[Hall.out];rfl,rfl⟩
):p:=h
theorem UW {p:Prop} (h:p:=by
 have f2:=f1.trans hF2
 go_ret
 refine⟨v4,rfl,by simpa using ho4,?_,f2.trans hA4.1⟩
 intro b hb
 rcases hA4.2 b hb with hb|hb
 ·cases hb
 ·exact Nat.le_trans f2.size hb
):p:=h
theorem UG {p:Prop} (h:p:=by
 go_wp2_with (go_at_call 117;refine(cK _ ⟨3,false,⟨k,n⟩⟩).mono ?_;rintro e w2 ⟨rfl,hF2⟩)
 exact TY
):p:=h
theorem VR {p:Prop} (h:p:=by
 refine⟨_,rfl,rfl,by simp[Value.oneCell'],?_,by exact rz,by exact rY⟩
 (apply KT.fin;(·exact gL));intro wz hz
 exact⟨_,rfl,hz _ List.mem_cons_self⟩
):p:=h
theorem Uq {p:Prop} (h:p:=by
 rw[if_pos hq]at e1
 simp only at e1
 exfalso
 by_cases hz:(af c ah).2.err=0
 ·rw[eg hz (by decide)]at e1;cases e1
 ·rw[fU hz]at e1;exact hz e1
):p:=h
theorem Uv {p:Prop} (h:p:=by
 go_roundw
 case rel=>
  refine⟨i+1,by go_num,by omega,?_⟩
  rw[E.out,←List.append_assoc]
  exact hS.sel (by exact ic)
 case measure=>simp[intOf];omega
):p:=h
theorem Vg {p:Prop} (h:p:=by
 clear hI hp hz h0iff hix hidv
 go_wp2_with (go_at_call 102;refine hIX.mono ?_;rintro e w' ⟨rfl,hw⟩;rw[hw])
 go_ret2
 rw[HE.out]
 exact⟨rfl,V,hVx,hL⟩
):p:=h
theorem U3 {p:Prop} (h:p:=by
 rcases Nat.lt_or_ge b w.heap.size with hlt|hge
 ·exact hlt
 ·exfalso
  have:w.heap[b]? =none:=Array.getElem?_eq_none hge
  simp[World.cell?,this]at hc0
):p:=h
theorem Mj {p:Prop} (h:p:=by
 clear hT hi hm hnm hby e1 e2 hO hI
 exact Xp
):p:=h
theorem Wf {p:Prop} (h:p:=by
 intro v hv
 simp only[List.mem_cons,List.not_mem_nil,or_false]at hv
 rcases hv with rfl|rfl|rfl|rfl|rfl|rfl|rfl|rfl|rfl|rfl|rfl<;>first|assumption|rfl
):p:=h
theorem Tg {p:Prop} (h:p:=by
 unfold cf uH
 rw[hnm]
 dsimp only
 simp[hm,(by simpa using hz:¬table=0)]
):p:=h
theorem Vt {p:Prop} (h:p:=by
 have hC:=h.loc.cell;have hF:=h.loc.frz;simp only[bW]at hC
 (first|(go_at_call 228;go_enter Tryz.func228,Tryz.ntmps228)|(go_at_call 175;go_enter Tryz.func175,Tryz.ntmps175))
 go_wp2_with (go_at_call 229;refine(zE (by assumption)).mono ?_;rintro e w' ⟨rfl,rfl⟩)
 exact Cs
):p:=h
theorem SU {p:Prop} (h:p:=by
 simp[Lit.wf,IntKind.min,IntKind.max,IntKind.signed,IntKind.bits]at h
 omega
):p:=h
theorem UZ {p:Prop} (h:p:=by
 unfold cf uH
 rw[hnm]
 dsimp only
 simp[hm,(by simpa using hz:table=0),(by simpa using hnl:¬((⟨ek,en,⟨hk,hn⟩⟩:aF)=lV))]
):p:=h
theorem Uk {p:Prop} (h:p:=by
 clear e hI
 go_wp2
 go_roundw
 case rel=>exact⟨k+1,by go_num,by omega,by rw[hlen];go_num,hF.alloc _,E⟩
 case measure=>simp[intOf];omega
):p:=h
theorem Wg {p:Prop} (h:p:=by
 go_wp2_with (go_at_call 228;refine(be (by assumption)).mono ?_;rintro e w' ⟨rfl,rfl⟩)
 go_ret
 exact⟨rfl,h,Fr.refl _ _⟩
):p:=h
theorem WD {p:Prop} (h:p:=by
 obtain rfl:k=xs.length:=by omega
 have He:=Lib.hid (Bd hI.out Hlen.out)
 clear hI
 go_wp2
 go_ret
 exact⟨by rw[He.out];rfl,hF⟩
):p:=h
theorem WB {p:Prop} (h:p:=by
 go_wp2_with (go_at_call 176;refine(Dk h).mono ?_;rintro e w' ⟨rfl,n,rfl⟩)
 go_ret
 exact⟨rfl,h.drewN _,by exact cF⟩
):p:=h
theorem Vk {p:Prop} (h:p:=by
 intro W base args ds gs before hval hW _ hcond _ hL _ _
 exact contract H enc W base args ds gs before hval hW (hcond _ rfl) hL
):p:=h
theorem Oa {p:Prop} (h:p:=by
 go_simp
 simp only[Vs,Bool.or_false]
):p:=h
theorem V2 {p:Prop} (h:p:=by
 split at h
 ·rename_i h0
  split at h
  ·exact absurd h0 h
  ·rename_i h1;rw[if_pos h0,if_neg h1]
 ·rename_i h0;rw[if_neg h0]
):p:=h
theorem Wv {p:Prop} (h:p:=by
 go_wp2_with (go_at_call 107;refine hwt.mono ?_;rintro e w' ⟨rfl,hw2⟩;rw[hw2])
 go_ret2
 rw[HE.out]
 exact⟨rfl,V,hVx,hL⟩
):p:=h
theorem Wz {p:Prop} (h:p:=by
 have hk:i=xs.length:=by omega
 subst hk
 have Hall:=Lib.hid (QA hI.out)
 go_wp2
 go_ret
 exact⟨by rw[Hall.out];rfl,hF⟩
):p:=h
theorem WA {p:Prop} (h:p:=by
 unfold Oper.wp execOp
 simp only[ho,hx,hy,Sem.run_bind,hg,hr,Result.andThen_ok,Sem.run_pure]
 rw[Oper.upon_value]
 exact h
):p:=h
theorem UJ {p:Prop} (h:p:=by
 have:=wP (b:=bits-done-1) (by omega)
 rw[show bits-done-1-7=bits-(done+7)-1 by omega]at this
 exact_mod_cast this
):p:=h
theorem UU {p:Prop} (h:p:=by
 obtain⟨_,_,a,cap,hbv,h4,h5,_,h6⟩:=hb
 rcases h6 with h0|⟨b,off,rfl,_⟩
 ·omega
 ·exact⟨b,off,cap,hbv,h4,h5⟩
):p:=h
theorem Sf {p:Prop} (h:p:=by
 cases fs with
 |nil=>simp at hn0
 |cons a b=>exact⟨a,rfl,rfl⟩
):p:=h
theorem Sk {p:Prop} (h:p:=by
 unfold eqGuard
 simp[Sem.run_bind,run_program,hT,Result.andThen]
):p:=h
theorem Qe {p:Prop} (h:p:=by
 go_simp
 simp only[Wp,Ua,Bool.and_true]
):p:=h
theorem Ve {p:Prop} (h:p:=by
 have hE:=Lib.hid (hexit (.inl hk))
 subst hk
 clear hexit hbnd
 go_wp2
 go_ret
 refine⟨_,rfl,?_⟩
 rw[hE.out]
 exact hS
):p:=h
theorem Jx {p:Prop} (h:p:=by
 unfold cf
 rw[hnm]
 simp[hm]
):p:=h
theorem Wa {p:Prop} (h:p:=by
 go_enter Tryz.func119,Tryz.ntmps119
 go_wp2
 all_goals
  go_ret
  refine⟨?_,by exact cF⟩
  simp_all [bM]
):p:=h
theorem UB {p:Prop} (h:p:=by
 go_enter Tryz.func117,Tryz.ntmps117
 go_wp2
 all_goals
  go_ret
  refine⟨?_,by exact cF⟩
  simp_all [aj]
):p:=h
theorem Dj {p:Prop} (h:p:=by
 rw[List.length_cons]
 omega
):p:=h
theorem S6 {p:Prop} (h:p:=by
 simp only[ae,List.length_cons,List.length_append]
 omega
):p:=h
theorem UM {p:Prop} (h:p:=by
 intro l i j v hl hj
 simp only[Array.getD_eq_getD_getElem?,Array.getElem?_setIfInBounds]
 split<;>simp[*]
):p:=h
theorem UQ {p:Prop} (h:p:=by
 rw[if_pos h]
 refine(bH.map _).mono ?_
 rintro p k ⟨y,rfl,hy⟩
 rw[if_pos h]
 exact⟨rfl,hy⟩
):p:=h
theorem US {p:Prop} (h:p:=by
 constructor
 ·rintro⟨a,b⟩;exact⟨by omega,by omega,b,a⟩
 ·rintro⟨_,_,a,b⟩;exact⟨b,a⟩
):p:=h
theorem Ue {p:Prop} (h:p:=by
 split
 ·simp;omega
 ·split
  ·simp;omega
  ·simp;omega
):p:=h
theorem Wd {p:Prop} (h:p:=by
 have:∀c∈List.range 5,dA 7 4 c=false:=by decide
 exact this c (List.mem_range.2 (by omega))
):p:=h
theorem Vr {p:Prop} (h:p:=by
 have hk:i=l.length:=by omega
 subst hk
 rw[List.take_length]at hS
 go_wp2
 go_ret
 exact⟨_,rfl,hS⟩
):p:=h
theorem Ud {p:Prop} (h:p:=by
 intro u hu
 obtain⟨b,_,rfl⟩:=List.mem_map.1 hu
 rfl
):p:=h
theorem Ws {p:Prop} (h:p:=by
 rw[hs]
 clear hh hs hq
 go_enter Tryz.func202,Tryz.ntmps202
 go_wp2_with first|((go_at_call 200;refine(eO hR).mono ?_;rintro e w' ⟨rfl,nq,rfl⟩);have hR0:=hR.drewN nq;have hB0:=hB.drewN nq;have hC0:=hR0.loc.cell;have hG0:=hR0.loc.frz;have hT0:=hR0.loc.lt;simp only[bW]at hC0;have hLC0:=hB0.cell;have hLF0:=hB0.frz;have hLT0:=hB0.lt)|fail
 have hE:=mm (hR.drewN nq) hlt
 have hRX:=fun v0=>(hE.setLoc (lb:=w.heap.size+1) (by simp) (by omega) 0 v0)
 have hBX:=fun v0=>(((hB.drewN nq).set' (p:=⟨rb,0,none⟩) (by simp;omega) (.int .i64 ((s.at_:Int)+1))).set 0 v0)
 have hAX:=fun v0=>(((hA.drewN nq).set' (p:=⟨rb,0,none⟩) (by simp;omega) (.int .i64 ((s.at_:Int)+1))).set' (p:=⟨w.heap.size+1,0,none⟩) (by simp) v0)
 go_wp2_with first|((go_at_call 250;refine(ze (hRX _)).mono ?_;rintro e w2 ⟨v2,rfl,hS2,hR2,hF2⟩;obtain⟨a2,c2,rfl⟩:=hS2.shape);have hB2:=(hBX _).fr hF2 (by simp;omega);have hA2:=(hAX _).fr hF2 (by simp;omega);have hLC2:=hB2.cell;have hLF2:=hB2.frz;have hLT2:=hB2.lt)|fail
 have f2:Fr [rb] w w2:=Fr.trans (by exact cF) hF2
 have hR2X:=fun v1=>(hR2.setLoc (lb:=w.heap.size+1) (by simp) (by omega) 1 v1)
 have hB2X:=fun v1=>(hB2.set 1 v1)
 have hA2X:=fun v1=>(hA2.set' (p:=⟨w.heap.size+1,1,none⟩) (by simp) v1)
 go_wp2_with first|((go_at_call 252;refine(uQ (hR2X _)).mono ?_;rintro e w3 ⟨p3,r3,v3,rfl,hC3,hR3,hF3⟩;obtain⟨pa,pc,rfl⟩:=hC3.1.shape;obtain⟨ra,rc,rfl⟩:=hC3.2.1.shape;obtain⟨fa,fc,rfl⟩:=hC3.2.2.shape);have hB3:=(hB2X _).fr hF3 (by simp;omega);have hA3:=(hA2X _).fr hF3 (by simp;omega);have hLC3:=hB3.cell;have hLF3:=hB3.frz;have hLT3:=hB3.lt)|fail
 have f3:Fr [rb] w w3:=Fr.trans (by exact cF) hF3
 have hR3X:=fun v2 v3 v4 v5=>((((hR3.setLoc (lb:=w.heap.size+1) (by simp) (by omega) 2 v2).setLoc (lb:=w.heap.size+1) (by simp) (by omega) 3 v3).setLoc (lb:=w.heap.size+1) (by simp) (by omega) 4 v4).setLoc (lb:=w.heap.size+1) (by simp) (by omega) 5 v5)
 have hB3X:=fun v2 v3 v4 v5=>((((hB3.set 2 v2).set 3 v3).set 4 v4).set 5 v5)
 have hA3X:=fun v2 v3 v4 v5=>((((hA3.set' (p:=⟨w.heap.size+1,2,none⟩) (by simp) v2).set' (p:=⟨w.heap.size+1,3,none⟩) (by simp) v3).set' (p:=⟨w.heap.size+1,4,none⟩) (by simp) v4).set' (p:=⟨w.heap.size+1,5,none⟩) (by simp) v5)
 go_wp2_with ((go_at_call 253;refine(tU (hR3X _ _ _ _) he _ _ _ _ _ _ _ _ _ _ _ _ _ _).mono ?_;rintro e w4 ⟨rfl,hF4⟩);have hA4:=(hA3X _ _ _ _).fr hF4 (by simp);have hR4:=(hR3X _ _ _ _).fr hF4 (by simp) (by simp);have hLC4:=hA4.cell;have hLF4:=hA4.frz;have hLT4:=hA4.lt)
 have f4:Fr [rb] w w4:=Fr.trans (by exact cF) (hF4.mono (by simp))
 have k3:Fr [rb,w.heap.size+1,w.heap.size] w2 w3:=Fr.trans (by exact cF) (hF3.mono (by simp))
 have k4:Fr [rb,w.heap.size+1,w.heap.size] w2 w4:=Fr.trans (by exact cF) (hF4.mono (by simp))
 have j4:Fr [rb,w.heap.size+1,w.heap.size] w3 w4:=Fr.trans (by exact cF) (hF4.mono (by simp))
 refine eK rfl rfl ((((((hA4.set 0 _).set 1 _).set 2 _).set 3 _).set 4 _).set 5 _) zx rfl xG rfl ⟨_,_,_,_,rfl,⟨?_,?_⟩,?_,?_⟩
 ·exact hS2.out2 (by exact cF) h.mem
 ·exact hC3.out2 (by exact cF) h.mem
 ·exact HD
 ·exact cF
):p:=h
theorem Wx {p:Prop} (h:p:=by
 go_wp2_with first|(refine oY rfl rfl rfl ?_;refine QE ?_;intro wN hS;(try clear hQ);have hQ:=St.fq hS)|(go_at_call 11;refine(hM.out _ (by exact aM)).mono ?_;rintro e w4 ⟨rfl,hF4⟩;rw[HM.out];(try clear hQ);refine cB hF4 fun hS hQ=> ?_)|(go_at_call 33;refine(pL _ m.funcs (an.fr dG.fr h2 (by exact aM))).mono ?_;rintro e w4 ⟨rfl,hF4⟩;rw[HN.out];(try clear hQ);refine cB hF4 fun hS hQ=> ?_)|(go_at_call 13;refine(rC gv (p:=cm) (St.pick (G:= _) (by exact aA) (by exact aK)) h0 (by exact bS) HPgrp.out).mono ?_;rintro e w4 ⟨v4,rfl,hS⟩;(try clear hQ);have hQ:=St.fq hS)|(go_at_call 15;refine(rf gp (p:=dR) (St.pick (G:= _) (by exact aA) (by exact aK)) h1 (by exact bS) HPimp.out).mono ?_;rintro e w4 ⟨v4,rfl,hS⟩;(try clear hQ);have hQ:=St.fq hS)|(go_at_call 20;refine(rL jj (p:=fD) (St.pick (G:= _) (by exact aA) (by exact aK)) h3 (by exact bS) HPtab.out).mono ?_;rintro e w4 ⟨v4,rfl,hS⟩;(try clear hQ);have hQ:=St.fq hS)|(go_at_call 22;refine(ro fR (p:=ea) (St.pick (G:= _) (by exact aA) (by exact aK)) h4 (by exact bS) HPlim.out).mono ?_;rintro e w4 ⟨v4,rfl,hS⟩;(try clear hQ);have hQ:=St.fq hS)|(go_at_call 24;refine(sh gj (p:=eW) (St.pick (G:= _) (by exact aA) (by exact aK)) h5 (by exact bS) HPint.out).mono ?_;rintro e w4 ⟨v4,rfl,hS⟩;(try clear hQ);have hQ:=St.fq hS)|(go_at_call 26;refine(rV jm (p:=gg) (St.pick (G:= _) (by exact aA) (by exact aK)) h6 (by exact bS) HPglo.out).mono ?_;rintro e w4 ⟨v4,rfl,hS⟩;(try clear hQ);have hQ:=St.fq hS)|(go_at_call 28;refine(su gq (p:=fF) (St.pick (G:= _) (by exact aA) (by exact aK)) h7 (by exact bS) HPexp.out).mono ?_;rintro e w4 ⟨v4,rfl,hS⟩;(try clear hQ);have hQ:=St.fq hS)|(go_at_call 31;refine(py fH (p:=cw) (St.pick (G:= _) (by exact aA) (by exact aK)) h9 (by exact bS) HPelem.out).mono ?_;rintro e w4 ⟨v4,rfl,hS⟩;(try clear hQ);have hQ:=St.fq hS)|(go_at_call 37;refine(sj gP (p:=eu) (St.pick (G:= _) (by exact aA) (by exact aK)) h10 (by exact bS) HPdat.out).mono ?_;rintro e w4 ⟨v4,rfl,hS⟩;(try clear hQ);have hQ:=St.fq hS)|(go_at_call 17;(with_reducible refine(rx dG (p:=(fun f=>au f.type)) (St.pick (G:= _) (by exact aA) (by exact aK)) h2 (by exact bS) HPfun.out).mono ?_);rintro e w4 ⟨v4,rfl,hS⟩;(try clear hQ);have hQ:=St.fq hS)|(go_at_call 17;refine(rQ dG (p:=dq) (St.pick (G:= _) (by exact aA) (by exact aK)) h2 (by exact bS) HPcod.out).mono ?_;rintro e w4 ⟨v4,rfl,hS⟩;(try clear hQ);have hQ:=St.fq hS)|fail
 go_region_held3 (fun w'=>w'.cell? ⟨w.heap.size,10,none⟩=some (.slice da1 m.datas.length da2)) (first|(go_keep;done)|(simp[hQ];done)) (first|((try clear hQ);refine JK fun vN wN hS hQ=> ?_)|(go_at_call 19;refine AP ?_;refine Sg ?_;intro vN wN hS;(try clear hQ);have hQ:=St.fq hS)|(go_at_call 30;refine oQ ?_;refine QV ?_;intro vN wN hS;(try clear hQ);have hQ:=St.fq hS))
 exact y3
):p:=h
theorem Wb {p:Prop} (h:p:=by
 have hs:dc bs s=(bu.zero,(et bs (bX bs (bR bs) s.next).2).2):=by unfold dc;rw[hh];simp only[ax.told,if_neg he]
 rw[hs]
 clear hh hs hq
 go_enter Tryz.func202,Tryz.ntmps202
 go_wp2_with first|((go_at_call 200;refine(eO hR).mono ?_;rintro e w' ⟨rfl,nq,rfl⟩);have hR0:=hR.drewN nq;have hB0:=hB.drewN nq;have hC0:=hR0.loc.cell;have hG0:=hR0.loc.frz;have hT0:=hR0.loc.lt;simp only[bW]at hC0;have hLC0:=hB0.cell;have hLF0:=hB0.frz;have hLT0:=hB0.lt)|fail
 have hE:=mm (hR.drewN nq) hlt
 have hRX:=fun v0=>(hE.setLoc (lb:=w.heap.size+1) (by simp) (by omega) 0 v0)
 have hBX:=fun v0=>(((hB.drewN nq).set' (p:=⟨rb,0,none⟩) (by simp;omega) (.int .i64 ((s.at_:Int)+1))).set 0 v0)
 have hAX:=fun v0=>(((hA.drewN nq).set' (p:=⟨rb,0,none⟩) (by simp;omega) (.int .i64 ((s.at_:Int)+1))).set' (p:=⟨w.heap.size+1,0,none⟩) (by simp) v0)
 go_wp2_with first|((go_at_call 250;refine(ze (hRX _)).mono ?_;rintro e w2 ⟨v2,rfl,hS2,hR2,hF2⟩;obtain⟨a2,c2,rfl⟩:=hS2.shape);have hB2:=(hBX _).fr hF2 (by simp;omega);have hA2:=(hAX _).fr hF2 (by simp;omega);have hLC2:=hB2.cell;have hLF2:=hB2.frz;have hLT2:=hB2.lt)|fail
 have f2:Fr [rb] w w2:=Fr.trans (by exact cF) hF2
 have hR2X:=fun v1=>(hR2.setLoc (lb:=w.heap.size+1) (by simp) (by omega) 1 v1)
 have hB2X:=fun v1=>(hB2.set 1 v1)
 have hA2X:=fun v1=>(hA2.set' (p:=⟨w.heap.size+1,1,none⟩) (by simp) v1)
 go_wp2_with first|((go_at_call 252;refine(uQ (hR2X _)).mono ?_;rintro e w3 ⟨p3,r3,v3,rfl,hC3,hR3,hF3⟩;obtain⟨pa,pc,rfl⟩:=hC3.1.shape;obtain⟨ra,rc,rfl⟩:=hC3.2.1.shape;obtain⟨fa,fc,rfl⟩:=hC3.2.2.shape);have hB3:=(hB2X _).fr hF3 (by simp;omega);have hA3:=(hA2X _).fr hF3 (by simp;omega);have hLC3:=hB3.cell;have hLF3:=hB3.frz;have hLT3:=hB3.lt)|fail
 exact V8
):p:=h
theorem UC {p:Prop} (h:p:=by
 rw[e]
 clear e
 go_enter Tryz.func23,Tryz.ntmps23
 go_wp2
 go_region_held3 (fun w'=>w'.cell? ⟨w.heap.size,1,none⟩=some (.int .u64 mn)) (first|(go_keep;done)|(simp[hQ];done)) (first|((try clear hQ);refine JK fun vN wN hS hQ=> ?_)|(go_at_call 85;(first|(with_reducible refine(wa mn _ (by omega)).mono ?_)|(with_reducible refine(sP mn _ (by omega)).mono ?_));rintro e w4 ⟨v4,rfl,s4⟩;(try clear hQ);refine qa s4 fun hS hQ=> ?_))
 go_wp2_with first|(at_builtin;(try clear hQ);refine wb fun vN wN hS hQ=> ?_)|(go_at_call 85;(first|(with_reducible refine(wa mx _ (by omega)).mono ?_)|(with_reducible refine(sP mx _ (by omega)).mono ?_));rintro e w4 ⟨v4,rfl,s4⟩;(try clear hQ);refine qa s4 fun hS hQ=> ?_)
 exact sz
):p:=h
theorem S4 {p:Prop} (h:p:=by
 have hp:bw bs s=(aF.zero,(ai bs s).2.refuse 61 s.at_):=by unfold bw;rw[if_neg (by omega),if_neg (by omega),if_neg (by omega),if_pos (by omega)]
 rw[hp]
 refine eK rfl rfl ((((hL4.set 0 _).set 1 _).set 2 _).set 3 _) kx rfl iP rfl ⟨rfl,?_,?_⟩
 ·exact tf
 ·exact cF
):p:=h
theorem V0 {p:Prop} (h:p:=by
 (repeat(apply Exists.intro))
 refine⟨?_,?_,?_,?_,?_,?_,?_,?_,?_⟩
 ·(exact aA)
 ·(exact aK)
 ·rfl
 ·rfl
 ·rfl
 ·rfl
 ·exact zz
 ·simp[Value.oneCell']
 intro wN hS
 (refine hK.out _ _ (by exact bB.range (hS.loc (by exact aK))) (fun hr=> ?_);clear hK K)
 (refine wpAnyH_take (i:=7) (v:= .bool false) rfl (by kernel_rfl) (by kernel_rfl) (by kernel_rfl) (fun _ _ _ h=>h) (Or.inl ⟨by rfl,fun _ _=>by go_simp⟩) hr ?_;simp only[Act.put,List.setIfInBounds_toArray,List.set_cons_zero,List.set_cons_succ])
 exact VI
):p:=h
theorem wy {p:Prop} (h:p:=by
 go_ret
 refine⟨vN,rfl,?_⟩
 rw[E0.out]
 exact hS.sel (by exact ic)
):p:=h
theorem U6 {p:Prop} (h:p:=by
 refine wpAnyH_done (by kernel_rfl) ?_ _
 clear hr
 (try clear hQ);have hQ:=St.fq hS
 go_wp2_with first|(refine mW (ty:=_) (c:=true) rfl rfl rfl rfl (by exact zu) rfl (fun _=> ?_) (fun h=>by cases h);refine VE ?_)|(refine GO OQ rfl rfl rfl rfl rfl (FK _ _ _ _ _ _ _ _ _ _ _ _ _ _ _ _ _ _ _ _ _ _ _ _ _ _ _ _ _ _ _ _ _ _ _ _ _ _ _) ?_)|fail
 go_ret
 refine⟨?_,by exact aM⟩
 simp[dJ.zero,eA.zero,dW.zero,aF.zero,Bool.and_assoc,-Bool.decide_and,Bool.decide_and]
):p:=h
theorem UR {p:Prop} (h:p:=by
 clear hb
 go_enter Tryz.func152,Tryz.ntmps152
 go_wp2_with first|(go_at_call 205;refine hU fun hT=> ?_;(with_reducible refine(eG 5 5 5 5 rfl rfl (by decide) (by decide) hT.rd).mono ?_);rintro e w1 ⟨rfl,hR1,hF1⟩;have hS:=hT.call hR1 hF1;clear hT hR1 hF1;(try clear hQ);have hQ:=St.fq hS.r.st;(try clear hN);have hN:=St.aq hS.r.st)|(go_at_call 213;(try clear hQ);refine ia (fun h=>zJ h 64 (by decide) (by decide)) fun w1 hS hQ hN=> ?_)
 exact Ui
):p:=h
theorem UX {p:Prop} (h:p:=by
 rw[e]
 clear e
 go_enter Tryz.func23,Tryz.ntmps23
 go_wp2
 go_region_held3 (fun w'=>w'.cell? ⟨w.heap.size,1,none⟩=some (.int .u64 mn)) (first|(go_keep;done)|(simp[hQ];done)) (first|((try clear hQ);refine JK fun vN wN hS hQ=> ?_)|(go_at_call 85;(first|(with_reducible refine(wa mn _ (by omega)).mono ?_)|(with_reducible refine(sP mn _ (by omega)).mono ?_));rintro e w4 ⟨v4,rfl,s4⟩;(try clear hQ);refine qa s4 fun hS hQ=> ?_))
 go_wp2
 exact sz
):p:=h
theorem PL {p:Prop} (h:p:=by
 have hne:decide (xs=ys)=false:=decide_eq_false (vu Hx.out Hy.out (by intro h;injections;contradiction))
 have Hne:=Lib.hid hne
 clear hne q0 q1
 exact Sm
):p:=h
theorem Qo {p:Prop} (h:p:=by
 have hne:decide (xs=ys)=false:=decide_eq_false (vu Hx.out Hy.out (by intro h;injections;contradiction))
 have Hne:=Lib.hid hne
 clear hne q0
 exact Sm
):p:=h
theorem K1 {p:Prop} (h:p:=by
 have Hall:=Lib.hid hall
 clear hall
 go_wp2
 go_ret
 exact⟨by rw[Hall.out];rfl,hF⟩
):p:=h
theorem TB {p:Prop} (h:p:=by
 go_enter Tryz.func73,Tryz.ntmps73
 go_wp2_with (go_at_call 120;refine(jY _ hn _).mono ?_;rintro e w2 ⟨rfl,hF2⟩;rw[H.out];(try clear hQ);refine cB hF2 fun hS hQ=> ?_)
 exact qF
):p:=h
theorem Ug {p:Prop} (h:p:=by
 go_wp2_with first|(at_builtin;(try clear hQ);refine wb fun vN wN hS hQ=> ?_)|(go_at_call 242;refine mE ?_;refine sC ?_;intro vN wN hS;(try clear hQ);have hQ:=St.fq hS)
 exact sz
):p:=h
theorem Wy {p:Prop} (h:p:=by
 go_enter Tryz.func75,Tryz.ntmps75
 go_wp2_with first|(go_at_call 127;refine(gN _ x.type).mono ?_;rintro e w2 ⟨rfl,hF2⟩;rw[H.out];(try clear hQ);refine cB hF2 fun hS hQ=> ?_)|(go_at_call 93;refine(HI.out _ (by exact aM)).mono ?_;rintro e w2 ⟨rfl,hF2⟩;rw[H2.out];(try clear hQ);refine cB hF2 fun hS hQ=> ?_)
 exact qF
):p:=h
theorem Wt {p:Prop} (h:p:=by
 have hAW6:=hAW5.trans hA6
 have hg6:=hgW5.ap hA6
 have q3:=p3.ap hA6
 have hLC6:=hL6.cell;have hLF6:=hL6.frz;have hLT6:=hL6.lt
 go_wp2_with (go_at_call 189;refine(lP _ hg6 _ _ rs q3 o3 ho6 hx6).mono ?_;rintro e w7 ⟨v7,rfl,ho7,hA7⟩)
 go_ret
 refine⟨v7,rfl,?_,hAW.trans (hAW6.trans hA7)⟩
 rw[Hfin.out]
 simpa using ho7
):p:=h
theorem Qi {p:Prop} (h:p:=by
 go_roundw
 case rel=>
  exact⟨i+1,by go_num,by omega,(f1 _).trans hF2,Hall⟩
 case measure=>simp[intOf];omega
):p:=h
theorem Ss {p:Prop} (h:p:=by
 have hne:decide (xs=ys)=false:=decide_eq_false (vu Hx.out Hy.out (by intro h;injections;contradiction))
 have Hne:=Lib.hid hne
 clear hne q0 q1 q2
 exact Sm
):p:=h
theorem DY {p:Prop} (h:p:=by
 rw[e0]
 have HK:=Lib.hid hk
 clear he hk e0
 exact y1
):p:=h
theorem Vi {p:Prop} (h:p:=by
 refine bodyPost_ret (v:=nI ⟨16,⟨1,false,⟨0,0⟩⟩,(ai bs s.next).1==1⟩) (by simp[results,Tryz.results269,go_sem,Am, *]) rfl ⟨rfl,?_,?_⟩
 ·exact HD
 ·exact cF
):p:=h
theorem U8 {p:Prop} (h:p:=by
 refine bodyPost_ret (v:=nI ⟨8,⟨1,false,⟨0,0⟩⟩,(ai bs s.next).1==1⟩) (by simp[results,Tryz.results269,go_sem,Am, *]) rfl ⟨rfl,?_,?_⟩
 ·exact HD
 ·exact cF
):p:=h
theorem KF {p:Prop} (h:p:=by
 obtain⟨j,rfl⟩:∃j,k=j+1:=⟨k-1,by omega⟩
 simp[av,he]
):p:=h
theorem U9 {p:Prop} (h:p:=by
 refine bodyPost_ret (v:=nI ⟨0,(bw bs s).1,(ai bs (bw bs s).2).1==1⟩) (by simp[results,Tryz.results269,go_sem,Am, *]) rfl ⟨rfl,?_,?_⟩
 ·exact HD
 ·exact cF
):p:=h
theorem Un {p:Prop} (h:p:=by
 have hm:m<18446744073709551616:=by omega
 (first|(go_at_call 242;go_enter Tryz.func242,Tryz.ntmps242)|(go_at_call 19;go_enter Tryz.func19,Tryz.ntmps19))
 go_wp2_with first|(at_builtin;(try clear hQ);refine wb fun vN wN hS hQ=> ?_)|(go_at_call 85;(first|(with_reducible refine(wa m _ hm).mono ?_)|(with_reducible refine(sP m _ hm).mono ?_));rintro e w4 ⟨v4,rfl,s4⟩;(try clear hQ);refine qa s4 fun hS hQ=> ?_)
 exact sz
):p:=h
theorem QB {p:Prop} (h:p:=by
 go_wp2
 go_ret
 refine⟨v6,rfl,?_,hAW.trans (hAW5.trans hA6)⟩
 rw[Hfin.out]
 simpa using ho6
):p:=h
theorem U1 {p:Prop} (h:p:=by
 first
  |(go_wp2;go_ret;exact⟨by rw[Hne.out];rfl,by first|exact hF|exact hF.drew⟩)
  |(go_wp2;go_roundw;(case rel=>exact⟨i+1,by go_num,by omega,by first|exact hF|exact hF.drew,HI2⟩);(case measure=>simp[intOf];omega))
):p:=h
theorem V3 {p:Prop} (h:p:=by
 have HM:=Lib.hid hm
 clear hm
 obtain⟨a1,c1,rfl⟩:=an.shape h1
 obtain⟨a2,c2,rfl⟩:=an.shape h2
 clear h1 h2
 have hS:=St.start [] w
 (first|(go_at_call 111;go_enter Tryz.func111,Tryz.ntmps111)|(go_at_call 41;go_enter Tryz.func41,Tryz.ntmps41))
 go_wp2_with ((first|go_at_call 180|go_at_call 108);refine HM.out.mono ?_;rintro e w4 ⟨rfl,hF4⟩;(try clear hQ);refine cB hF4 fun hS hQ=> ?_)
 exact qF
):p:=h
theorem U4 {p:Prop} (h:p:=by
 go_wp2_with first|(at_builtin;(try clear hQ);refine wb fun vN wN hS hQ=> ?_)|((first|go_at_call 132|go_at_call 79);refine(HP.out _ (by exact aM)).mono ?_;rintro e w4 ⟨v4,rfl,s4⟩;(try clear hQ);refine qa s4 fun hS hQ=> ?_)
 exact sz
):p:=h
theorem Hm {p:Prop} (h:p:=by
 exact⟨rfl,by exact rz,by exact rY⟩
):p:=h
theorem U7 {p:Prop} (h:p:=by
 go_wp2_with first|(go_at_call 19;refine ki ?_;refine sC ?_;intro vN wN hS;(try clear hQ);have hQ:=St.fq hS)|(at_builtin;(try clear hQ);refine wb fun vN wN hS hQ=> ?_)
 exact sz
):p:=h
theorem WG {p:Prop} (h:p:=by
 rw[hp]
 refine eK rfl rfl ((((hL1.set 0 _).set 1 _).set 2 _).set 3 _) kx rfl iP rfl ⟨rfl,?_,?_⟩
 ·exact tf
 ·exact cF
):p:=h
theorem Wq {p:Prop} (h:p:=by
 go_wp2_with first|(go_at_call 285;refine(ux hR _).mono ?_;rintro e w' ⟨rfl,rfl⟩)|(go_at_call 228;refine(be hR).mono ?_;rintro e w' ⟨rfl,rfl⟩)
 exact Xr
):p:=h
theorem Wu {p:Prop} (h:p:=by
 refine uT rfl rfl eB rfl rfl ?_;refine XX ?_
 exact⟨_,_,_,rfl,by(have hZ:=(((hS.nil 61 4 0).nil 3 1 0).nil 300 3 0);refine hZ.sel ?_;unfold qw;(exact zl))⟩
):p:=h
theorem Uo {p:Prop} (h:p:=by
 go_wp2_with first|(go_at_call 266;refine(vq hR _).mono ?_;rintro e w' ⟨rfl,rfl⟩)|(go_at_call 228;refine(be hR).mono ?_;rintro e w' ⟨rfl,rfl⟩)
 exact Xr
):p:=h
theorem Uz {p:Prop} (h:p:=by
 go_wp2_with first|(go_at_call 291;refine(pN hR _).mono ?_;rintro e w' ⟨rfl,rfl⟩)|(go_at_call 228;refine(be hR).mono ?_;rintro e w' ⟨rfl,rfl⟩)
 exact Xr
):p:=h
theorem Th {p:Prop} (h:p:=by
 go_wp2_with first|(at_builtin;(try clear hQ);refine wb fun vN wN hS hQ=> ?_)
 exact sz
):p:=h
theorem VV {p:Prop} (h:p:=by
 have hne:decide (xs=ys)=false:=decide_eq_false (vu Hx.out Hy.out (by intro h;injections;contradiction))
 have Hne:=Lib.hid hne
 clear hne q0 q1 q2 q3
 exact Sm
):p:=h
theorem UH {p:Prop} (h:p:=by
 have h1:=bG t.comp.fields.length (by omega)
 have h2:=j8 bj 16 t.comp.fields (fun f hf=>nH f (o4 f hf))
 exact xX
):p:=h
theorem QD {p:Prop} (h:p:=by
 go_ret
 exact⟨by rw[Hall.out];rfl,(f1 _).trans hF2⟩
):p:=h
theorem U0 {p:Prop} (h:p:=by
 go_wp2_with first|(go_at_call 30;refine zf bs2 ?_;refine VA ?_;intro vN wN hS;(try clear hQ);have hQ:=St.fq hS)|fail
 exact sz
):p:=h
theorem Cs {p:Prop} (h:p:=by
 go_ret
 exact⟨rfl,rfl⟩
):p:=h
theorem TP {p:Prop} (h:p:=by
 simp only[decide_eq_false_iff_not]
 intro h
 exact hlen (by rw[h])
):p:=h
theorem VM {p:Prop} (h:p:=by
 exact⟨a1,c1,rfl,hN1.stay hO1 hlt hf3 (by simpa using hrl),hR3,Fr.trans (hf1.mono (S':= [rb]) (by simp)) hf3⟩
):p:=h
theorem Vu {p:Prop} (h:p:=by
 go_wp2
 go_ret
 exact⟨v',rfl,hown1,hnew.app hb1 (by have:=hfr.size;omega),(hfr.alloc _).app hf1 hnew⟩
):p:=h
theorem TY {p:Prop} (h:p:=by
 go_ret
 exact⟨rfl,((Fr.refl [] w).alloc _).trans hF2⟩
):p:=h
theorem Ux {p:Prop} (h:p:=by
 go_ret
 refine⟨?_,by exact aM⟩
 rw[EQ.out]
 (try rw[T1.out])
 (try rw[T2.out])
 (try rw[T3.out])
 rfl
):p:=h
theorem V8 {p:Prop} (h:p:=by
 have f3:Fr [rb] w w3:=Fr.trans (by exact cF) hF3
 have hR3X:=fun v2 v3 v4 v5=>((((hR3.setLoc (lb:=w.heap.size+1) (by simp) (by omega) 2 v2).setLoc (lb:=w.heap.size+1) (by simp) (by omega) 3 v3).setLoc (lb:=w.heap.size+1) (by simp) (by omega) 4 v4).setLoc (lb:=w.heap.size+1) (by simp) (by omega) 5 v5)
 have hB3X:=fun v2 v3 v4 v5=>((((hB3.set 2 v2).set 3 v3).set 4 v4).set 5 v5)
 have hA3X:=fun v2 v3 v4 v5=>((((hA3.set' (p:=⟨w.heap.size+1,2,none⟩) (by simp) v2).set' (p:=⟨w.heap.size+1,3,none⟩) (by simp) v3).set' (p:=⟨w.heap.size+1,4,none⟩) (by simp) v4).set' (p:=⟨w.heap.size+1,5,none⟩) (by simp) v5)
 go_wp2_with ((go_at_call 253;refine(BX (hR3X _ _ _ _) he _ _ _ _ _ _ _ _ _ _ _ _ _ _).mono ?_;rintro e w4 ⟨rfl,hF4⟩);have hA4:=(hA3X _ _ _ _).fr hF4 (by simp);have hR4:=(hR3X _ _ _ _).fr hF4 (by simp) (by simp);have hLC4:=hA4.cell;have hLF4:=hA4.frz;have hLT4:=hA4.lt)
 have f4:Fr [rb] w w4:=Fr.trans (by exact cF) (hF4.mono (by simp))
 refine eK rfl rfl ((((((hA4.set 0 _).set 1 _).set 2 _).set 3 _).set 4 _).set 5 _) zx rfl xG rfl ⟨_,_,_,_,rfl,kb.zero _ _,?_,?_⟩
 ·exact HD
 ·exact cF
):p:=h
theorem tf {p:Prop} (h:p:=by
 refine Rd.un1 (lb:=w.heap.size) ?_ h.mem
 exact y7
):p:=h
theorem Vl {p:Prop} (h:p:=by
 have hS:=dj.start h
 have q1:((bA bs s).2.err !=0)=false:=by simp[he]
 have hr:=eU bs s
 have e0:cA bs (bA bs s).1 (bA bs s).2=({aa.of (bA bs s).1 with x:=(aD bs (bA bs s).2).1},(aD bs (bA bs s).2).2):=by simp[cA,hk]
 exact DY
):p:=h
theorem xX {p:Prop} (h:p:=by
 unfold ae
 exact zV
):p:=h
theorem VI {p:Prop} (h:p:=by
 refine wpAnyH_done (by kernel_rfl) ?_ _
 clear hr
 (try clear hQ);have hQ:=St.fq hS
 go_wp2
 exact qF
):p:=h
theorem HD {p:Prop} (h:p:=by
 refine Rd.un1 (lb:=w.heap.size) (Rd.un1 (lb:=w.heap.size+1) ?_ (by simp;exact .inr h.mem)) h.mem
 exact y7
):p:=h
structure Kqz (q:Prop):Prop where
 o:q
theorem WO {q p:Prop} (kZ:q) (h:Kqz q→p:=by intro kZ;(repeat(apply Exists.intro));refine⟨?_,?_,?_,?_,?_⟩;(·exact oi);(·(try simp only[World.size_alloc,World.size_setCell,ay,ar]);apply nT.own;(exact iA));(·(try simp only[World.size_alloc,World.size_setCell,ay,ar]);apply oK.lit;(·exact iA);(·rfl);(·simp[Value.oneCell']));(·omega);exact kZ.o):p:=h ⟨kZ⟩
theorem Yp {q p:Prop} (kZ:q) (h:Kqz q→p:=by intro kZ;(repeat(apply Exists.intro));refine⟨?_,?_,?_,?_⟩;(·exact oi);(·exact iA);(·exact vQ);exact kZ.o):p:=h ⟨kZ⟩
theorem Tl {q p:Prop} (kZ:q) (h:Kqz q→p:=by intro kZ;(repeat(apply Exists.intro));refine⟨?_,?_,?_,?_⟩;(·apply dj.st;(exact oi));(·exact Sr);(·exact ff);exact kZ.o):p:=h ⟨kZ⟩
theorem W9 {q p:Prop} (kZ:q) (h:Kqz q→p:=by intro kZ;(repeat(apply Exists.intro));refine⟨?_,?_,?_,?_,?_,?_⟩;(·exact oi);(·exact iA);(·rfl);(·exact ff);(·simp[Value.oneCell']);exact kZ.o):p:=h ⟨kZ⟩
theorem XX {q p:Prop} (kZ:q) (h:Kqz q→p:=by intro kZ;(repeat(apply Exists.intro));refine⟨?_,?_,?_,?_⟩;(·exact oi);(·exact iA);(·exact ff);exact kZ.o):p:=h ⟨kZ⟩
theorem XQ {q p:Prop} (kZ:q) (h:Kqz q→p:=by intro kZ;(repeat(apply Exists.intro));refine⟨?_,?_,?_,?_,?_⟩;(·exact aA);(·(try simp only[World.size_alloc,World.size_setCell,ay,ar]);apply nT.own;(exact aK));(·(try simp only[World.size_alloc,World.size_setCell,ay,ar]);apply oK.lit;(·exact aK);(·rfl);(·simp[Value.oneCell']));(·omega);exact kZ.o):p:=h ⟨kZ⟩
theorem Wi {q p:Prop} (kZ:q) (h:Kqz q→p:=by intro kZ;(repeat(apply Exists.intro));refine⟨?_,?_,?_,?_,?_,?_⟩;(·exact oi);(·exact iA);(·rfl);(·exact ff);(·simp[cp,Value.oneCell']);exact kZ.o):p:=h ⟨kZ⟩
theorem WH {q p:Prop} (kZ:q) (h:Kqz q→p:=by intro kZ;(repeat(apply Exists.intro));refine⟨?_,?_,?_,?_,?_⟩;(·exact oi);(·(try simp only[World.size_alloc,World.size_setCell,ay,ar]);apply nT.own;(exact iA));(·(try simp only[World.size_alloc,World.size_setCell,ay,ar]);apply oK.lit;(·exact iA);(·rfl);(·simp[cp,Value.oneCell']));(·omega);exact kZ.o):p:=h ⟨kZ⟩
theorem Yr {q p:Prop} (kZ:q) (h:Kqz q→p:=by intro kZ;(repeat(apply Exists.intro));refine⟨?_,?_,?_,?_⟩;(·apply dj.st;apply KT.r;(exact gL));(·exact Sr);(·exact nj);exact kZ.o):p:=h ⟨kZ⟩
theorem Xc {q p:Prop} (kZ:q) (h:Kqz q→p:=by intro kZ;(repeat(apply Exists.intro));refine⟨?_,?_,?_,?_,?_,?_⟩;(·exact gL);(·exact iA);(·rfl);(·exact nj);(·simp[Value.oneCell']);exact kZ.o):p:=h ⟨kZ⟩
theorem WX {q p:Prop} (kZ:q) (h:Kqz q→p:=by intro kZ;(repeat(apply Exists.intro));refine⟨?_,?_,?_,?_⟩;(·exact gL);(·exact iA);(·exact nj);exact kZ.o):p:=h ⟨kZ⟩
theorem sX {q p:Prop} (kZ:q) (h:Kqz q→p:=by intro kZ;(repeat(apply Exists.intro));refine⟨?_,?_,?_,?_,?_⟩;(·exact gL);(·(try simp only[World.size_alloc,World.size_setCell,ay,ar]);apply nT.own;(exact iA));(·(try simp only[World.size_alloc,World.size_setCell,ay,ar]);apply oK.lit;(·exact iA);(·exact hl1);(·exact ho1));(·omega);exact kZ.o):p:=h ⟨kZ⟩
theorem Vw {q p:Prop} (kZ:q) (h:Kqz q→p:=by intro kZ;(repeat(apply Exists.intro));refine⟨?_,?_,?_,?_⟩;(·exact gL);(·exact iA);(·exact zb);exact kZ.o):p:=h ⟨kZ⟩
theorem Vy {q p:Prop} (kZ:q) (h:Kqz q→p:=by intro kZ;(repeat(apply Exists.intro));refine⟨?_,?_,?_,?_⟩;(·exact gL);(·exact iA);(·exact zg);exact kZ.o):p:=h ⟨kZ⟩
theorem V4 {q p:Prop} (kZ:q) (h:Kqz q→p:=by intro kZ;(repeat(apply Exists.intro));refine⟨?_,?_,?_,?_⟩;(·apply dj.st;apply KT.r;(exact gL));(·exact Sr);(·exact kF);exact kZ.o):p:=h ⟨kZ⟩
theorem VJ {q p:Prop} (kZ:q) (h:Kqz q→p:=by intro kZ;(repeat(apply Exists.intro));refine⟨?_,?_,?_,?_,?_,?_⟩;(·exact gL);(·exact iA);(·rfl);(·exact kF);(·simp[Value.oneCell']);exact kZ.o):p:=h ⟨kZ⟩
theorem Us {q p:Prop} (kZ:q) (h:Kqz q→p:=by intro kZ;(repeat(apply Exists.intro));refine⟨?_,?_,?_,?_⟩;(·exact gL);(·exact iA);(·exact kF);exact kZ.o):p:=h ⟨kZ⟩
theorem We {q p:Prop} (kZ:q) (h:Kqz q→p:=by intro kZ;(repeat(apply Exists.intro));refine⟨?_,?_,?_,?_⟩;(·exact aA);(·(try simp only[World.size_alloc,World.size_setCell,ay,ar]);first|(apply eD.loc;(exact aK);done)|(apply eD.elem;exact hRow));(·exact ff);exact kZ.o):p:=h ⟨kZ⟩
theorem UN {q p:Prop} (kZ:q) (h:Kqz q→p:=by intro kZ;(repeat(apply Exists.intro));refine⟨?_,?_,?_,?_,?_,?_⟩;(·exact aA);(·exact aK);(·rfl);(·exact ff);(·exact hOne);exact kZ.o):p:=h ⟨kZ⟩
theorem Wj {q p:Prop} (kZ:q) (h:Kqz q→p:=by intro kZ;(repeat(apply Exists.intro));refine⟨?_,?_,?_,?_⟩;(·exact aw);(·(try simp only[World.size_alloc,World.size_setCell,ay,ar]);apply eD.loc;first|exact bg.here|exact bg.there bg.here);(·exact ff);exact kZ.o):p:=h ⟨kZ⟩
theorem AO {q p:Prop} (kZ:q) (h:Kqz q→p:=by intro kZ;(repeat(apply Exists.intro));refine⟨?_,?_,?_,?_,?_,?_⟩;(·exact aA);(·exact aK);(·rfl);(·exact sd);(·simp[Value.oneCell']);exact kZ.o):p:=h ⟨kZ⟩
theorem VE {q p:Prop} (kZ:q) (h:Kqz q→p:=by intro kZ;(repeat(apply Exists.intro));refine⟨?_,?_,?_,?_⟩;(·exact aA);(·exact TC);(·exact sd);exact kZ.o):p:=h ⟨kZ⟩
theorem sC {q p:Prop} (kZ:q) (h:Kqz q→p:=by intro kZ;(repeat(apply Exists.intro));refine⟨?_,?_,?_,?_,?_⟩;(·exact aA);(·exact aK);(·omega);(·exact bS);exact kZ.o):p:=h ⟨kZ⟩
theorem zy {q p:Prop} (kZ:q) (h:Kqz q→p:=by intro kZ;(repeat(apply Exists.intro));refine⟨?_,?_,?_,?_,?_⟩;(·exact aw);(·exact aK);(·omega);(·exact bS);exact kZ.o):p:=h ⟨kZ⟩
theorem kv {q p:Prop} (kZ:q) (h:Kqz q→p:=by intro kZ;(repeat(apply Exists.intro));refine⟨?_,?_,?_,?_⟩;(·exact aA);(·exact aK);(·exact bS);exact kZ.o):p:=h ⟨kZ⟩
theorem QV {q p:Prop} (kZ:q) (h:Kqz q→p:=by intro kZ;(repeat(apply Exists.intro));refine⟨?_,?_,?_,?_,?_,?_⟩;(·exact aA);(·exact aK);(·exact aK);(·exact bS);(·exact bS);exact kZ.o):p:=h ⟨kZ⟩
theorem VA {q p:Prop} (kZ:q) (h:Kqz q→p:=by intro kZ;(repeat(apply Exists.intro));refine⟨?_,?_,?_,?_,?_⟩;(·exact aA);(·exact aK);(·exact hl);(·exact bS);exact kZ.o):p:=h ⟨kZ⟩
theorem Wn {q p:Prop} (kZ:q) (h:Kqz q→p:=by intro kZ;(repeat(apply Exists.intro));refine⟨?_,?_,?_,?_⟩;(·exact aA);(·(try simp only[World.size_alloc,World.size_setCell,ay,ar]);first|(apply eD.loc;(exact aK);done)|(apply eD.elem;exact hRow));(·exact hsz);exact kZ.o):p:=h ⟨kZ⟩
theorem QE {q p:Prop} (kZ:q) (h:Kqz q→p:=by intro kZ;(repeat(apply Exists.intro));refine⟨?_,?_,?_,?_,?_⟩;(·exact aA);(·exact aK);(·exact(show _=(aP).map B from rfl));(·exact⟨rfl,rfl,by decide⟩);exact kZ.o):p:=h ⟨kZ⟩
theorem Sg {q p:Prop} (kZ:q) (h:Kqz q→p:=by intro kZ;(repeat(apply Exists.intro));refine⟨?_,?_,?_⟩;(·exact aA);(·omega);exact kZ.o):p:=h ⟨kZ⟩
theorem UV {q p:Prop} (kZ:q) (h:Kqz q→p:=by intro kZ;(repeat(apply Exists.intro));refine⟨?_,?_,?_,?_,?_,?_⟩;(·exact aA);(·exact iA);(·rfl);(·exact ur);(·simp[Value.oneCell']);exact kZ.o):p:=h ⟨kZ⟩
theorem AZ {q p:Prop} (kZ:q) (h:Kqz q→p:=by intro kZ;(repeat(apply Exists.intro));refine⟨?_,?_,?_,?_,?_,?_⟩;(·exact aA);(·exact aK);(·exact hl5);(·rw[hl5];exact br);(·exact ho5);exact kZ.o):p:=h ⟨kZ⟩
theorem qS {q p:Prop} (kZ:q) (h:Kqz q→p:=by intro kZ;(repeat(apply Exists.intro));refine⟨?_,?_,?_,?_⟩;(·exact aA);(·exact TC);(·first|exact br|(rw[hl5];exact br)|(rw[hl6];exact br));exact kZ.o):p:=h ⟨kZ⟩
theorem UE {q p:Prop} (kZ:q) (h:Kqz q→p:=by intro kZ;(repeat(apply Exists.intro));refine⟨?_,?_,?_,?_⟩;(·exact aA);(·exact eD.elem (bB.range (hold2 _ hS.fr).1));(·first|exact br|(rw[hl5];exact br)|(rw[hl6];exact br));exact kZ.o):p:=h ⟨kZ⟩
theorem Xt {q p:Prop} (kZ:q) (h:Kqz q→p:=by intro kZ;(repeat(apply Exists.intro));refine⟨?_,?_,?_,?_,?_,?_⟩;(·exact aA);(·exact aK);(·exact hl6);(·rw[hl6];exact br);(·exact ho6);exact kZ.o):p:=h ⟨kZ⟩
theorem UO {q p:Prop} (kZ:q) (h:Kqz q→p:=by intro kZ;(repeat(apply Exists.intro));refine⟨?_,?_,?_,?_⟩;(·exact aA);(·exact eD.elem (bB.range (hold3 _ hS.fr).1));(·first|exact br|(rw[hl5];exact br)|(rw[hl6];exact br));exact kZ.o):p:=h ⟨kZ⟩
theorem EA {q p:Prop} (kZ:q) (h:Kqz q→p:=by intro kZ;(repeat(apply Exists.intro));refine⟨?_,?_,?_,?_⟩;(·exact aw);(·exact TC);(·first|exact br|(rw[hl5];exact br)|(rw[hl6];exact br));exact kZ.o):p:=h ⟨kZ⟩
theorem UL {q p:Prop} (kZ:q) (h:Kqz q→p:=by intro kZ;(repeat(apply Exists.intro));refine⟨?_,?_,?_,?_,?_,?_⟩;(·exact aw);(·exact aK);(·rfl);(·exact br);(·first|exact oC|(simp[Value.oneCell'];done));exact kZ.o):p:=h ⟨kZ⟩
end Go.Proofs.YtpdlmdlkecnpgaaGreatDoor
