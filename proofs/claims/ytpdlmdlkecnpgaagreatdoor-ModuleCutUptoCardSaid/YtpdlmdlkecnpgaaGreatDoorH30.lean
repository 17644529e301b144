/- Texts: MdEq MdLe MdS1. -/
import Derived.Test.YtpdlmdlkecnpgaaGreatDoorH0
import Derived.Test.YtpdlmdlkecnpgaaGreatDoorH12
import Derived.Test.YtpdlmdlkecnpgaaGreatDoorH24
set_option linter.unusedSimpArgs false
set_option linter.unusedVariables false
namespace Go.Proofs.YtpdlmdlkecnpgaaGreatDoor
open Go.RowKit
theorem Wp {p:Prop} [Decidable p] (a:Bool) (w:World):(if p then(Result.ok (Value.bool a) w:Result Value)else Result.ok (Value.bool false) w)=Result.ok (Value.bool (decide p&&a)) w:=by
 by_cases h:p<;>simp[h]
theorem Ua {p:Prop} [Decidable p] (a:Bool) (w:World):(if p then(Result.ok a w:Result Bool)else Result.ok false w)=Result.ok (decide p&&a) w:=by
 by_cases h:p<;>simp[h]
set_option maxRecDepth 100000
set_option maxHeartbeats 3200000
theorem GF (a0 b0:Int) (a1 b1:Bool) (a2 b2:Int) (a3 b3:Int) (w:World):(binOp .eql 61 (.agg #[.int .i64 a0,.bool a1,.int .i64 a2,.int .i64 a3]) (.agg #[.int .i64 b0,.bool b1,.int .i64 b2,.int .i64 b3])).run Tryz.prog w= .ok (.bool (decide (a0=b0)&&(decide (a1=b1)&&(decide (a2=b2)&&(decide (a3=b3)))))) w:=by
 exact Qe
theorem Ic (a0 b0:Int) (a1 b1:Bool) (a2 b2:Int) (a3 b3:Int) (a4 b4:Bool) (a5 b5:Int) (a6 b6:Int) (a7 b7:Bool) (w:World):(binOp .eql 73 (.agg #[.int .i64 a0,.bool a1,.int .i64 a2,.int .i64 a3,.bool a4,.int .u64 a5,.int .u64 a6,.bool a7]) (.agg #[.int .i64 b0,.bool b1,.int .i64 b2,.int .i64 b3,.bool b4,.int .u64 b5,.int .u64 b6,.bool b7])).run Tryz.prog w= .ok (.bool (decide (a0=b0)&&(decide (a1=b1)&&(decide (a2=b2)&&(decide (a3=b3)&&(decide (a4=b4)&&(decide (a5=b5)&&(decide (a6=b6)&&(decide (a7=b7)))))))))) w:=by
 exact Qe
theorem Iz (a0 b0:Int) (a1 b1:Bool) (a2 b2:Int) (a3 b3:Int) (a4 b4:Bool) (w:World):(binOp .eql 75 (.agg #[.int .i64 a0,.bool a1,.int .i64 a2,.int .i64 a3,.bool a4]) (.agg #[.int .i64 b0,.bool b1,.int .i64 b2,.int .i64 b3,.bool b4])).run Tryz.prog w= .ok (.bool (decide (a0=b0)&&(decide (a1=b1)&&(decide (a2=b2)&&(decide (a3=b3)&&(decide (a4=b4))))))) w:=by
 exact Qe
theorem FK (a0 b0:Int) (a1 b1:Int) (a2 b2:Int) (a3 b3:Bool) (a4 b4:Int) (a5 b5:Int) (a6 b6:Bool) (a7 b7:Int) (a8 b8:Int) (a9 b9:Bool) (a10 b10:Bool) (a11 b11:Int) (a12 b12:Int) (a13 b13:Bool) (a14 b14:Int) (a15 b15:Bool) (a16 b16:Int) (a17 b17:Int) (a18 b18:Bool) (w:World):(binOp .eql 77 (.agg #[.int .i64 a0,.int .i64 a1,.int .i64 a2,.bool a3,.int .i64 a4,.int .i64 a5,.bool a6,.int .u64 a7,.int .u64 a8,.bool a9,.bool a10,.int .u64 a11,.int .u64 a12,.bool a13,.int .i64 a14,.bool a15,.int .i64 a16,.int .i64 a17,.bool a18]) (.agg #[.int .i64 b0,.int .i64 b1,.int .i64 b2,.bool b3,.int .i64 b4,.int .i64 b5,.bool b6,.int .u64 b7,.int .u64 b8,.bool b9,.bool b10,.int .u64 b11,.int .u64 b12,.bool b13,.int .i64 b14,.bool b15,.int .i64 b16,.int .i64 b17,.bool b18])).run Tryz.prog w= .ok (.bool (decide (a0=b0)&&(decide (a1=b1)&&(decide (a2=b2)&&(decide (a3=b3)&&(decide (a4=b4)&&(decide (a5=b5)&&(decide (a6=b6)&&(decide (a7=b7)&&(decide (a8=b8)&&(decide (a9=b9)&&(decide (a10=b10)&&(decide (a11=b11)&&(decide (a12=b12)&&(decide (a13=b13)&&(decide (a14=b14)&&(decide (a15=b15)&&(decide (a16=b16)&&(decide (a17=b17)&&(decide (a18=b18))))))))))))))))))))) w:=by
 exact Qe
theorem Oz {w:World} {o:Oper} {a:Act} {K:Act→World→Prop} {Q:Exit→Act→World→Prop} {t t2:TypeId} {x y:Operand} {A B:Array Value} {r:Bool} (hT:Tryz.prog.eqGuardType Tryz.prog.depth t=false) (ho:o.op= .binOp .eql t x y t2) (hx:a.eval x= .agg A) (hy:a.eval y= .agg B) (hr:(binOp .eql t (.agg A) (.agg B)).run Tryz.prog w= .ok (.bool r) w) (h:K (a.put o.dst (.bool r)) w):o.wp Tryz.prog a w K Q:=by
 have hg:(eqGuard .eql t x y (.agg A) (.agg B)).run Tryz.prog w= .ok () w:=by
  exact Sk
 exact WA
variable {w : World} {ops : Array Oper} {rest : List Oper} {o : Oper} {a : Act} {Q : Exit → Act → World → Prop} {t t2 : TypeId} {x y : Operand} {A B : Array Value} {r : Bool}
theorem AN (hT:Tryz.prog.eqGuardType Tryz.prog.depth t=false) (hgd:o.guard=none) (ho:o.op= .binOp .eql t x y t2) (hx:a.eval x= .agg A) (hy:a.eval y= .agg B) (hr:(binOp .eql t (.agg A) (.agg B)).run Tryz.prog w= .ok (.bool r) w) (h:wpList Tryz.prog ops Q rest (a.put o.dst (.bool r)) w):wpList Tryz.prog ops Q (o::rest) a w:=
 wpList_plain hgd fun _ hK=>Oz hT ho hx hy hr (hK _ _ h)
theorem GO {j:Nat} (hT:Tryz.prog.eqGuardType Tryz.prog.depth t=false) (hgd:o.guard=some (j,true)) (hj:yielded ops a.tmps j=some true) (ho:o.op= .binOp .eql t x y t2) (hx:a.eval x= .agg A) (hy:a.eval y= .agg B) (hr:(binOp .eql t (.agg A) (.agg B)).run Tryz.prog w= .ok (.bool r) w) (h:wpList Tryz.prog ops Q rest (a.put o.dst (.bool r)) w):wpList Tryz.prog ops Q (o::rest) a w:=
 wpList_step fun K hK=>by
  rw[if_pos (by simp[Region.wanted,hgd,hj])]
  exact Oz hT ho hx hy hr (hK _ _ h)
theorem Fo:Tryz.prog.eqGuardType Tryz.prog.depth 61=false:=by kernel_rfl
theorem TN:Tryz.prog.eqGuardType Tryz.prog.depth 50=false:=by kernel_rfl
theorem MR:Tryz.prog.eqGuardType Tryz.prog.depth 73=false:=by kernel_rfl
theorem Mz:Tryz.prog.eqGuardType Tryz.prog.depth 75=false:=by kernel_rfl
theorem SF:Tryz.prog.eqGuardType Tryz.prog.depth 182=false:=by kernel_rfl
theorem SA:Tryz.prog.eqGuardType Tryz.prog.depth 97=false:=by kernel_rfl
theorem OQ:Tryz.prog.eqGuardType Tryz.prog.depth 77=false:=by kernel_rfl
theorem Tb:Tryz.prog.eqGuardType Tryz.prog.depth 79=false:=by kernel_rfl
theorem Cb:ka 30 65 8 96:=md (by kernel_rfl) (by kernel_rfl)
theorem Rm {S w rb bv bs s} (h:Rd S w rb bv bs s) (hg:cq S w) (hsm:bs.length≤274877906944):Calls Tryz.prog 166 #[.pointer (some ⟨rb,0,none⟩)] w (sy (gD) 8 S w rb bv bs (eS bs s)):=QW h hg hsm
theorem Dv (n:Nat) (hn:n≤549755813887) {S w rb bv bs s} (h:Rd S w rb bv bs s) (hg:cq S w) (hsm:bs.length≤274877906944):
 Calls Tryz.prog 217 #[.pointer (some ⟨rb,0,none⟩),.int .i64 (n:Int),.func (.func 166) #[] #[]] w (d7 (gD) 65 8 S w rb bv bs (av (eS bs) n s)):=by
 have h0:cV (eS bs) (gD) 65 8 S w rb bv bs n s (fun _=>True) (.int .i64 n) (.slice none 0 0) w:=cV.start h (cE.pure trivial)
 go_enter Tryz.func217,Tryz.ntmps217
 go_wp2
 go_loopw [1,7] (cV (eS bs) (gD) 65 8 S w rb bv bs n s (fun _=>True)) (fun n _ _=>(intOf n).toNat)
 case atStart=>exact h0
 case round=>
  obtain⟨j,xs,t,cs,rfl,hS,hj,hI⟩:=hrel
  by_cases hj0:j=0
  ·exact K0
  ·have hjp:0<j:=by omega
   by_cases he:t.err=0
   ·have q1:(t.err !=0)=false:=by simp[he]
    have He:=Lib.hid he
    clear he
    go_wp2_with first|(go_at_call 222;(try clear hQ);refine ia (fun h=>dI h) fun w1 hS hQ hN=> ?_)|(go_at_call 166;refine hU fun hT=> ?_;refine(Rm hT.wide (hT.gl7 hg) hsm).mono ?_;rintro e w1 ⟨c1,rfl,hl1,ho1,hP1,hR1,hF1⟩;have hS:=hT.callK hR1 hF1 hP1;clear hT hR1 hF1 hP1;(try clear hQ);have hQ:=St.fq hS.r.st;(try clear hN);have hN:=St.aq hS.r.st)|(refine dr Cb (by decide) (by decide) rfl rfl rfl rfl hl1 ?_)|(at_builtin;refine jA Cb (by decide) (by decide) rfl rfl rfl rfl ?_;refine sX ?_;intro vN wN hS;(try clear hQ);have hQ:=St.fq hS.r.st;(try clear hN);have hN:=St.aq hS.r.st)
    exact IB
   ·exact KG
theorem IJ {S w rb bv bs s} (h:Rd S w rb bv bs s) (hg:cq S w) (hsm:bs.length≤274877906944):Calls Tryz.prog 165 #[.pointer (some ⟨rb,0,none⟩),.func (.func 166) #[] #[]] w (d7 (gD) 65 8 S w rb bv bs (am bs (eS bs) s)):=by
 have hC:=cn bs s
 have hsm0:=h.small
 have hS:=KT.start h
 have hsm1:(af bs s).1≤549755813887:=by omega
 go_enter Tryz.func165,Tryz.ntmps165
 go_wp2_with first|(go_at_call 199;(try clear hQ);refine ia (fun h=>cZ h) fun w1 hS hQ hN=> ?_)|(go_at_call 217;refine(Dv _ hsm1 hS.rd (hS.gl7 hg) hsm).mono ?_;rintro e w1 ⟨v,cs,rfl,hK⟩)
 exact Lf
structure vI (w0 w:World) (lb rb lc:Nat) (V:LV) (L:bT) (bv:Value) (bs:List UInt8):Prop where
 hL:vB w0 w lb rb V L
 h:Rd (V.S rb lb) w rb bv bs ah
 hg:cq (V.S rb lb) w
 hsm:bs.length≤274877906944
 hlc:cE (V.S rb lb) w (fun w=>w.cell? ⟨lc,0,none⟩=some (.pointer (some ⟨lb,0,none⟩)))
theorem gF {w0 w:World} {lb rb lc:Nat} {V:LV} {L:bT} (hL:vB w0 w lb rb V L) (hlc:cE (V.S rb lb) w (fun w=>w.cell? ⟨lc,0,none⟩=some (.pointer (some ⟨lb,0,none⟩)))):
 w.cell? ⟨lc,0,none⟩=some (.pointer (some ⟨lb,0,none⟩))∧(∀w',Fr [rb] w w'→w'.cell? ⟨lc,0,none⟩=some (.pointer (some ⟨lb,0,none⟩)))∧(∀w1 i v,Fr [rb] w w1→(w1.setCell ⟨lb,i,none⟩ v).cell? ⟨lc,0,none⟩=some (.pointer (some ⟨lb,0,none⟩)))∧(∀w',Fr [rb] w w'→bB w' lb (om V L) 108):=
 ⟨hlc.now,fun w' hf=>hlc w' [rb] hf (fun _ _ hm=>by simp at hm;subst hm;simp[LV.S]),fun w1 i v hf=>hlc _ [rb,lb] ((hf.mono (S':= [rb,lb]) (by simp)).trans ((Fr.refl [rb,lb] w1).setCell (p:=⟨lb,i,none⟩) (by simp) v)) (fun _ _ hm=>by simp at hm;rcases hm with rfl|rfl<;>simp[LV.S]),fun w' hf=>hL.loc.fr hf (by simpa using fun e=>hL.apr.1 e.symm)⟩
def fQ (w0:World) (xo:List Nat×(Nat→Obj)) (lb rb:Nat) (bv:Value) (bs:List UInt8) (q:bT×ax) (e:Ending) (w':World):Prop:=
 e= .returned (.tuple #[])∧∃V',V'.xo=xo∧vB w0 w' lb rb V' q.1∧Rd (V'.S rb lb) w' rb bv bs q.2
theorem Vc {w0 w lb rb lc V L bv bs} (H:vI w0 w lb rb lc V L bv bs):Calls Tryz.prog 137 #[.pointer (some ⟨rb,0,none⟩),.pointer (some ⟨lc,0,none⟩)] w (fQ w0 V.xo lb rb bv bs ({L with m:={L.m with types:=(am bs (gy bs) ah).1}},(am bs (gy bs) ah).2)):=by
 obtain⟨hL,h,hg,hsm,hlc⟩:=H;have hS:=KT.start h;obtain⟨hcl,hlcw,hlcz,hlw⟩:=gF hL hlc
 go_enter Tryz.func137,Tryz.ntmps137
 go_region_held3 (fun w'=>w'.cell? ⟨lc,0,none⟩=some (.pointer (some ⟨lb,0,none⟩))) (first|(go_keep;done)|(exact hlcz _ _ _ hS.fr)|(exact hlcw _ hS.fr)|(simp[hcl];done)) (first|(go_at_call 138;refine hU fun hT=> ?_;refine(MV hT.wide (hT.gl7 hg) hsm).mono ?_;rintro e w1 ⟨v1,cs1,rfl,hK⟩;have hS:=hT.join hK;simp only[List.cons_append,List.nil_append]at hS;have hO:bf [] _ _ _ _ _ _:=hS.r.st.head;obtain⟨a1,c1,rfl,_,_⟩:=bf.shape hO;clear hT hK hO;have hlN:=hlw _ hS.fr;have hcN:=hlN.cell;have hgN:=hlN.frz;have hcM:=hlcw _ hS.fr;simp only[om]at hcN))
 go_wp2
 go_end0
 have hz:=hL.field h (hS.got fun w hw=>hw _ List.mem_cons_self) 0 {V with ty:= .slice a1 (am bs (gy bs) ah).1.length c1} {L with m:={L.m with types:=(am bs (gy bs) ah).1}} rfl rfl rfl rfl rfl (fun w hw hv=>by
  obtain⟨p0,p1,p2,p3,p4,p5,p6,p7,p8,p9⟩:=hw
  exact⟨hv,p1,p2,p3,p4,p5,p6,p7,p8,p9⟩)
 exact⟨rfl,_,by rfl,hz.1,hz.2⟩
theorem Vm {w0 w lb rb lc V L bv bs} (H:vI w0 w lb rb lc V L bv bs):Calls Tryz.prog 140 #[.pointer (some ⟨rb,0,none⟩),.pointer (some ⟨lc,0,none⟩)] w (fQ w0 V.xo lb rb bv bs ({L with m:={L.m with imports:=(am bs (mV bs) ah).1}},(am bs (mV bs) ah).2)):=by
 obtain⟨hL,h,hg,hsm,hlc⟩:=H;have hS:=KT.start h;obtain⟨hcl,hlcw,hlcz,hlw⟩:=gF hL hlc
 go_enter Tryz.func140,Tryz.ntmps140
 go_region_held3 (fun w'=>w'.cell? ⟨lc,0,none⟩=some (.pointer (some ⟨lb,0,none⟩))) (first|(go_keep;done)|(exact hlcz _ _ _ hS.fr)|(exact hlcw _ hS.fr)|(simp[hcl];done)) (first|(go_at_call 141;refine hU fun hT=> ?_;refine(Pd hT.wide hsm).mono ?_;rintro e w1 ⟨v1,cs1,rfl,hK⟩;have hS:=hT.join hK;simp only[List.cons_append,List.nil_append]at hS;have hO:bf [] _ _ _ _ _ _:=hS.r.st.head;obtain⟨a1,c1,rfl,_,_⟩:=bf.shape hO;clear hT hK hO;have hlN:=hlw _ hS.fr;have hcN:=hlN.cell;have hgN:=hlN.frz;have hcM:=hlcw _ hS.fr;simp only[om]at hcN))
 go_wp2
 go_end0
 have hz:=hL.field h (hS.got fun w hw=>hw _ List.mem_cons_self) 1 {V with im:= .slice a1 (am bs (mV bs) ah).1.length c1} {L with m:={L.m with imports:=(am bs (mV bs) ah).1}} rfl rfl rfl rfl rfl (fun w hw hv=>by
  obtain⟨p0,p1,p2,p3,p4,p5,p6,p7,p8,p9⟩:=hw
  exact⟨p0,hv,p2,p3,p4,p5,p6,p7,p8,p9⟩)
 exact⟨rfl,_,by rfl,hz.1,hz.2⟩
theorem VZ {w0 w lb rb lc V L bv bs} (H:vI w0 w lb rb lc V L bv bs):Calls Tryz.prog 143 #[.pointer (some ⟨rb,0,none⟩),.pointer (some ⟨lc,0,none⟩)] w (fQ w0 V.xo lb rb bv bs ({L with m:={L.m with funcs:=(am bs (nz bs) ah).1}},(am bs (nz bs) ah).2)):=by
 obtain⟨hL,h,hg,hsm,hlc⟩:=H;have hS:=KT.start h;obtain⟨hcl,hlcw,hlcz,hlw⟩:=gF hL hlc
 go_enter Tryz.func143,Tryz.ntmps143
 go_region_held3 (fun w'=>w'.cell? ⟨lc,0,none⟩=some (.pointer (some ⟨lb,0,none⟩))) (first|(go_keep;done)|(exact hlcz _ _ _ hS.fr)|(exact hlcw _ hS.fr)|(simp[hcl];done)) (first|(go_at_call 144;refine hU fun hT=> ?_;refine(LH hT.wide hsm).mono ?_;rintro e w1 ⟨v1,cs1,rfl,hK⟩;have hS:=hT.join hK;simp only[List.cons_append,List.nil_append]at hS;have hO:bf [] _ _ _ _ _ _:=hS.r.st.head;obtain⟨a1,c1,rfl,_,_⟩:=bf.shape hO;clear hT hK hO;have hlN:=hlw _ hS.fr;have hcN:=hlN.cell;have hgN:=hlN.frz;have hcM:=hlcw _ hS.fr;simp only[om]at hcN))
 go_wp2
 go_end0
 have hz:=hL.funs h hS (fun f hf=>vx (Q:=fun f=>f.locals= []∧f.body= []) (fun _=>⟨rfl,rfl⟩) _ _ f hf)
 exact⟨rfl,_,by rfl,hz.1,hz.2⟩
theorem U2 {w0 w lb rb lc V L bv bs} (H:vI w0 w lb rb lc V L bv bs) {cb:Nat} {cv:Value} (hct:cE (V.S rb lb) w (PY cb cv bs)):Calls Tryz.prog 146 #[.pointer (some ⟨rb,0,none⟩),.pointer (some ⟨cb,0,none⟩),.pointer (some ⟨lc,0,none⟩)] w (fQ w0 V.xo lb rb bv bs ({L with m:={L.m with tables:=(am bs (nt bs) ah).1}},(am bs (nt bs) ah).2)):=by
 obtain⟨hL,h,hg,hsm,hlc⟩:=H;have hS:=KT.start h;obtain⟨hcl,hlcw,hlcz,hlw⟩:=gF hL hlc
 have hmf:∀(fn:Fn) (first cap:Array Value) (w:World),(Instr.makeFunc fn first cap).run Tryz.prog w= .ok (.func fn first cap) w:=fun _ _ _ _=>rfl
 go_enter Tryz.func146,Tryz.ntmps146
 go_region_held3 (fun w'=>w'.cell? ⟨lc,0,none⟩=some (.pointer (some ⟨lb,0,none⟩))) (first|(go_keep;done)|(exact hlcz _ _ _ hS.fr)|(exact hlcw _ hS.fr)|(simp[hcl];done)) (first|(go_at_call 147;refine hU fun hT=> ?_;refine(MA hT.wide (hT.gl7 hg) hsm (hct.go hT.fr (fun b _ hb=>by simp at hb;subst hb;simp[LV.S]) hT.wideS)).mono ?_;rintro e w1 ⟨v1,cs1,rfl,hK⟩;have hS:=hT.join hK;simp only[List.cons_append,List.nil_append]at hS;have hO:bf [] _ _ _ _ _ _:=hS.r.st.head;obtain⟨a1,c1,rfl,_,_⟩:=bf.shape hO;clear hT hK hO;have hlN:=hlw _ hS.fr;have hcN:=hlN.cell;have hgN:=hlN.frz;have hcM:=hlcw _ hS.fr;simp only[om]at hcN))
 go_wp2
 go_end0
 have hz:=hL.field h (hS.got fun w hw=>hw _ List.mem_cons_self) 3 {V with ta:= .slice a1 (am bs (nt bs) ah).1.length c1} {L with m:={L.m with tables:=(am bs (nt bs) ah).1}} rfl rfl rfl rfl rfl (fun w hw hv=>by
  obtain⟨p0,p1,p2,p3,p4,p5,p6,p7,p8,p9⟩:=hw
  exact⟨p0,p1,p2,hv,p4,p5,p6,p7,p8,p9⟩)
 exact⟨rfl,_,by rfl,hz.1,hz.2⟩
theorem VH {w0 w lb rb lc V L bv bs} (H:vI w0 w lb rb lc V L bv bs):Calls Tryz.prog 150 #[.pointer (some ⟨rb,0,none⟩),.pointer (some ⟨lc,0,none⟩)] w (fQ w0 V.xo lb rb bv bs ({L with m:={L.m with mems:=(am bs (jr bs) ah).1}},(am bs (jr bs) ah).2)):=by
 obtain⟨hL,h,hg,hsm,hlc⟩:=H;have hS:=KT.start h;obtain⟨hcl,hlcw,hlcz,hlw⟩:=gF hL hlc
 go_enter Tryz.func150,Tryz.ntmps150
 go_region_held3 (fun w'=>w'.cell? ⟨lc,0,none⟩=some (.pointer (some ⟨lb,0,none⟩))) (first|(go_keep;done)|(exact hlcz _ _ _ hS.fr)|(exact hlcw _ hS.fr)|(simp[hcl];done)) (first|(go_at_call 151;refine hU fun hT=> ?_;refine(MN hT.wide hsm).mono ?_;rintro e w1 ⟨v1,cs1,rfl,hK⟩;have hS:=hT.join hK;simp only[List.cons_append,List.nil_append]at hS;have hO:bf [] _ _ _ _ _ _:=hS.r.st.head;obtain⟨a1,c1,rfl,_,_⟩:=bf.shape hO;clear hT hK hO;have hlN:=hlw _ hS.fr;have hcN:=hlN.cell;have hgN:=hlN.frz;have hcM:=hlcw _ hS.fr;simp only[om]at hcN))
 go_wp2
 go_end0
 have hz:=hL.field h (hS.got fun w hw=>hw _ List.mem_cons_self) 4 {V with me:= .slice a1 (am bs (jr bs) ah).1.length c1} {L with m:={L.m with mems:=(am bs (jr bs) ah).1}} rfl rfl rfl rfl rfl (fun w hw hv=>by
  obtain⟨p0,p1,p2,p3,p4,p5,p6,p7,p8,p9⟩:=hw
  exact⟨p0,p1,p2,p3,hv,p5,p6,p7,p8,p9⟩)
 exact⟨rfl,_,by rfl,hz.1,hz.2⟩
theorem WC {w0 w lb rb lc V L bv bs} (H:vI w0 w lb rb lc V L bv bs):Calls Tryz.prog 153 #[.pointer (some ⟨rb,0,none⟩),.pointer (some ⟨lc,0,none⟩)] w (fQ w0 V.xo lb rb bv bs ({L with m:={L.m with tags:=(am bs (kU bs) ah).1}},(am bs (kU bs) ah).2)):=by
 obtain⟨hL,h,hg,hsm,hlc⟩:=H;have hS:=KT.start h;obtain⟨hcl,hlcw,hlcz,hlw⟩:=gF hL hlc
 go_enter Tryz.func153,Tryz.ntmps153
 go_region_held3 (fun w'=>w'.cell? ⟨lc,0,none⟩=some (.pointer (some ⟨lb,0,none⟩))) (first|(go_keep;done)|(exact hlcz _ _ _ hS.fr)|(exact hlcw _ hS.fr)|(simp[hcl];done)) (first|(go_at_call 154;refine hU fun hT=> ?_;refine(Mt hT.wide hsm).mono ?_;rintro e w1 ⟨v1,cs1,rfl,hK⟩;have hS:=hT.join hK;simp only[List.cons_append,List.nil_append]at hS;have hO:bf [] _ _ _ _ _ _:=hS.r.st.head;obtain⟨a1,c1,rfl,_,_⟩:=bf.shape hO;clear hT hK hO;have hlN:=hlw _ hS.fr;have hcN:=hlN.cell;have hgN:=hlN.frz;have hcM:=hlcw _ hS.fr;simp only[om]at hcN))
 go_wp2
 go_end0
 have hz:=hL.field h (hS.got fun w hw=>hw _ List.mem_cons_self) 5 {V with tg:= .slice a1 (am bs (kU bs) ah).1.length c1} {L with m:={L.m with tags:=(am bs (kU bs) ah).1}} rfl rfl rfl rfl rfl (fun w hw hv=>by
  obtain⟨p0,p1,p2,p3,p4,p5,p6,p7,p8,p9⟩:=hw
  exact⟨p0,p1,p2,p3,p4,hv,p6,p7,p8,p9⟩)
 exact⟨rfl,_,by rfl,hz.1,hz.2⟩
theorem Vd {w0 w lb rb lc V L bv bs} (H:vI w0 w lb rb lc V L bv bs):Calls Tryz.prog 156 #[.pointer (some ⟨rb,0,none⟩),.pointer (some ⟨lc,0,none⟩)] w (fQ w0 V.xo lb rb bv bs ({L with m:={L.m with globals:=(am bs (nZ bs) ah).1}},(am bs (nZ bs) ah).2)):=by
 obtain⟨hL,h,hg,hsm,hlc⟩:=H;have hS:=KT.start h;obtain⟨hcl,hlcw,hlcz,hlw⟩:=gF hL hlc
 go_enter Tryz.func156,Tryz.ntmps156
 go_region_held3 (fun w'=>w'.cell? ⟨lc,0,none⟩=some (.pointer (some ⟨lb,0,none⟩))) (first|(go_keep;done)|(exact hlcz _ _ _ hS.fr)|(exact hlcw _ hS.fr)|(simp[hcl];done)) (first|(go_at_call 157;refine hU fun hT=> ?_;refine(OO hT.wide (hT.gl7 hg) hsm).mono ?_;rintro e w1 ⟨v1,cs1,rfl,hK⟩;have hS:=hT.join hK;simp only[List.cons_append,List.nil_append]at hS;have hO:bf [] _ _ _ _ _ _:=hS.r.st.head;obtain⟨a1,c1,rfl,_,_⟩:=bf.shape hO;clear hT hK hO;have hlN:=hlw _ hS.fr;have hcN:=hlN.cell;have hgN:=hlN.frz;have hcM:=hlcw _ hS.fr;simp only[om]at hcN))
 go_wp2
 go_end0
 have hz:=hL.field h (hS.got fun w hw=>hw _ List.mem_cons_self) 6 {V with gl:= .slice a1 (am bs (nZ bs) ah).1.length c1} {L with m:={L.m with globals:=(am bs (nZ bs) ah).1}} rfl rfl rfl rfl rfl (fun w hw hv=>by
  obtain⟨p0,p1,p2,p3,p4,p5,p6,p7,p8,p9⟩:=hw
  exact⟨p0,p1,p2,p3,p4,p5,hv,p7,p8,p9⟩)
 exact⟨rfl,_,by rfl,hz.1,hz.2⟩
theorem VS {w0 w lb rb lc V L bv bs} (H:vI w0 w lb rb lc V L bv bs):Calls Tryz.prog 159 #[.pointer (some ⟨rb,0,none⟩),.pointer (some ⟨lc,0,none⟩)] w (fQ w0 V.xo lb rb bv bs ({L with m:={L.m with exports:=(am bs (mG bs) ah).1}},(am bs (mG bs) ah).2)):=by
 obtain⟨hL,h,hg,hsm,hlc⟩:=H;have hS:=KT.start h;obtain⟨hcl,hlcw,hlcz,hlw⟩:=gF hL hlc
 go_enter Tryz.func159,Tryz.ntmps159
 go_region_held3 (fun w'=>w'.cell? ⟨lc,0,none⟩=some (.pointer (some ⟨lb,0,none⟩))) (first|(go_keep;done)|(exact hlcz _ _ _ hS.fr)|(exact hlcw _ hS.fr)|(simp[hcl];done)) (first|(go_at_call 160;refine hU fun hT=> ?_;refine(Mm hT.wide hsm).mono ?_;rintro e w1 ⟨v1,cs1,rfl,hK⟩;have hS:=hT.join hK;simp only[List.cons_append,List.nil_append]at hS;have hO:bf [] _ _ _ _ _ _:=hS.r.st.head;obtain⟨a1,c1,rfl,_,_⟩:=bf.shape hO;clear hT hK hO;have hlN:=hlw _ hS.fr;have hcN:=hlN.cell;have hgN:=hlN.frz;have hcM:=hlcw _ hS.fr;simp only[om]at hcN))
 go_wp2
 go_end0
 have hz:=hL.field h (hS.got fun w hw=>hw _ List.mem_cons_self) 7 {V with ex:= .slice a1 (am bs (mG bs) ah).1.length c1} {L with m:={L.m with exports:=(am bs (mG bs) ah).1}} rfl rfl rfl rfl rfl (fun w hw hv=>by
  obtain⟨p0,p1,p2,p3,p4,p5,p6,p7,p8,p9⟩:=hw
  exact⟨p0,p1,p2,p3,p4,p5,p6,hv,p8,p9⟩)
 exact⟨rfl,_,by rfl,hz.1,hz.2⟩
theorem SG {w0 w lb rb lc V L bv bs} (H:vI w0 w lb rb lc V L bv bs):Calls Tryz.prog 164 #[.pointer (some ⟨rb,0,none⟩),.pointer (some ⟨lc,0,none⟩)] w (fQ w0 V.xo lb rb bv bs ({L with m:={L.m with elems:=(am bs (eS bs) ah).1}},(am bs (eS bs) ah).2)):=by
 obtain⟨hL,h,hg,hsm,hlc⟩:=H;have hS:=KT.start h;obtain⟨hcl,hlcw,hlcz,hlw⟩:=gF hL hlc
 go_enter Tryz.func164,Tryz.ntmps164
 go_region_held3 (fun w'=>w'.cell? ⟨lc,0,none⟩=some (.pointer (some ⟨lb,0,none⟩))) (first|(go_keep;done)|(exact hlcz _ _ _ hS.fr)|(exact hlcw _ hS.fr)|(simp[hcl];done)) (first|(go_at_call 165;refine hU fun hT=> ?_;refine(IJ hT.wide (hT.gl7 hg) hsm).mono ?_;rintro e w1 ⟨v1,cs1,rfl,hK⟩;have hS:=hT.join hK;simp only[List.cons_append,List.nil_append]at hS;have hO:bf [] _ _ _ _ _ _:=hS.r.st.head;obtain⟨a1,c1,rfl,_,_⟩:=bf.shape hO;clear hT hK hO;have hlN:=hlw _ hS.fr;have hcN:=hlN.cell;have hgN:=hlN.frz;have hcM:=hlcw _ hS.fr;simp only[om]at hcN))
 go_wp2
 go_end0
 have hz:=hL.field h (hS.got fun w hw=>hw _ List.mem_cons_self) 9 {V with el:= .slice a1 (am bs (eS bs) ah).1.length c1} {L with m:={L.m with elems:=(am bs (eS bs) ah).1}} rfl rfl rfl rfl rfl (fun w hw hv=>by
  obtain⟨p0,p1,p2,p3,p4,p5,p6,p7,p8,p9⟩:=hw
  exact⟨p0,p1,p2,p3,p4,p5,p6,p7,hv,p9⟩)
 exact⟨rfl,_,by rfl,hz.1,hz.2⟩
theorem V1 {w0 w lb rb lc V L bv bs} (H:vI w0 w lb rb lc V L bv bs):Calls Tryz.prog 162 #[.pointer (some ⟨rb,0,none⟩),.pointer (some ⟨lc,0,none⟩)] w (fQ w0 V.xo lb rb bv bs ({L with m:={L.m with start:=(aD bs ah).1}},(aD bs ah).2)):=by
 obtain⟨hL,h,hg,hsm,hlc⟩:=H;have hS:=KT.start h;obtain⟨hcl,hlcw,hlcz,hlw⟩:=gF hL hlc
 go_enter Tryz.func162,Tryz.ntmps162
 go_region_held3 (fun w'=>w'.cell? ⟨lc,0,none⟩=some (.pointer (some ⟨lb,0,none⟩))) (first|(go_keep;done)|(exact hlcz _ _ _ hS.fr)|(exact hlcw _ hS.fr)|(simp[hcl];done)) (first|(go_at_call 163;refine hU fun hT=> ?_;refine(ko hT.rd).mono ?_;rintro e w1 ⟨rfl,hR1,hF1⟩;have hS:=hT.call hR1 hF1;clear hT hR1 hF1;have hlN:=hlw _ hS.fr;have hcN:=hlN.cell;have hgN:=hlN.frz;have hcM:=hlcw _ hS.fr;simp only[om]at hcN))
 go_wp2
 go_end0
 have hz:=hL.num h hS.rd hS.fr 8 (.int .i64 (aD bs ah).1) {L with m:={L.m with start:=(aD bs ah).1}} rfl rfl (fun w hw=>hw)
 exact⟨rfl,_,by rfl,hz.1,hz.2⟩
theorem Sa {w0 w lb rb lc V L bv bs} (H:vI w0 w lb rb lc V L bv bs):Calls Tryz.prog 167 #[.pointer (some ⟨rb,0,none⟩),.pointer (some ⟨lc,0,none⟩)] w (fQ w0 V.xo lb rb bv bs ({L with count:=(aD bs ah).1},(aD bs ah).2)):=by
 obtain⟨hL,h,hg,hsm,hlc⟩:=H;have hS:=KT.start h;obtain⟨hcl,hlcw,hlcz,hlw⟩:=gF hL hlc
 go_enter Tryz.func167,Tryz.ntmps167
 go_region_held3 (fun w'=>w'.cell? ⟨lc,0,none⟩=some (.pointer (some ⟨lb,0,none⟩))) (first|(go_keep;done)|(exact hlcz _ _ _ hS.fr)|(exact hlcw _ hS.fr)|(simp[hcl];done)) (first|(go_at_call 163;refine hU fun hT=> ?_;refine(ko hT.rd).mono ?_;rintro e w1 ⟨rfl,hR1,hF1⟩;have hS:=hT.call hR1 hF1;clear hT hR1 hF1;have hlN:=hlw _ hS.fr;have hcN:=hlN.cell;have hgN:=hlN.frz;have hcM:=hlcw _ hS.fr;simp only[om]at hcN))
 go_wp2
 go_end0
 have hz:=hL.num h hS.rd hS.fr 11 (.int .i64 (aD bs ah).1) {L with count:=(aD bs ah).1} rfl rfl (fun w hw=>hw)
 exact⟨rfl,_,by rfl,hz.1,hz.2⟩
theorem LR {bs:List UInt8} {s:ax} (hle:s.at_≤bs.length):(cC bs s).2.at_≤bs.length:=by
 unfold cC
 split
 ·split
  ·rename_i h
   exact uA hle h
  ·rw[QZ]
   exact hle
 ·exact hle
theorem PP {S w rb bv bs s} (h:Rd S w rb bv bs s) (hs:s=ah):Calls Tryz.prog 170 #[.pointer (some ⟨rb,0,none⟩)] w fun e w'=>e= .returned (.tuple #[])∧Rd S w' rb bv bs (RQ bs s).2∧Fr [rb] w w':=by
 subst hs
 have hS:=KT.start h
 have hsm:=h.small
 have hlen:bs.length-(cC bs ah).2.at_≤1099511627776:=by omega
 have hnl:=LR (bs:=bs) (s:=ah) h.le
 have hint:((bs.length:Int)-(cC bs ah).2.at_)=((bs.length-(cC bs ah).2.at_:Nat):Int):=by omega
 have HI:=Lib.hid hint
 clear hint
 go_enter Tryz.func170,Tryz.ntmps170
 go_wp2_with first|(go_at_call 171;(try clear hQ);refine ia (fun h=>AB h) fun w1 hS hQ hN=> ?_)|(go_at_call 173;refine hU fun hT=> ?_;refine(gU hT.rd).mono ?_;rintro e w1 ⟨rfl,nq,rfl⟩;rw[HI.out];have hS:=hT.drewN nq;clear hT;(try clear hQ);have hQ:=St.fq hS.r.st;(try clear hN);have hN:=St.aq hS.r.st)|(go_at_call 172;refine hU fun hT=> ?_;refine(uV _ hlen hT.wide).mono ?_;rintro e w1 ⟨a2,c2,rfl,hP1,hR1,hF1⟩;have hS:=hT.callK hR1 hF1 hP1;clear hT hR1 hF1 hP1;(try clear hQ);have hQ:=St.fq hS.r.st;(try clear hN);have hN:=St.aq hS.r.st)
 go_end0
 exact⟨rfl,hS.rd,hS.fr⟩
end Go.Proofs.YtpdlmdlkecnpgaaGreatDoor
