/- Texts: MdSd. -/
import Derived.Test.YtpdlmdlkecnpgaaGreatDoorH0
import Derived.Test.YtpdlmdlkecnpgaaGreatDoorH39
import Derived.Test.YtpdlmdlkecnpgaaGreatDoorH40
set_option linter.unusedSimpArgs false
set_option linter.unusedVariables false
namespace Go.Proofs.YtpdlmdlkecnpgaaGreatDoor
open Go.RowKit
theorem QR (m n:aV):decide (m=n)=(((decide (m.types=n.types))&&((decide (m.imports=n.imports))&&((decide (m.funcs=n.funcs))&&((decide (m.tables=n.tables))&&((decide (m.mems=n.mems))&&((decide (m.tags=n.tags))&&((decide (m.globals=n.globals))&&((decide (m.exports=n.exports))&&((m.start==n.start)&&((decide (m.elems=n.elems))&&(decide (m.datas=n.datas))))))))))))):=by
 obtain⟨a0,a1,a2,a3,a4,a5,a6,a7,a8,a9,a10⟩:=m
 obtain⟨b0,b1,b2,b3,b4,b5,b6,b7,b8,b9,b10⟩:=n
 rw[Bool.eq_iff_iff]
 simp only[aV.mk.injEq,Bool.and_eq_true,decide_eq_true_eq,beq_iff_eq]
structure PA (P:Program) (w:World) (f:FuncId) (args:Array Value) (b:Bool):Prop where
 out:∀w',Fr [] w w'→Calls P f args w' fun e w2=>e= .returned (.bool b)∧Fr [] w' w2
theorem Ld {p:Prop} (h:p:=by
 simp only[Bool.true_and,Bool.false_and]
 go_enter Tryz.func10,Tryz.ntmps10
 go_wp2_with first|(go_at_call 40;refine(H0.out.out _ (by exact aM)).mono ?_;rintro e w4 ⟨rfl,hF4⟩;(try clear hQ);refine cB hF4 fun hS hQ=> ?_)|(go_at_call 42;refine(H1.out.out _ (by exact aM)).mono ?_;rintro e w4 ⟨rfl,hF4⟩;(try clear hQ);refine cB hF4 fun hS hQ=> ?_)|(go_at_call 43;refine(H2.out.out _ (by exact aM)).mono ?_;rintro e w4 ⟨rfl,hF4⟩;(try clear hQ);refine cB hF4 fun hS hQ=> ?_)|(go_at_call 45;refine(H3.out.out _ (by exact aM)).mono ?_;rintro e w4 ⟨rfl,hF4⟩;(try clear hQ);refine cB hF4 fun hS hQ=> ?_)|(go_at_call 47;refine(H4.out.out _ (by exact aM)).mono ?_;rintro e w4 ⟨rfl,hF4⟩;(try clear hQ);refine cB hF4 fun hS hQ=> ?_)|(go_at_call 48;refine(H5.out.out _ (by exact aM)).mono ?_;rintro e w4 ⟨rfl,hF4⟩;(try clear hQ);refine cB hF4 fun hS hQ=> ?_)|(go_at_call 49;refine(H6.out.out _ (by exact aM)).mono ?_;rintro e w4 ⟨rfl,hF4⟩;(try clear hQ);refine cB hF4 fun hS hQ=> ?_)|(go_at_call 51;refine(H7.out.out _ (by exact aM)).mono ?_;rintro e w4 ⟨rfl,hF4⟩;(try clear hQ);refine cB hF4 fun hS hQ=> ?_)|(go_at_call 52;refine(H9.out.out _ (by exact aM)).mono ?_;rintro e w4 ⟨rfl,hF4⟩;(try clear hQ);refine cB hF4 fun hS hQ=> ?_)|(go_at_call 54;refine(H10.out.out _ (by exact aM)).mono ?_;rintro e w4 ⟨rfl,hF4⟩;(try clear hQ);refine cB hF4 fun hS hQ=> ?_)|fail
 exact qF
):p:=h
set_option maxRecDepth 100000
set_option maxHeartbeats 6400000
theorem ld {w:World} {m n:aV} {c d:List Value} (hm:cI c m w) (hn:cI d n w):
 Calls Tryz.prog 10 #[.agg c.toArray,.agg d.toArray] w fun e w'=>e= .returned (.bool (decide (m=n)))∧Fr [] w w':=by
 rw[QR]
 obtain⟨ty,im,fu,ta,me,tg,gl,ex,el,da,rfl,h0,h1,h2,h3,h4,h5,h6,h7,h9,h10⟩:=hm
 obtain⟨ty2,im2,fu2,ta2,me2,tg2,gl2,ex2,el2,da2,rfl,q0,q1,q2,q3,q4,q5,q6,q7,q9,q10⟩:=hn
 have H0:=Lib.hid (PA.mk fun w' (hf:Fr [] w w')=>Pf gv (an.fr gv.fr h0 hf) (an.fr gv.fr q0 hf) (fun x _ y _ c d w2 hf hR1 hR2=>by
  obtain⟨v1,e1,hR1⟩:=hR1
  obtain⟨v2,e2,hR2⟩:=hR2
  obtain rfl:c=v1:=by simpa using e1
  obtain rfl:d=v2:=by simpa using e2
  exact MS hR1 hR2))
 have H1:=Lib.hid (PA.mk fun w' (hf:Fr [] w w')=>Q9 (an.fr gp.fr h1 hf) (an.fr gp.fr q1 hf))
 have H2:=Lib.hid (PA.mk fun w' (hf:Fr [] w w')=>MH dG (an.fr dG.fr h2 hf) (an.fr dG.fr q2 hf) (fun x _ y _ c d w2 hf hR1 hR2=>Mi x y c d hR1 hR2))
 have H3:=Lib.hid (PA.mk fun w' (hf:Fr [] w w')=>Oj jj (an.fr jj.fr h3 hf) (an.fr jj.fr q3 hf) (fun x _ y _ c d w2 hf hR1 hR2=>NM x y c d hR1 hR2))
 have H4:=Lib.hid (PA.mk fun w' (hf:Fr [] w w')=>Q3 (an.fr fR.fr h4 hf) (an.fr fR.fr q4 hf))
 have H5:=Lib.hid (PA.mk fun w' (hf:Fr [] w w')=>Re (an.fr gj.fr h5 hf) (an.fr gj.fr q5 hf))
 have H6:=Lib.hid (PA.mk fun w' (hf:Fr [] w w')=>Na jm (an.fr jm.fr h6 hf) (an.fr jm.fr q6 hf) (fun x _ y _ c d w2 hf hR1 hR2=>L9 x y c d hR1 hR2))
 have H7:=Lib.hid (PA.mk fun w' (hf:Fr [] w w')=>PT (an.fr gq.fr h7 hf) (an.fr gq.fr q7 hf))
 have H9:=Lib.hid (PA.mk fun w' (hf:Fr [] w w')=>JF fH (an.fr fH.fr h9 hf) (an.fr fH.fr q9 hf) (fun x _ y _ c d w2 hf hR1 hR2=>JO x y c d hR1 hR2))
 have H10:=Lib.hid (PA.mk fun w' (hf:Fr [] w w')=>N6 gP (an.fr gP.fr h10 hf) (an.fr gP.fr q10 hf) (fun x _ y _ c d w2 hf hR1 hR2=>MY x y c d hR1 hR2))
 obtain⟨sh0,th0,rfl⟩:=an.shape h0
 obtain⟨sq0,tq0,rfl⟩:=an.shape q0
 obtain⟨sh1,th1,rfl⟩:=an.shape h1
 obtain⟨sq1,tq1,rfl⟩:=an.shape q1
 obtain⟨sh2,th2,rfl⟩:=an.shape h2
 obtain⟨sq2,tq2,rfl⟩:=an.shape q2
 obtain⟨sh3,th3,rfl⟩:=an.shape h3
 obtain⟨sq3,tq3,rfl⟩:=an.shape q3
 obtain⟨sh4,th4,rfl⟩:=an.shape h4
 obtain⟨sq4,tq4,rfl⟩:=an.shape q4
 obtain⟨sh5,th5,rfl⟩:=an.shape h5
 obtain⟨sq5,tq5,rfl⟩:=an.shape q5
 obtain⟨sh6,th6,rfl⟩:=an.shape h6
 obtain⟨sq6,tq6,rfl⟩:=an.shape q6
 obtain⟨sh7,th7,rfl⟩:=an.shape h7
 obtain⟨sq7,tq7,rfl⟩:=an.shape q7
 obtain⟨sh9,th9,rfl⟩:=an.shape h9
 obtain⟨sq9,tq9,rfl⟩:=an.shape q9
 obtain⟨sh10,th10,rfl⟩:=an.shape h10
 obtain⟨sq10,tq10,rfl⟩:=an.shape q10
 clear h0 h1 h2 h3 h4 h5 h6 h7 h9 h10 q0 q1 q2 q3 q4 q5 q6 q7 q9 q10
 generalize (decide (m.types=n.types))=b0 at H0⊢
 generalize (decide (m.imports=n.imports))=b1 at H1⊢
 generalize (decide (m.funcs=n.funcs))=b2 at H2⊢
 generalize (decide (m.tables=n.tables))=b3 at H3⊢
 generalize (decide (m.mems=n.mems))=b4 at H4⊢
 generalize (decide (m.tags=n.tags))=b5 at H5⊢
 generalize (decide (m.globals=n.globals))=b6 at H6⊢
 generalize (decide (m.exports=n.exports))=b7 at H7⊢
 generalize (decide (m.elems=n.elems))=b9 at H9⊢
 generalize (decide (m.datas=n.datas))=b10 at H10⊢
 have hS:=St.start [] w
 cases b0
 ·exact Ld
 cases b1
 ·exact Ld
 cases b2
 ·exact Ld
 cases b3
 ·exact Ld
 cases b4
 ·exact Ld
 cases b5
 ·exact Ld
 cases b6
 ·exact Ld
 cases b7
 ·exact Ld
 cases g8:(m.start==n.start)
 ·exact Ld
 cases b9
 ·exact Ld
 cases b10
 ·exact Ld
 exact Ld
end Go.Proofs.YtpdlmdlkecnpgaaGreatDoor
