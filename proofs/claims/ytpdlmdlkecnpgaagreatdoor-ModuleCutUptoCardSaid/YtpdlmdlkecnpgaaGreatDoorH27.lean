/- Texts: MdA0 MdAl MdMy. -/
import Derived.Test.YtpdlmdlkecnpgaaGreatDoorH0
import Derived.Test.YtpdlmdlkecnpgaaGreatDoorH24
import Derived.Test.YtpdlmdlkecnpgaaGreatDoorH23
import Derived.Test.YtpdlmdlkecnpgaaGreatDoorH16
import Derived.Test.YtpdlmdlkecnpgaaGreatDoorH7
import Derived.Test.YtpdlmdlkecnpgaaGreatDoorH12
set_option linter.unusedSimpArgs false
set_option linter.unusedVariables false
namespace Go.Proofs.YtpdlmdlkecnpgaaGreatDoor
open Go.RowKit
def O2 {α:Type} (R:α→List Value→World→Prop):Prop:=∀x c w w',Fr [] w w'→R x c w→R x c w'
structure uO {α:Type} (R:α→List Value→World→Prop) (k:Nat):Prop where
 len:∀x c w,R x c w→c.length=k
 one:∀x c w,R x c w→∀u∈c,u.oneCell'=true
 fr:O2 R
theorem bU.fr {α:Type} {R:α→List Value→World→Prop} {w w':World} (hK:O2 R) (hf:Fr [] w w'):∀{xs:List α} {cs:List Value},bU R xs cs w→bU R xs cs w'
 | [],_,h=>h
 | _:: _,_,⟨c,r,e,h1,h2⟩=>⟨c,r,e,hK _ _ _ _ hf h1,bU.fr hK hf h2⟩
theorem an.fr {α:Type} {R:α→List Value→World→Prop} {k:Nat} {v:Value} {xs:List α} {w w':World} (hK:O2 R) (h:an k R v xs w) (hf:Fr [] w w'):an k R v xs w':=by
 obtain⟨cs,h1,h2⟩:=h
 exact⟨cs,h1.fr hf (by simp),h2.fr hK hf⟩
theorem an.one {α:Type} {R:α→List Value→World→Prop} {k:Nat} {v:Value} {xs:List α} {w:World} (h:an k R v xs w):v.oneCell'=true:=by
 obtain⟨a,c,rfl⟩:=h.shape
 rfl
theorem kG {α:Type} {C:α→List Value} {k:Nat} (hk:∀x,(C x).length=k) (h1:∀x,∀u∈C x,u.oneCell'=true):uO (aE C) k:=
 ⟨fun x c w h=>by rw[show c=C x from h];exact hk x,fun x c w h=>by rw[show c=C x from h];exact h1 x,fun _ _ _ _ _ h=>h⟩
theorem no:uO KU 19:=⟨CC,fun x c w ⟨tv,lv,cv,e,h⟩=>by
 obtain⟨_,_,rfl⟩:=h.1.shape
 obtain⟨_,_,rfl⟩:=h.2.1.shape
 obtain⟨_,_,rfl⟩:=h.2.2.shape
 subst e
 simp[cp,Value.oneCell'],fun x c w w' hf ⟨tv,lv,cv,e,h⟩=>⟨tv,lv,cv,e,h.fr hf (by simp)⟩⟩
theorem eo.fr {v:Value} {is:List aa} {w w':World} (h:eo v is w) (hf:Fr [] w w'):eo v is w':=an.fr no.fr h hf
theorem i7:uO ou 1:=⟨fun x c w ⟨v,e,h⟩=>by rw[e];rfl,fun x c w ⟨v,e,h⟩=>by
 obtain⟨_,_,rfl⟩:=an.shape h
 subst e
 simp[Value.oneCell'],fun x c w w' hf ⟨v,e,h⟩=>⟨v,e,h.fr hf⟩⟩
def Pv:bu→List Value→World→Prop:=fun t c w=>∃hv pv rv fv,c= [.bool t.final_,hv,.int .i64 t.comp.kind,pv,rv,fv]∧kb [] w t hv pv rv fv
theorem zQ:uO Pv 6:=⟨fun x c w ⟨hv,pv,rv,fv,e,h⟩=>by rw[e];rfl,fun x c w ⟨hv,pv,rv,fv,e,h⟩=>by
 obtain⟨_,_,rfl⟩:=h.1.shape
 obtain⟨_,_,rfl⟩:=h.2.1.shape
 obtain⟨_,_,rfl⟩:=h.2.2.1.shape
 obtain⟨_,_,rfl⟩:=h.2.2.2.shape
 subst e
 simp[Value.oneCell'],fun x c w w' hf ⟨hv,pv,rv,fv,e,h⟩=>⟨hv,pv,rv,fv,e,h.fr hf (by simp)⟩⟩
theorem di.list:∀{ts:List bu} {cs:List Value} {w:World},di [] w ts cs→bU Pv ts cs w
 | [],_,_,h=>h
 | _:: _,_,_,⟨hv,pv,rv,fv,r,e,h1,h2⟩=>⟨_,r,e,⟨hv,pv,rv,fv,rfl,h1⟩,di.list h2⟩
theorem mF {v:Value} {g:List bu} {w:World} (h:ET v g w):an 6 Pv v g w:=by
 obtain⟨cs,h1,h2⟩:=h
 exact⟨cs,h1,h2.list⟩
theorem gv:uO xU 1:=⟨fun x c w ⟨v,e,h⟩=>by rw[e];rfl,fun x c w ⟨v,e,cs,h,_⟩=>by
 obtain⟨_,_,rfl⟩:=h.shape
 subst e
 simp[Value.oneCell'],fun x c w w' hf ⟨v,e,cs,h,h2⟩=>⟨v,e,cs,h.fr hf (by simp),di.fr hf (by simp) h2⟩⟩
theorem ik:uO (aE fk) 5:=kG (fun _=>rfl) (fun x=>by simp[fk,cj,Value.oneCell'])
theorem fR:uO (aE du) 4:=kG (fun _=>rfl) (fun x=>by simp[du,Value.oneCell'])
theorem gj:uO (aE gK) 1:=kG (fun _=>rfl) (fun x=>by simp[gK,Value.oneCell'])
theorem gq:uO (aE gw) 3:=kG (fun _=>rfl) (fun x=>by simp[gw,iI,Value.oneCell'])
theorem gp:uO (aE eR) 21:=kG (fun _=>rfl) (fun x=>by simp[eR,lz,dv,dK,du,cj,iI,Value.oneCell'])
theorem IW (f:dh) (c:List Value) (w:World) (h:ku f c w):c.length=3:=by
 obtain⟨lv,bv,rfl,_⟩:=h
 rfl
theorem dG:uO ku 3:=⟨IW,fun x c w ⟨lv,bv,e,h1,h2⟩=>by
 obtain⟨_,_,rfl⟩:=h1.shape
 obtain⟨_,_,rfl⟩:=an.shape h2
 subst e
 simp[Value.oneCell'],fun x c w w' hf ⟨lv,bv,e,h1,h2⟩=>⟨lv,bv,e,h1.fr ik.fr hf,h2.fr hf⟩⟩
theorem jj:uO qG 10:=⟨fun x c w ⟨v,e,h⟩=>by rw[e];rfl,fun x c w ⟨v,e,h⟩=>by
 obtain⟨_,_,rfl⟩:=an.shape h
 subst e
 simp[dv,cj,du,Value.oneCell'],fun x c w w' hf ⟨v,e,h⟩=>⟨v,e,h.fr hf⟩⟩
theorem jm:uO qR 6:=⟨fun x c w ⟨v,e,h⟩=>by rw[e];rfl,fun x c w ⟨v,e,h⟩=>by
 obtain⟨_,_,rfl⟩:=an.shape h
 subst e
 simp[dK,cj,Value.oneCell'],fun x c w w' hf ⟨v,e,h⟩=>⟨v,e,h.fr hf⟩⟩
theorem fH:uO gD 8:=⟨fun x c w ⟨v,u,e,h⟩=>by rw[e];rfl,fun x c w ⟨v,u,e,h1,h2⟩=>by
 obtain⟨_,_,rfl⟩:=h1.shape
 obtain⟨_,_,rfl⟩:=an.shape h2
 subst e
 simp[cj,Value.oneCell'],fun x c w w' hf ⟨v,u,e,h1,h2⟩=>⟨v,u,e,h1.fr i7.fr hf,h2.fr hf⟩⟩
theorem gP:uO rK 4:=⟨fun x c w ⟨v,u,e,h⟩=>by rw[e];rfl,fun x c w ⟨v,u,e,h1,h2⟩=>by
 obtain⟨_,_,rfl⟩:=an.shape h1
 obtain⟨_,_,rfl⟩:=h2.shape
 subst e
 simp[Value.oneCell'],fun x c w w' hf ⟨v,u,e,h1,h2⟩=>⟨v,u,e,h1.fr hf,h2.fr hf (by simp)⟩⟩
theorem BM {α:Type} {p:α→Bool} {xs:List α} {i:Nat} {x:α} (h:xs.all p=(xs.drop i).all p) (hx:xs[i]? =some x) (hp:p x=true):xs.all p=(xs.drop (i+1)).all p:=by rw[h,gB xs i x hx];simp[hp]
theorem Bs {α:Type} {p:α→Bool} {xs:List α} {i:Nat} {x:α} (h:xs.all p=(xs.drop i).all p) (hx:xs[i]? =some x) (hp:p x=false):xs.all p=false:=by rw[h,gB xs i x hx];simp[hp]
theorem QA {α:Type} {p:α→Bool} {xs:List α} (h:xs.all p=(xs.drop xs.length).all p):xs.all p=true:=by rw[h];simp
theorem jL {w:World} {b off i k:Nat} {c:List Value} (hl:c.length=k) (hc:∀r,r<k→w.cell? ⟨b,off+(i*k+r),none⟩=c[r]?):w.rangeAt b (off+i*k) c:=fun r v hv=>by
 rw[Nat.add_assoc,hc r (by rw[←hl];exact(List.getElem?_eq_some_iff.1 hv).1)]
 exact hv
theorem LB:Tryz.prog.underlying 136=some ((Tryz.prog.underlying 136).get (by kernel_rfl)):=by kernel_rfl
theorem KO:(Tryz.prog.info? 136).map (·.size)=some 6:=by kernel_rfl
def Ft (P:Program) (k:Nat) (F f:FuncId):Prop:=∀{α:Type} {R:α→List Value→World→Prop} (_:uO R k) {p:α→Bool} {w:World} {sv:Value} {xs:List α} (_:an k R sv xs w) (_:∀x∈xs,∀v w',Fr [] w w'→R x [v] w'→Calls P f #[v] w' fun e w2=>e= .returned (.bool (p x))∧Fr [] w' w2),
 Calls P F #[sv,.func (.func f) #[] #[]] w fun e w'=>e= .returned (.bool (xs.all p))∧Fr [] w w'
def oZ (P:Program) (k:Nat) (F f:FuncId):Prop:=∀{α:Type} {R:α→List Value→World→Prop} (_:uO R k) {p:α→Bool} {w:World} {sv:Value} {xs:List α} (_:an k R sv xs w) (_:∀x∈xs,∀c w',Fr [] w w'→R x c w'→Calls P f #[.agg c.toArray] w' fun e w2=>e= .returned (.bool (p x))∧Fr [] w' w2),
 Calls P F #[sv,.func (.func f) #[] #[]] w fun e w'=>e= .returned (.bool (xs.all p))∧Fr [] w w'
theorem QI {p:Prop} (h:p:=by
 intro hR p w sv xs h hp
 have hh:=h
 have HP:=Lib.hid hp
 clear hp
 obtain⟨a,cap,rfl,hl⟩:∃a cap,sv= .slice a xs.length cap∧xs.length≤9223372036854775807:=by
  exact TJ
 first|(go_at_call 56;go_enter Tryz.func56,Tryz.ntmps56)|(go_at_call 68;go_enter Tryz.func68,Tryz.ntmps68)|(go_at_call 93;go_enter Tryz.func93,Tryz.ntmps93)
 go_wp2
 go_loopw [9] (fun n wr=>∃(i:Nat),n= .int .i64 i∧i≤xs.length∧Fr [] w wr∧Hid (xs.all p=(xs.drop i).all p)) (fun n _=>xs.length-(intOf n).toNat)
 case atStart=>exact⟨0,rfl,by omega,Fr.refl _ _,Lib.hid rfl⟩
 case round=>
  obtain⟨i,rfl,hi,hF,hI⟩:=hrel
  by_cases hlt:i<xs.length
  ·obtain⟨x,hx⟩:∃t,xs[i]? =some t:=⟨xs[i],by simp[hlt]⟩
   obtain⟨b,off,cap2,c,hv,hb,hRx,hcl0,hc⟩:=an.elem (an.fr hR.fr hh hF) (fun x c h=>hR.len x c _ h) hx
   injection hv with hv1 hv2 hv3
   subst hv1 hv3
   obtain⟨v,rfl⟩:∃v,c= [v]:=by
    match c,hcl0 with
    | [v],_=>exact⟨v,rfl⟩
   have hOne:=hR.one _ _ _ hRx v List.mem_cons_self
   have e0:=hc 0 (by decide)
   simp only[Nat.mul_one,Nat.add_zero,List.getElem?_cons_zero]at e0
   clear hc
   have hS:St [] wr wr []:=St.start [] wr
   cases hp:p x
   ·have Hall:=Lib.hid (Bs hI.out hx hp)
    go_wp2_with first|((first|go_at_call 57|go_at_call 69|go_at_call 125|go_at_call 94);refine(HP.out x (List.mem_of_getElem? hx) _ _ hF hRx).mono ?_;rintro e w2 ⟨rfl,hF2⟩;rw[hp];(try clear hQ);refine cB hF2 fun hS hQ=> ?_)
    go_ret
    exact⟨by rw[Hall.out];rfl,hF.trans hS.fr⟩
   ·have Hall:=Lib.hid (BM hI.out hx hp)
    go_wp2_with first|((first|go_at_call 57|go_at_call 69|go_at_call 125|go_at_call 94);refine(HP.out x (List.mem_of_getElem? hx) _ _ hF hRx).mono ?_;rintro e w2 ⟨rfl,hF2⟩;rw[hp];(try clear hQ);refine cB hF2 fun hS hQ=> ?_)
    exact Xn
  ·exact Wz
):p:=h
theorem uX {p:Prop} (h:p:=by
 intro hR p w sv xs h hp
 have hh:=h
 have HP:=Lib.hid hp
 clear hp
 obtain⟨a,cap,rfl,hl⟩:∃a cap,sv= .slice a xs.length cap∧xs.length≤9223372036854775807:=by
  exact TJ
 first|(go_at_call 58;go_enter Tryz.func58,Tryz.ntmps58)|(go_at_call 60;go_enter Tryz.func60,Tryz.ntmps60)|(go_at_call 62;go_enter Tryz.func62,Tryz.ntmps62)|(go_at_call 64;go_enter Tryz.func64,Tryz.ntmps64)|(go_at_call 66;go_enter Tryz.func66,Tryz.ntmps66)|(go_at_call 70;go_enter Tryz.func70,Tryz.ntmps70)|(go_at_call 72;go_enter Tryz.func72,Tryz.ntmps72)|(go_at_call 74;go_enter Tryz.func74,Tryz.ntmps74)|(go_at_call 76;go_enter Tryz.func76,Tryz.ntmps76)|(go_at_call 122;go_enter Tryz.func122,Tryz.ntmps122)|(go_at_call 184;go_enter Tryz.func184,Tryz.ntmps184)
 go_wp2
 go_loopw [9] (fun n wr=>∃(i:Nat),n= .int .i64 i∧i≤xs.length∧Fr [] w wr∧Hid (xs.all p=(xs.drop i).all p)) (fun n _=>xs.length-(intOf n).toNat)
 case atStart=>exact⟨0,rfl,by omega,Fr.refl _ _,Lib.hid rfl⟩
 case round=>
  obtain⟨i,rfl,hi,hF,hI⟩:=hrel
  by_cases hlt:i<xs.length
  ·obtain⟨x,hx⟩:∃t,xs[i]? =some t:=⟨xs[i],by simp[hlt]⟩
   obtain⟨b,off,cap2,c,hv,hb,hRx,hcl0,hc⟩:=an.elem (an.fr hR.fr hh hF) (fun x c h=>hR.len x c _ h) hx
   injection hv with hv1 hv2 hv3
   subst hv1 hv3
   have hcl:=hcl0
   have hRow:=jL hcl hc
   have hOne:=hR.one _ _ _ hRx
   clear hc
   have hS:St [] wr wr []:=St.start [] wr
   cases hp:p x
   ·have Hall:=Lib.hid (Bs hI.out hx hp)
    go_wp2_with first|(refine Vb ?_)|((try clear hQ);refine N0 fun wN hS hQ=> ?_)|((first|go_at_call 59|go_at_call 61|go_at_call 63|go_at_call 65|go_at_call 67|go_at_call 71|go_at_call 73|go_at_call 75|go_at_call 77|go_at_call 123|go_at_call 185);refine(HP.out x (List.mem_of_getElem? hx) _ _ (hF.trans hS.fr) (hR.fr _ _ _ _ hS.fr hRx)).mono ?_;rintro e w2 ⟨rfl,hF2⟩;rw[hp];(try clear hQ);refine cB hF2 fun hS hQ=> ?_)
    go_ret
    exact⟨by rw[Hall.out];rfl,hF.trans hS.fr⟩
   ·have Hall:=Lib.hid (BM hI.out hx hp)
    go_wp2_with first|(refine Vb ?_)|((try clear hQ);refine N0 fun wN hS hQ=> ?_)|((first|go_at_call 59|go_at_call 61|go_at_call 63|go_at_call 65|go_at_call 67|go_at_call 71|go_at_call 73|go_at_call 75|go_at_call 77|go_at_call 123|go_at_call 185);refine(HP.out x (List.mem_of_getElem? hx) _ _ (hF.trans hS.fr) (hR.fr _ _ _ _ hS.fr hRx)).mono ?_;rintro e w2 ⟨rfl,hF2⟩;rw[hp];(try clear hQ);refine cB hF2 fun hS hQ=> ?_)
    exact Xn
  ·exact Wz
):p:=h
set_option maxRecDepth 100000
set_option maxHeartbeats 3200000
theorem Lo:Ft Tryz.prog 1 56 57:=QI
theorem Ly:oZ Tryz.prog 6 58 59:=uX
theorem Ls:oZ Tryz.prog 21 60 61:=uX
theorem OX:oZ Tryz.prog 3 62 63:=uX
theorem LJ:oZ Tryz.prog 10 64 65:=uX
theorem Pu:oZ Tryz.prog 4 66 67:=uX
theorem LL:Ft Tryz.prog 1 68 69:=QI
theorem O0:oZ Tryz.prog 6 70 71:=uX
theorem ME:oZ Tryz.prog 3 72 73:=uX
theorem HO:oZ Tryz.prog 8 74 75:=uX
theorem NV:oZ Tryz.prog 4 76 77:=uX
theorem OB:Ft Tryz.prog 1 93 125:=QI
theorem Ma:Ft Tryz.prog 1 93 94:=QI
theorem OD:oZ Tryz.prog 5 122 123:=uX
theorem Mf:oZ Tryz.prog 19 184 185:=uX
theorem eJ (w:World) (n:Int):Calls Tryz.prog 69 #[.int .i64 n] w fun e w'=>e= .returned (.bool (ev n))∧w'=w:=by
 unfold ev
 by_cases h1:0≤n
 all_goals by_cases h2:n≤4294967295
 all_goals
  go_enter Tryz.func69,Tryz.ntmps69
  go_wp2
  go_ret
  exact⟨by simp[h1,h2],rfl⟩
theorem pG (w:World) (l:eA):Calls Tryz.prog 67 #[.agg (du l).toArray] w fun e w'=>e= .returned (.bool (jD l))∧Fr [] w w':=by
 have hS:=St.start [] w
 obtain⟨wd,mn,mx,hm⟩:=l
 unfold du jD
 dsimp only
 have q:(((mx:Nat):Int)==0)=decide (mx=0):=by rw[Bool.eq_iff_iff];simp
 cases hm
 all_goals
  go_enter Tryz.func67,Tryz.ntmps67
  go_wp2
  go_ret
  exact⟨by simp,by exact aM⟩
theorem gN (w:World) (v:aF):Calls Tryz.prog 127 #[.agg (cj v).toArray] w fun e w'=>e= .returned (.bool (fy v))∧Fr [] w w':=by
 have hS:=St.start [] w
 unfold fy
 by_cases h:v.kind=3
 ·have q:(v.kind==3)=true:=by simp[h]
  have Hk:=Lib.hid h
  clear h
  unfold cj
  go_enter Tryz.func127,Tryz.ntmps127
  go_wp2_with (go_at_call 117;refine(cK _ v).mono ?_;rintro e w2 ⟨rfl,hF2⟩;(try clear hQ);refine cB hF2 fun hS hQ=> ?_)
  go_ret
  exact⟨by rw[decide_eq_true Hk.out,Bool.true_and];rfl,by exact aM⟩
 ·have q:(v.kind==3)=false:=by simp[h]
  rw[decide_eq_false h,Bool.false_and]
  clear h
  unfold cj
  go_enter Tryz.func127,Tryz.ntmps127
  go_wp2
  exact qF
theorem pm (w:World) (t:dJ):Calls Tryz.prog 126 #[.agg (dv t).toArray] w fun e w'=>e= .returned (.bool (eL t))∧Fr [] w w':=by
 have hS:=St.start [] w
 unfold eL
 cases h:fy t.elem
 ·have H:=Lib.hid h
  clear h
  unfold dv cj du
  go_enter Tryz.func126,Tryz.ntmps126
  go_wp2_with (go_at_call 127;refine(gN _ t.elem).mono ?_;rintro e w2 ⟨rfl,hF2⟩;rw[H.out];(try clear hQ);refine cB hF2 fun hS hQ=> ?_)
  exact qF
 ·have H:=Lib.hid h
  clear h
  unfold dv cj du
  go_enter Tryz.func126,Tryz.ntmps126
  go_wp2_with first|(go_at_call 127;refine(gN _ t.elem).mono ?_;rintro e w2 ⟨rfl,hF2⟩;rw[H.out];(try clear hQ);refine cB hF2 fun hS hQ=> ?_)|(go_at_call 67;refine(pG _ t.lim).mono ?_;rintro e w2 ⟨rfl,hF2⟩;(try clear hQ);refine cB hF2 fun hS hQ=> ?_)
  exact qF
theorem Su (w:World) (r:fN):Calls Tryz.prog 123 #[.agg (fk r).toArray] w fun e w'=>e= .returned (.bool (ev r.n&&aj r.val))∧Fr [] w w':=by
 have hS:=St.start [] w
 cases h:ev r.n
 ·have H:=Lib.hid h
  clear h
  unfold fk cj
  go_enter Tryz.func123,Tryz.ntmps123
  go_wp2_with (go_at_call 69;refine(eJ _ r.n).mono ?_;rintro e w2 ⟨rfl,hw2⟩;rw[hw2,H.out])
  exact qF
 ·have H:=Lib.hid h
  clear h
  unfold fk cj
  go_enter Tryz.func123,Tryz.ntmps123
  go_wp2_with first|(go_at_call 69;refine(eJ _ r.n).mono ?_;rintro e w2 ⟨rfl,hw2⟩;rw[hw2,H.out])|(go_at_call 117;refine(cK _ r.val).mono ?_;rintro e w2 ⟨rfl,hF2⟩;(try clear hQ);refine cB hF2 fun hS hQ=> ?_)
  exact qF
theorem JM (w:World) (x:kB) (hn:x.name.length≤1099511627776):Calls Tryz.prog 73 #[.agg (gw x).toArray] w fun e w'=>e= .returned (.bool (kj x))∧Fr [] w w':=by
 have hS:=St.start [] w
 unfold kj
 cases h:iY x.name
 ·have H:=Lib.hid h
  clear h
  unfold gw iI
  exact TB
 ·have H:=Lib.hid h
  clear h
  unfold gw iI
  by_cases h1:0≤x.kind
  ·by_cases h2:x.kind≤4
   ·rw[decide_eq_true h1,decide_eq_true h2]
    go_enter Tryz.func73,Tryz.ntmps73
    go_wp2_with first|(go_at_call 120;refine(jY _ hn _).mono ?_;rintro e w2 ⟨rfl,hF2⟩;rw[H.out];(try clear hQ);refine cB hF2 fun hS hQ=> ?_)|(go_at_call 69;refine(eJ _ x.n).mono ?_;rintro e w2 ⟨rfl,hw2⟩;rw[hw2])
    exact qF
   ·rw[decide_eq_false h2,Bool.and_false,Bool.false_and]
    exact TB
  ·rw[decide_eq_false h1,Bool.and_false,Bool.false_and,Bool.false_and]
   exact TB
theorem KI (w:World) (v:Value) (l:List aa) (h:eo v l w):Calls Tryz.prog 94 #[v] w fun e w'=>e= .returned (.bool (cW l))∧w'=w:=by
 obtain⟨a,c,rfl⟩:=an.shape h
 unfold cW
 by_cases h1:l.length=1
 ·have q:(((l.length:Nat):Int)==1)=true:=by simp[h1]
  obtain⟨t,rfl⟩:=List.length_eq_one_iff.1 h1
  clear h1
  obtain⟨b,off,cap,cc,hv,hb,⟨tv,lv,cv,rfl,_⟩,_,hc⟩:=an.elem h (fun x c h=>no.len x c _ h) (i:=0) (x:=t) rfl
  injection hv with hv1 _ hv3
  subst hv1 hv3
  have e0:=hc 0 (by decide)
  simp only[Nat.zero_mul,Nat.add_zero,cp,List.getElem?_cons_zero]at e0
  have q2:(t.op==210)=decide (some t.op=some 210):=by rw[Bool.eq_iff_iff];simp
  clear hc h
  go_enter Tryz.func94,Tryz.ntmps94
  go_wp2
  go_ret
  exact⟨by simp[q2],rfl⟩
 ·have q:(((l.length:Nat):Int)==1)=false:=by simp;omega
  rw[decide_eq_false h1,Bool.false_and]
  clear h1
  go_enter Tryz.func94,Tryz.ntmps94
  go_wp2
  exact Cs
end Go.Proofs.YtpdlmdlkecnpgaaGreatDoor
