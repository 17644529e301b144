/- Texts: MdSa. -/
import Derived.Test.YtpdlmdlkecnpgaaGreatDoorH0
import Derived.Test.YtpdlmdlkecnpgaaGreatDoorH27
import Derived.Test.YtpdlmdlkecnpgaaGreatDoorH30
import Derived.Test.YtpdlmdlkecnpgaaGreatDoorH18
import Derived.Test.YtpdlmdlkecnpgaaGreatDoorH25
import Derived.Test.YtpdlmdlkecnpgaaGreatDoorH7
set_option linter.unusedSimpArgs false
set_option linter.unusedVariables false
namespace Go.Proofs.YtpdlmdlkecnpgaaGreatDoor
open Go.RowKit
theorem q55q:Tryz.prog.underlying 55=some ((Tryz.prog.underlying 55).get (by kernel_rfl)):=u9
theorem jQ {α:Type} {xs ys:List α} {k:Nat} {x y:α} (h:xs.take k=ys.take k) (hx:xs[k]? =some x) (hy:ys[k]? =some y) (e:x=y):xs.take (k+1)=ys.take (k+1):=by
 rw[List.take_add_one,List.take_add_one,h,hx,hy,e]
theorem jB {α:Type} [DecidableEq α] {xs ys:List α} {k:Nat} {x y:α} (hx:xs[k]? =some x) (hy:ys[k]? =some y) (e:¬x=y):decide (xs=ys)=false:=by
 simp only[decide_eq_false_iff_not]
 intro h
 rw[h,hy]at hx
 injection hx with hx
 exact e hx.symm
theorem Bd {α:Type} [DecidableEq α] {xs ys:List α} (h:xs.take xs.length=ys.take xs.length) (hl:xs.length=ys.length):decide (xs=ys)=true:=by
 rw[List.take_length,hl,List.take_length]at h
 simpa using h
def Rz (P:Program) (k:Nat) (F f:FuncId):Prop:=∀{α:Type} [DecidableEq α] {R:α→List Value→World→Prop} (_:uO R k) {w:World} {va vb:Value} {xs ys:List α} (_:an k R va xs w) (_:an k R vb ys w)
 (_:∀x∈xs,∀y∈ys,∀c d w',Fr [] w w'→R x [c] w'→R y [d] w'→Calls P f #[c,d] w' fun e w2=>e= .returned (.bool (decide (x=y)))∧Fr [] w' w2),
 Calls P F #[va,vb,.func (.func f) #[] #[]] w fun e w'=>e= .returned (.bool (decide (xs=ys)))∧Fr [] w w'
def vt (P:Program) (k:Nat) (F f:FuncId):Prop:=∀{α:Type} [DecidableEq α] {R:α→List Value→World→Prop} (_:uO R k) {w:World} {va vb:Value} {xs ys:List α} (_:an k R va xs w) (_:an k R vb ys w)
 (_:∀x∈xs,∀y∈ys,∀c d w',Fr [] w w'→R x c w'→R y d w'→Calls P f #[.agg c.toArray,.agg d.toArray] w' fun e w2=>e= .returned (.bool (decide (x=y)))∧Fr [] w' w2),
 Calls P F #[va,vb,.func (.func f) #[] #[]] w fun e w'=>e= .returned (.bool (decide (xs=ys)))∧Fr [] w w'
theorem VQ {p:Prop} (h:p:=by
 intro hR w va vb xs ys h1 h2 hp
 have hh1:=h1
 have hh2:=h2
 have HP:=Lib.hid hp
 clear hp
 obtain⟨a1,c1,rfl,hl⟩:∃a cap,va= .slice a xs.length cap∧xs.length≤9223372036854775807:=by
  obtain⟨cs,⟨_,_,a,cap,e,h4,h5,_⟩,_⟩:=h1
  unfold maxLen at h5
  exact⟨a,cap,e,by omega⟩
 obtain⟨a2,c2,rfl⟩:=an.shape h2
 clear h1 h2
 by_cases hlen:xs.length=ys.length
 ·have q:((((xs.length:Nat):Int)) !=((ys.length:Nat):Int))=false:=by simp[hlen]
  have Hlen:=Lib.hid hlen
  clear hlen
  first|(go_at_call 40;go_enter Tryz.func40,Tryz.ntmps40)|(go_at_call 112;go_enter Tryz.func112,Tryz.ntmps112)
  go_wp2
  go_loopw [17] (fun n wr=>∃(k:Nat),n= .int .i64 k∧k≤xs.length∧Fr [] w wr∧Hid (xs.take k=ys.take k)) (fun n _=>xs.length-(intOf n).toNat)
  case atStart=>exact⟨0,rfl,by omega,Fr.refl _ _,Lib.hid rfl⟩
  case round=>
   obtain⟨k,rfl,hk,hF,hI⟩:=hrel
   by_cases hlt:k<xs.length
   ·have hlt2:k<ys.length:=by have:=Hlen.out;omega
    obtain⟨x,hx⟩:∃t,xs[k]? =some t:=⟨xs[k],by simp[hlt]⟩
    obtain⟨y,hy⟩:∃t,ys[k]? =some t:=⟨ys[k]'hlt2,by simp[hlt2]⟩
    obtain⟨b1,o1,p1,c,hv1,hb1,hR1,hcl1,hc1⟩:=an.elem (an.fr hR.fr hh1 hF) (fun x c h=>hR.len x c _ h) hx
    obtain⟨b2,o2,p2,d,hv2,hb2,hR2,hcl2,hc2⟩:=an.elem (an.fr hR.fr hh2 hF) (fun x c h=>hR.len x c _ h) hy
    injection hv1 with e1 _ e3
    injection hv2 with e4 _ e6
    subst e1 e3 e4 e6
    have hbw2:b2<wr.heap.size:=hb2
    have hmx:=List.mem_of_getElem? hx
    have hmy:=List.mem_of_getElem? hy
    have i1:(k:Int)< (xs.length:Int):=by omega
    have i2:(k:Int)< (ys.length:Int):=by omega
    obtain⟨c,rfl⟩:∃v,c= [v]:=by
     match c,hcl1 with
     | [v],_=>exact⟨v,rfl⟩
    obtain⟨d,rfl⟩:∃v,d= [v]:=by
     match d,hcl2 with
     | [v],_=>exact⟨v,rfl⟩
    have e1:=hc1 0 (by decide)
    have e2:=hc2 0 (by decide)
    simp only[Nat.mul_one,Nat.add_zero,List.getElem?_cons_zero]at e1 e2
    have hOne1:=hR.one _ _ _ hR1 c List.mem_cons_self
    have hOne2:=hR.one _ _ _ hR2 d List.mem_cons_self
    have hS:=St.start [] wr
    clear hc1 hc2
    cases hp:decide (x=y)with
    |false=>
     have Hne:=Lib.hid (jB hx hy (by simpa using hp))
     have Hp:=Lib.hid hp
     clear hp hx hy
     go_wp2_with first|((first|go_at_call 41|go_at_call 111);refine(HP.out x hmx y hmy _ _ _ (hF.trans hS.fr) (hR.fr _ _ _ _ hS.fr hR1) (hR.fr _ _ _ _ hS.fr hR2)).mono ?_;rintro e w2 ⟨rfl,hF2⟩;rw[Hp.out];(try clear hQ);refine cB hF2 fun hS hQ=> ?_)|fail
     first|go_ret|fail
     exact⟨by rw[Hne.out];rfl,hF.trans (by exact aM)⟩
    |true=>
     have HI2:=Lib.hid (jQ hI.out hx hy (by simpa using hp))
     have Hp:=Lib.hid hp
     clear hp hx hy
     go_wp2_with first|((first|go_at_call 41|go_at_call 111);refine(HP.out x hmx y hmy _ _ _ (hF.trans hS.fr) (hR.fr _ _ _ _ hS.fr hR1) (hR.fr _ _ _ _ hS.fr hR2)).mono ?_;rintro e w2 ⟨rfl,hF2⟩;rw[Hp.out];(try clear hQ);refine cB hF2 fun hS hQ=> ?_)|fail
     go_roundw
     case rel=>
      have hF3:=hF.trans hS.fr
      first
       |exact⟨k+1,by go_num,by omega,hF3,HI2⟩
       |(refine⟨_,_,_,⟨k+1,?_,by omega,hF3,HI2⟩,rfl,rfl,rfl⟩;first|rfl|go_num|simp)
       |(refine⟨_,_,_,_,_,⟨k+1,?_,by omega,hF3,HI2⟩,rfl,rfl,rfl,rfl,rfl⟩;first|rfl|go_num|simp)
     case measure=>simp[intOf];omega
   ·obtain rfl:k=xs.length:=by omega
    have He:=Lib.hid (Bd hI.out Hlen.out)
    clear hI
    go_wp2
    first|go_ret|fail
    exact⟨by rw[He.out];rfl,hF⟩
 ·have q:((((xs.length:Nat):Int)) !=((ys.length:Nat):Int))=true:=by simp;omega
  have hne:decide (xs=ys)=false:=by
   simp only[decide_eq_false_iff_not]
   intro h
   exact hlen (by rw[h])
  rw[hne]
  first|(go_at_call 40;go_enter Tryz.func40,Tryz.ntmps40)|(go_at_call 112;go_enter Tryz.func112,Tryz.ntmps112)
  go_wp2
  first|go_ret|fail
  exact⟨rfl,Fr.refl _ _⟩
):p:=h
theorem D0 {p:Prop} (h:p:=by
 intro hR w va vb xs ys h1 h2 hp
 have hh1:=h1
 have hh2:=h2
 have HP:=Lib.hid hp
 clear hp
 obtain⟨a1,c1,rfl,hl⟩:∃a cap,va= .slice a xs.length cap∧xs.length≤9223372036854775807:=by
  exact R7
 obtain⟨a2,c2,rfl⟩:=an.shape h2
 clear h1 h2
 by_cases hlen:xs.length=ys.length
 ·have q:((((xs.length:Nat):Int)) !=((ys.length:Nat):Int))=false:=by simp[hlen]
  have Hlen:=Lib.hid hlen
  clear hlen
  first|(go_at_call 43;go_enter Tryz.func43,Tryz.ntmps43)|(go_at_call 45;go_enter Tryz.func45,Tryz.ntmps45)|(go_at_call 49;go_enter Tryz.func49,Tryz.ntmps49)|(go_at_call 52;go_enter Tryz.func52,Tryz.ntmps52)|(go_at_call 54;go_enter Tryz.func54,Tryz.ntmps54)|(go_at_call 108;go_enter Tryz.func108,Tryz.ntmps108)|(go_at_call 180;go_enter Tryz.func180,Tryz.ntmps180)
  go_wp2
  go_loopw [17] (fun n wr=>∃(k:Nat),n= .int .i64 k∧k≤xs.length∧Fr [] w wr∧Hid (xs.take k=ys.take k)) (fun n _=>xs.length-(intOf n).toNat)
  case atStart=>exact⟨0,rfl,by omega,Fr.refl _ _,Lib.hid rfl⟩
  case round=>
   obtain⟨k,rfl,hk,hF,hI⟩:=hrel
   by_cases hlt:k<xs.length
   ·have hlt2:k<ys.length:=by have:=Hlen.out;omega
    obtain⟨x,hx⟩:∃t,xs[k]? =some t:=⟨xs[k],by simp[hlt]⟩
    obtain⟨y,hy⟩:∃t,ys[k]? =some t:=⟨ys[k]'hlt2,by simp[hlt2]⟩
    obtain⟨b1,o1,p1,c,hv1,hb1,hR1,hcl1,hc1⟩:=an.elem (an.fr hR.fr hh1 hF) (fun x c h=>hR.len x c _ h) hx
    obtain⟨b2,o2,p2,d,hv2,hb2,hR2,hcl2,hc2⟩:=an.elem (an.fr hR.fr hh2 hF) (fun x c h=>hR.len x c _ h) hy
    injection hv1 with e1 _ e3
    injection hv2 with e4 _ e6
    subst e1 e3 e4 e6
    have hbw2:b2<wr.heap.size:=hb2
    have hmx:=List.mem_of_getElem? hx
    have hmy:=List.mem_of_getElem? hy
    have i1:(k:Int)< (xs.length:Int):=by omega
    have i2:(k:Int)< (ys.length:Int):=by omega
    have hRow1:=jL hcl1 hc1
    have hRowF:=fun(w':World) (hf:Fr [] wr w')=>OP (jL hcl2 hc2) hf hbw2
    have hS:=St.start [] wr
    have hRow2:=fun(_:Unit)=>hRowF _ hS.fr
    have hOne1:=hR.one _ _ _ hR1
    have hOne2:=hR.one _ _ _ hR2
    clear hc1 hc2
    cases hp:decide (x=y)with
    |false=>
     have Hne:=Lib.hid (jB hx hy (by simpa using hp))
     have Hp:=Lib.hid hp
     clear hp hx hy
     go_wp2_with first|(refine Vb ?_)|(refine Vb (hu:=q55q) ?_)|((try clear hQ);refine N0 fun wN hS hQ=> ?_;have hRow2:=fun(_:Unit)=>hRowF _ hS.fr)|((first|go_at_call 44|go_at_call 46|go_at_call 50|go_at_call 53|go_at_call 55|go_at_call 109|go_at_call 181);refine(HP.out x hmx y hmy _ _ _ (hF.trans hS.fr) (hR.fr _ _ _ _ hS.fr hR1) (hR.fr _ _ _ _ hS.fr hR2)).mono ?_;rintro e w2 ⟨rfl,hF2⟩;rw[Hp.out];(try clear hQ);refine cB hF2 fun hS hQ=> ?_)|fail
     go_ret
     exact⟨by rw[Hne.out];rfl,hF.trans (by exact aM)⟩
    |true=>
     have HI2:=Lib.hid (jQ hI.out hx hy (by simpa using hp))
     have Hp:=Lib.hid hp
     clear hp hx hy
     go_wp2_with first|(refine Vb ?_)|(refine Vb (hu:=q55q) ?_)|((try clear hQ);refine N0 fun wN hS hQ=> ?_;have hRow2:=fun(_:Unit)=>hRowF _ hS.fr)|((first|go_at_call 44|go_at_call 46|go_at_call 50|go_at_call 53|go_at_call 55|go_at_call 109|go_at_call 181);refine(HP.out x hmx y hmy _ _ _ (hF.trans hS.fr) (hR.fr _ _ _ _ hS.fr hR1) (hR.fr _ _ _ _ hS.fr hR2)).mono ?_;rintro e w2 ⟨rfl,hF2⟩;rw[Hp.out];(try clear hQ);refine cB hF2 fun hS hQ=> ?_)|fail
     go_roundw
     case rel=>
      exact Yg
     case measure=>simp[intOf];omega
   ·exact WD
 ·have q:((((xs.length:Nat):Int)) !=((ys.length:Nat):Int))=true:=by simp;omega
  have hne:decide (xs=ys)=false:=by
   exact TP
  rw[hne]
  first|(go_at_call 43;go_enter Tryz.func43,Tryz.ntmps43)|(go_at_call 45;go_enter Tryz.func45,Tryz.ntmps45)|(go_at_call 49;go_enter Tryz.func49,Tryz.ntmps49)|(go_at_call 52;go_enter Tryz.func52,Tryz.ntmps52)|(go_at_call 54;go_enter Tryz.func54,Tryz.ntmps54)|(go_at_call 108;go_enter Tryz.func108,Tryz.ntmps108)|(go_at_call 180;go_enter Tryz.func180,Tryz.ntmps180)
  go_wp2
  go_ret
  exact⟨rfl,Fr.refl _ _⟩
):p:=h
set_option maxRecDepth 100000
set_option maxHeartbeats 3200000
theorem Pf:Rz Tryz.prog 1 40 41:=VQ
theorem MH:vt Tryz.prog 3 43 44:=D0
theorem Oj:vt Tryz.prog 10 45 46:=D0
theorem Na:vt Tryz.prog 6 49 50:=D0
theorem JF:vt Tryz.prog 8 52 53:=D0
theorem N6:vt Tryz.prog 4 54 55:=D0
theorem O8:vt Tryz.prog 6 108 109:=D0
theorem LW:Rz Tryz.prog 1 112 111:=VQ
theorem Oq:vt Tryz.prog 19 180 181:=D0
end Go.Proofs.YtpdlmdlkecnpgaaGreatDoor
