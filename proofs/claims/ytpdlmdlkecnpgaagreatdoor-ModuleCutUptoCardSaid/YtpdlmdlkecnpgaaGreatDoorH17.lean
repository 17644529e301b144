/- Texts: SameW IbW1 Same7. -/
import Derived.Test.YtpdlmdlkecnpgaaGreatDoorH0
import Derived.Test.YtpdlmdlkecnpgaaGreatDoorH7
import Derived.Laws.StructEq
set_option linter.unusedSimpArgs false
set_option linter.unusedVariables false
namespace Go.Proofs.YtpdlmdlkecnpgaaGreatDoor
open Go.RowKit
theorem mL {a b:Int}:(a==b)=true∧a=b∨(a==b)=false∧a≠b:=by
 by_cases h:a=b
 ·exact .inl ⟨by simpa using h,h⟩
 ·exact .inr ⟨by simpa using h,h⟩
theorem N9 {a b:Bool}:(a==b)=true∧a=b∨(a==b)=false∧a≠b:=by
 cases a<;>cases b<;>simp
theorem lk {α:Type} {xs ys:List α} {i:Nat} {x y:α} (h:xs.take i=ys.take i) (hx:xs[i]? =some x) (hy:ys[i]? =some y) (he:x=y):xs.take (i+1)=ys.take (i+1):=by
 rw[pr xs i x hx,pr ys i y hy,h,he]
theorem vu {α:Type} {xs ys:List α} {i:Nat} {x y:α} (hx:xs[i]? =some x) (hy:ys[i]? =some y) (he:x≠y):xs≠ys:=by
 rintro rfl
 exact he (Option.some.inj (hx.symm.trans hy))
set_option maxRecDepth 100000
set_option maxHeartbeats 3200000
theorem Ew (w:World) (a b:Value) (xs ys:List aC) (h1:Sl [] w 2 a xs.length (xs.flatMap ju)) (h2:Sl [] w 2 b ys.length (ys.flatMap ju)):
 Calls Tryz.prog 177 #[a,b] w fun e w'=>e= .returned (.bool (decide (xs=ys)))∧Fr [] w w':=by
 have hh1:=h1
 have hh2:=h2
 have hm1:=h1.2.2
 obtain⟨a1,c1,rfl,hc1,hm1,_⟩:=hm1
 obtain⟨a2,c2,rfl⟩:=h2.shape
 unfold maxLen at hm1
 have hbig:xs.length≤9223372036854775807:=by omega
 clear hm1 hc1 h1 h2
 by_cases hlen:xs.length=ys.length
 ·have gl:(((xs.length:Nat):Int) !=((ys.length:Nat):Int))=false:=by simp;omega
  have Hlen:=Lib.hid hlen
  clear hlen
  go_enter Tryz.func177,Tryz.ntmps177
  go_wp2
  go_loopw [13] (fun n wr=>∃(i:Nat),n= .int .i64 i∧i≤xs.length∧Fr [] w wr∧Hid (xs.take i=ys.take i)) (fun n _=>xs.length-(intOf n).toNat)
  case atStart=>exact⟨0,rfl,by omega,Fr.refl _ _,Lib.hid rfl⟩
  case round=>
   obtain⟨i,rfl,hi,hF,ht⟩:=hrel
   by_cases hlt:i<xs.length
   ·have hlt2:i<ys.length:=by have:=Hlen.out;omega
    obtain⟨x,hx⟩:∃t,xs[i]? =some t:=⟨xs[i],by simp[hlt]⟩
    obtain⟨y,hy⟩:∃t,ys[i]? =some t:=⟨ys[i],by simp[hlt2]⟩
    obtain⟨b1,o1,p1,hv1,hb1,_,hd1⟩:=Sl.elem hh1 (fun _=>rfl) i x hx
    obtain⟨b2,o2,p2,hv2,hb2,_,hd2⟩:=Sl.elem hh2 (fun _=>rfl) i y hy
    injection hv1 with e1 _ e1c
    injection hv2 with e2 _ e2c
    subst e1 e2 e1c e2c
    have f10:=(hF.cell hb1 (by simp) _).trans (hd1 0 (by decide))
    have f11:=(hF.cell hb1 (by simp) _).trans (hd1 1 (by decide))
    have f20:=(hF.cell hb2 (by simp) _).trans (hd2 0 (by decide))
    have f21:=(hF.cell hb2 (by simp) _).trans (hd2 1 (by decide))
    clear hd1 hd2
    obtain⟨k1,n1⟩:=x
    obtain⟨k2,n2⟩:=y
    simp only[Nat.add_zero,←Nat.add_assoc,ju,List.getElem?_cons_zero,List.getElem?_cons_succ]at f10 f11 f20 f21
    have i1:(i:Int)< (xs.length:Int):=by omega
    have i2:(i:Int)< (ys.length:Int):=by omega
    have Hx:=Lib.hid hx
    have Hy:=Lib.hid hy
    clear hx hy
    rcases mL (a:=k1) (b:=k2)with⟨g0,q0⟩|⟨g0,q0⟩
    rotate_left
    ·exact Qo
    rcases mL (a:=n1) (b:=n2)with⟨g1,q1⟩|⟨g1,q1⟩
    rotate_left
    ·exact PL
    have hn:=lk ht.out Hx.out Hy.out (by subst q0 q1;rfl)
    have Hn:=Lib.hid hn
    clear hn q0 q1
    exact UK
   ·exact Vo
 ·exact Ul
theorem K8 (w:World) (a b:Value) (xs ys:List aF) (h1:Sl [] w 4 a xs.length (xs.flatMap cj)) (h2:Sl [] w 4 b ys.length (ys.flatMap cj)):
 Calls Tryz.prog 230 #[a,b] w fun e w'=>e= .returned (.bool (decide (xs=ys)))∧Fr [] w w':=by
 have hh1:=h1
 have hh2:=h2
 have hm1:=h1.2.2
 obtain⟨a1,c1,rfl,hc1,hm1,_⟩:=hm1
 obtain⟨a2,c2,rfl⟩:=h2.shape
 unfold maxLen at hm1
 have hbig:xs.length≤9223372036854775807:=by omega
 clear hm1 hc1 h1 h2
 by_cases hlen:xs.length=ys.length
 ·have gl:(((xs.length:Nat):Int) !=((ys.length:Nat):Int))=false:=by simp;omega
  have Hlen:=Lib.hid hlen
  clear hlen
  go_enter Tryz.func230,Tryz.ntmps230
  go_wp2
  go_loopw [13] (fun n wr=>∃(i:Nat),n= .int .i64 i∧i≤xs.length∧Fr [] w wr∧Hid (xs.take i=ys.take i)) (fun n _=>xs.length-(intOf n).toNat)
  case atStart=>exact⟨0,rfl,by omega,Fr.refl _ _,Lib.hid rfl⟩
  case round=>
   obtain⟨i,rfl,hi,hF,ht⟩:=hrel
   by_cases hlt:i<xs.length
   ·have hlt2:i<ys.length:=by have:=Hlen.out;omega
    obtain⟨x,hx⟩:∃t,xs[i]? =some t:=⟨xs[i],by simp[hlt]⟩
    obtain⟨y,hy⟩:∃t,ys[i]? =some t:=⟨ys[i],by simp[hlt2]⟩
    obtain⟨b1,o1,p1,hv1,hb1,_,hd1⟩:=Sl.elem hh1 (fun _=>rfl) i x hx
    obtain⟨b2,o2,p2,hv2,hb2,_,hd2⟩:=Sl.elem hh2 (fun _=>rfl) i y hy
    injection hv1 with e1 _ e1c
    injection hv2 with e2 _ e2c
    subst e1 e2 e1c e2c
    have f10:=(hF.cell hb1 (by simp) _).trans (hd1 0 (by decide))
    have f11:=(hF.cell hb1 (by simp) _).trans (hd1 1 (by decide))
    have f12:=(hF.cell hb1 (by simp) _).trans (hd1 2 (by decide))
    have f13:=(hF.cell hb1 (by simp) _).trans (hd1 3 (by decide))
    have f20:=(hF.cell hb2 (by simp) _).trans (hd2 0 (by decide))
    have f21:=(hF.cell hb2 (by simp) _).trans (hd2 1 (by decide))
    have f22:=(hF.cell hb2 (by simp) _).trans (hd2 2 (by decide))
    have f23:=(hF.cell hb2 (by simp) _).trans (hd2 3 (by decide))
    clear hd1 hd2
    obtain⟨k1,z1,⟨hk1,hn1⟩⟩:=x
    obtain⟨k2,z2,⟨hk2,hn2⟩⟩:=y
    simp only[Nat.add_zero,←Nat.add_assoc,cj,List.getElem?_cons_zero,List.getElem?_cons_succ]at f10 f11 f12 f13 f20 f21 f22 f23
    have i1:(i:Int)< (xs.length:Int):=by omega
    have i2:(i:Int)< (ys.length:Int):=by omega
    have Hx:=Lib.hid hx
    have Hy:=Lib.hid hy
    clear hx hy
    rcases mL (a:=k1) (b:=k2)with⟨g0,q0⟩|⟨g0,q0⟩
    rotate_left
    ·exact Qo
    rcases N9 (a:=z1) (b:=z2)with⟨g1,q1⟩|⟨g1,q1⟩
    rotate_left
    ·exact PL
    rcases mL (a:=hk1) (b:=hk2)with⟨g2,q2⟩|⟨g2,q2⟩
    rotate_left
    ·exact Ss
    rcases mL (a:=hn1) (b:=hn2)with⟨g3,q3⟩|⟨g3,q3⟩
    rotate_left
    ·exact VV
    have hn:=lk ht.out Hx.out Hy.out (by subst q0 q1 q2 q3;rfl)
    have Hn:=Lib.hid hn
    clear hn q0 q1 q2 q3
    exact UK
   ·exact Vo
 ·exact Ul
theorem BN (w:World) (a b:Value) (xs ys:List ey) (h1:Sl [] w 6 a xs.length (xs.flatMap fG)) (h2:Sl [] w 6 b ys.length (ys.flatMap fG)):
 Calls Tryz.prog 179 #[a,b] w fun e w'=>e= .returned (.bool (decide (xs=ys)))∧Fr [] w w':=by
 have hh1:=h1
 have hh2:=h2
 have hm1:=h1.2.2
 obtain⟨a1,c1,rfl,hc1,hm1,_⟩:=hm1
 obtain⟨a2,c2,rfl⟩:=h2.shape
 unfold maxLen at hm1
 have hbig:xs.length≤9223372036854775807:=by omega
 clear hm1 hc1 h1 h2
 by_cases hlen:xs.length=ys.length
 ·have gl:(((xs.length:Nat):Int) !=((ys.length:Nat):Int))=false:=by simp;omega
  have Hlen:=Lib.hid hlen
  clear hlen
  go_enter Tryz.func179,Tryz.ntmps179
  go_wp2
  go_loopw [13] (fun n wr=>∃(i:Nat),n= .int .i64 i∧i≤xs.length∧Fr [] w wr∧Hid (xs.take i=ys.take i)) (fun n _=>xs.length-(intOf n).toNat)
  case atStart=>exact⟨0,rfl,by omega,Fr.refl _ _,Lib.hid rfl⟩
  case round=>
   obtain⟨i,rfl,hi,hF,ht⟩:=hrel
   by_cases hlt:i<xs.length
   ·have hlt2:i<ys.length:=by have:=Hlen.out;omega
    obtain⟨x,hx⟩:∃t,xs[i]? =some t:=⟨xs[i],by simp[hlt]⟩
    obtain⟨y,hy⟩:∃t,ys[i]? =some t:=⟨ys[i],by simp[hlt2]⟩
    obtain⟨b1,o1,p1,hv1,hb1,_,hd1⟩:=Sl.elem hh1 (fun _=>rfl) i x hx
    obtain⟨b2,o2,p2,hv2,hb2,_,hd2⟩:=Sl.elem hh2 (fun _=>rfl) i y hy
    injection hv1 with e1 _ e1c
    injection hv2 with e2 _ e2c
    subst e1 e2 e1c e2c
    have f10:=(hF.cell hb1 (by simp) _).trans (hd1 0 (by decide))
    have f11:=(hF.cell hb1 (by simp) _).trans (hd1 1 (by decide))
    have f12:=(hF.cell hb1 (by simp) _).trans (hd1 2 (by decide))
    have f13:=(hF.cell hb1 (by simp) _).trans (hd1 3 (by decide))
    have f14:=(hF.cell hb1 (by simp) _).trans (hd1 4 (by decide))
    have f15:=(hF.cell hb1 (by simp) _).trans (hd1 5 (by decide))
    have f20:=(hF.cell hb2 (by simp) _).trans (hd2 0 (by decide))
    have f21:=(hF.cell hb2 (by simp) _).trans (hd2 1 (by decide))
    have f22:=(hF.cell hb2 (by simp) _).trans (hd2 2 (by decide))
    have f23:=(hF.cell hb2 (by simp) _).trans (hd2 3 (by decide))
    have f24:=(hF.cell hb2 (by simp) _).trans (hd2 4 (by decide))
    have f25:=(hF.cell hb2 (by simp) _).trans (hd2 5 (by decide))
    clear hd1 hd2
    obtain⟨p1,⟨k1,z1,⟨hk1,hn1⟩⟩,m1⟩:=x
    obtain⟨p2,⟨k2,z2,⟨hk2,hn2⟩⟩,m2⟩:=y
    simp only[Nat.add_zero,←Nat.add_assoc,fG,List.getElem?_cons_zero,List.getElem?_cons_succ]at f10 f11 f12 f13 f14 f15 f20 f21 f22 f23 f24 f25
    have i1:(i:Int)< (xs.length:Int):=by omega
    have i2:(i:Int)< (ys.length:Int):=by omega
    have Hx:=Lib.hid hx
    have Hy:=Lib.hid hy
    clear hx hy
    rcases mL (a:=p1) (b:=p2)with⟨g0,q0⟩|⟨g0,q0⟩
    rotate_left
    ·exact Qo
    rcases mL (a:=k1) (b:=k2)with⟨g1,q1⟩|⟨g1,q1⟩
    rotate_left
    ·exact PL
    rcases N9 (a:=z1) (b:=z2)with⟨g2,q2⟩|⟨g2,q2⟩
    rotate_left
    ·exact Ss
    rcases mL (a:=hk1) (b:=hk2)with⟨g3,q3⟩|⟨g3,q3⟩
    rotate_left
    ·exact VV
    rcases mL (a:=hn1) (b:=hn2)with⟨g4,q4⟩|⟨g4,q4⟩
    rotate_left
    ·have hne:decide (xs=ys)=false:=decide_eq_false (vu Hx.out Hy.out (by intro h;injections;contradiction))
     have Hne:=Lib.hid hne
     clear hne q0 q1 q2 q3 q4
     exact Sm
    rcases N9 (a:=m1) (b:=m2)with⟨g5,q5⟩|⟨g5,q5⟩
    rotate_left
    ·have hne:decide (xs=ys)=false:=decide_eq_false (vu Hx.out Hy.out (by intro h;injections;contradiction))
     have Hne:=Lib.hid hne
     clear hne q0 q1 q2 q3 q4 q5
     exact Sm
    have hn:=lk ht.out Hx.out Hy.out (by subst q0 q1 q2 q3 q4 q5;rfl)
    have Hn:=Lib.hid hn
    clear hn q0 q1 q2 q3 q4 q5
    exact UK
   ·exact Vo
 ·exact Ul
theorem nK (w:World) (a b:Value) (xs ys:List aF) (h1:Sl [] w 4 a xs.length (xs.flatMap cj)) (h2:Sl [] w 4 b ys.length (ys.flatMap cj)):
 Calls Tryz.prog 178 #[a,b] w fun e w'=>e= .returned (.bool (decide (xs=ys)))∧Fr [] w w':=by
 obtain⟨a1,c1,rfl⟩:=h1.shape
 obtain⟨a2,c2,rfl⟩:=h2.shape
 go_enter Tryz.func178,Tryz.ntmps178
 go_wp2_with (go_at_call 230;refine(K8 w _ _ xs ys h1 h2).mono ?_;rintro e w1 ⟨rfl,hF1⟩)
 go_ret
 exact⟨rfl,hF1⟩
theorem jM (w:World) (n:Int):Calls Tryz.prog 234 #[.int .i64 n] w fun e w'=>e= .returned (.bool (ev n))∧Fr [] w w':=by
 go_enter Tryz.func234,Tryz.ntmps234
 go_wp2
 all_goals
  go_ret
  refine⟨congrArg (fun b=>Ending.returned (Value.bool b)) ?_,by exact cF⟩
  rw[Bool.eq_iff_iff]
  simp[ev]
  try omega
theorem u6 (w:World) (h:aC):Calls Tryz.prog 236 #[.agg #[.int .i64 h.kind,.int .i64 h.n]] w fun e w'=>e= .returned (.bool (ja h))∧Fr [] w w':=by
 obtain⟨k,n⟩:=h
 dsimp only
 go_enter Tryz.func236,Tryz.ntmps236
 exact UG
theorem AR (w:World) (b:bJ):Calls Tryz.prog 238 #[.agg #[.int .i64 b.kind,.int .i64 b.val.kind,.bool b.val.null,.int .i64 b.val.heap.kind,.int .i64 b.val.heap.n,.int .i64 b.n]] w fun e w'=>e= .returned (.bool (cY b))∧Fr [] w w':=by
 obtain⟨k,v,n⟩:=b
 obtain⟨vk,vn,⟨hk,hn⟩⟩:=v
 dsimp only
 have hS0:=St.start [] w
 go_enter Tryz.func238,Tryz.ntmps238
 go_wp2_with first|(go_at_call 117;refine(cK _ ⟨vk,vn,⟨hk,hn⟩⟩).mono ?_;rintro e w2 ⟨rfl,hF2⟩;generalize hpb:aj ⟨vk,vn,⟨hk,hn⟩⟩=pb;have Hpb:=Lib.hid hpb;clear hpb;(try clear hQ);refine cB hF2 fun hS hQ=> ?_)|(go_at_call 234;refine(jM _ n).mono ?_;rintro e w3 ⟨rfl,hF3⟩;generalize hpi:ev n=pi;have Hpi:=Lib.hid hpi;clear hpi;(try clear hQ);refine cB hF3 fun hS hQ=> ?_)
 all_goals
  go_ret
  refine⟨congrArg (fun b=>Ending.returned (Value.bool b)) ?_,by exact aM⟩
  unfold cY
  simp only
  rw[Bool.eq_iff_iff]
  simp only[beq_iff_eq,beq_eq_false_iff_ne,ne_eq]at*
  first
   |(rw[Hpb.out];simp_all;done)
   |(rw[Hpi.out];simp_all [aF.zero];done)
   |(simp_all [bJ.zero,aF.zero];done)
   |(simp_all [bJ.zero,aF.zero];omega)
theorem so (w:World) (c:cQ):Calls Tryz.prog 240 #[.agg #[.int .i64 c.kind,.int .i64 c.tag,.int .i64 c.label]] w fun e w'=>e= .returned (.bool (dm c))∧Fr [] w w':=by
 obtain⟨k,t,l⟩:=c
 dsimp only
 have hS0:=St.start [] w
 go_enter Tryz.func240,Tryz.ntmps240
 go_wp2_with first|(go_at_call 234;(with_reducible refine(jM _ t).mono ?_);rintro e w2 ⟨rfl,hF2⟩;generalize hpt:ev t=pt;have Hpt:=Lib.hid hpt;clear hpt;(try clear hQ);refine cB hF2 fun hS hQ=> ?_)|(go_at_call 234;(with_reducible refine(jM _ l).mono ?_);rintro e w3 ⟨rfl,hF3⟩;generalize hpl:ev l=pl;have Hpl:=Lib.hid hpl;clear hpl;(try clear hQ);refine cB hF3 fun hS hQ=> ?_)
 all_goals
  go_ret
  refine⟨congrArg (fun b=>Ending.returned (Value.bool b)) ?_,by exact aM⟩
  unfold dm
  simp only
  rw[Bool.eq_iff_iff]
  simp only[beq_iff_eq,beq_eq_false_iff_ne,ne_eq]at*
  first
   |(rw[Hpt.out,Hpl.out];simp_all;done)
   |(rw[Hpt.out];simp_all;done)
   |(rw[Hpl.out];simp_all;done)
   |(simp_all;done)
theorem Qt (S:List Nat) (w:World) (v:Value) (ts:List Int) (h:Sl S w 1 v ts.length (ts.flatMap gK)) (hl:ts.length≤1099511627776):
 Calls Tryz.prog 235 #[v,.func (.func 234) #[] #[]] w fun e w'=>e= .returned (.bool (ts.all ev))∧Fr [] w w':=by
 have hh:=h
 obtain⟨_,_,a,cap,rfl,_⟩:=h
 go_enter Tryz.func235,Tryz.ntmps235
 go_wp2
 go_loopw [9] (fun n wr=>∃(i:Nat),n= .int .i64 i∧i≤ts.length∧Fr [] w wr∧Hid (ts.all ev=(ts.drop i).all ev)) (fun n _=>ts.length-(intOf n).toNat)
 case atStart=>exact⟨0,rfl,by omega,Fr.refl _ _,Lib.hid rfl⟩
 case round=>
  obtain⟨i,rfl,hi,hF,hg⟩:=hrel
  by_cases hlt:i<ts.length
  ·obtain⟨t,ht⟩:∃t,ts[i]? =some t:=⟨ts[i],by simp[hlt]⟩
   obtain⟨b,off,cap2,hv,hb,hnS,hc⟩:=Sl.elem hh (fun _=>rfl) i t ht
   injection hv with hv1 hv2 hv3
   subst hv1 hv3
   have hbw:b<wr.heap.size:=Nat.lt_of_lt_of_le hb hF.size
   have hd:=gB ts i t ht
   have e0:=(hF.cell hb (by simp) _).trans (hc 0 (by decide))
   simp only[Nat.add_zero,←Nat.add_assoc,gK,Nat.mul_one,List.getElem?_cons_zero]at e0
   cases hp:ev t
   ·have hall:ts.all ev=false:=by rw[hg.out,hd];simp[hp]
    have Hall:=Lib.hid hall
    clear hall
    go_wp2_with (go_at_call 234;refine(jM _ t).mono ?_;rintro e w2 ⟨rfl,hF2⟩;rw[hp])
    go_ret
    exact⟨by rw[Hall.out];rfl,hF.trans hF2⟩
   ·have hall:ts.all ev=(ts.drop (i+1)).all ev:=by rw[hg.out,hd];simp[hp]
    have Hall:=Lib.hid hall
    clear hall
    go_wp2_with (go_at_call 234;refine(jM _ t).mono ?_;rintro e w2 ⟨rfl,hF2⟩;rw[hp])
    go_roundw
    case rel=>
     exact⟨i+1,by go_num,by omega,hF.trans hF2,Hall⟩
    case measure=>simp[intOf];omega
  ·have hk:i=ts.length:=by omega
   subst hk
   have hall:ts.all ev=true:=by rw[hg.out];simp
   exact K1
theorem O7 (S:List Nat) (w:World) (v:Value) (ts:List aF) (h:Sl S w 4 v ts.length (ts.flatMap cj)) (hl:ts.length≤1099511627776):
 Calls Tryz.prog 237 #[v,.func (.func 117) #[] #[]] w fun e w'=>e= .returned (.bool (ts.all aj))∧Fr [] w w':=by
 exact X6
theorem J8 (S:List Nat) (w:World) (v:Value) (ts:List cQ) (h:Sl S w 3 v ts.length (ts.flatMap gZ)) (hl:ts.length≤1099511627776):
 Calls Tryz.prog 239 #[v,.func (.func 240) #[] #[]] w fun e w'=>e= .returned (.bool (ts.all dm))∧Fr [] w w':=by
 have hh:=h
 obtain⟨_,_,a,cap,rfl,_⟩:=h
 go_enter Tryz.func239,Tryz.ntmps239
 go_wp2
 go_loopw [9] (fun n wr=>∃(i:Nat),n= .int .i64 i∧i≤ts.length∧Fr [] w wr∧Hid (ts.all dm=(ts.drop i).all dm)) (fun n _=>ts.length-(intOf n).toNat)
 case atStart=>exact⟨0,rfl,by omega,Fr.refl _ _,Lib.hid rfl⟩
 case round=>
  obtain⟨i,rfl,hi,hF,hg⟩:=hrel
  by_cases hlt:i<ts.length
  ·obtain⟨t,ht⟩:∃t,ts[i]? =some t:=⟨ts[i],by simp[hlt]⟩
   obtain⟨b,off,cap2,hv,hb,hnS,hc⟩:=Sl.elem hh (fun _=>rfl) i t ht
   injection hv with hv1 hv2 hv3
   subst hv1 hv3
   have hbw:b<wr.heap.size:=Nat.lt_of_lt_of_le hb hF.size
   have hd:=gB ts i t ht
   have e0:=(hF.cell hb (by simp) _).trans (hc 0 (by decide))
   have e1:=(hF.cell hb (by simp) _).trans (hc 1 (by decide))
   have e2:=(hF.cell hb (by simp) _).trans (hc 2 (by decide))
   simp only[Nat.add_zero,←Nat.add_assoc,gZ,List.getElem?_cons_zero,List.getElem?_cons_succ]at e0 e1 e2
   have f1:=fun o=>hF.alloc o
   cases hp:dm t
   ·have hall:ts.all dm=false:=by rw[hg.out,hd];simp[hp]
    have Hall:=Lib.hid hall
    clear hall
    go_wp2_with (go_at_call 240;refine(so _ t).mono ?_;rintro e w2 ⟨rfl,hF2⟩;rw[hp])
    exact QD
   ·have hall:ts.all dm=(ts.drop (i+1)).all dm:=by rw[hg.out,hd];simp[hp]
    have Hall:=Lib.hid hall
    clear hall
    go_wp2_with (go_at_call 240;refine(so _ t).mono ?_;rintro e w2 ⟨rfl,hF2⟩;rw[hp])
    exact Qi
  ·have hk:i=ts.length:=by omega
   subst hk
   have hall:ts.all dm=true:=by rw[hg.out];simp
   exact K1
theorem G4 (w:World) (a b:Value) (xs ys:List Int) (h1:Sl [] w 1 a xs.length (xs.flatMap gK)) (h2:Sl [] w 1 b ys.length (ys.flatMap gK)):
 Calls Tryz.prog 48 #[a,b] w fun e w'=>e= .returned (.bool (decide (xs=ys)))∧Fr [] w w':=by
 have hh1:=h1
 have hh2:=h2
 have hm1:=h1.2.2
 obtain⟨a1,c1,rfl,hc1,hm1,_⟩:=hm1
 obtain⟨a2,c2,rfl⟩:=h2.shape
 unfold maxLen at hm1
 have hbig:xs.length≤9223372036854775807:=by omega
 clear hm1 hc1 h1 h2
 by_cases hlen:xs.length=ys.length
 ·have gl:(((xs.length:Nat):Int) !=((ys.length:Nat):Int))=false:=by simp;omega
  have Hlen:=Lib.hid hlen
  clear hlen
  go_enter Tryz.func48,Tryz.ntmps48
  go_wp2
  go_loopw [13] (fun n wr=>∃(i:Nat),n= .int .i64 i∧i≤xs.length∧Fr [] w wr∧Hid (xs.take i=ys.take i)) (fun n _=>xs.length-(intOf n).toNat)
  case atStart=>exact⟨0,rfl,by omega,Fr.refl _ _,Lib.hid rfl⟩
  case round=>
   obtain⟨i,rfl,hi,hF,ht⟩:=hrel
   by_cases hlt:i<xs.length
   ·have hlt2:i<ys.length:=by have:=Hlen.out;omega
    obtain⟨x,hx⟩:∃t,xs[i]? =some t:=⟨xs[i],by simp[hlt]⟩
    obtain⟨y,hy⟩:∃t,ys[i]? =some t:=⟨ys[i],by simp[hlt2]⟩
    obtain⟨b1,o1,p1,hv1,hb1,_,hd1⟩:=Sl.elem hh1 (fun _=>rfl) i x hx
    obtain⟨b2,o2,p2,hv2,hb2,_,hd2⟩:=Sl.elem hh2 (fun _=>rfl) i y hy
    injection hv1 with e1 _ e1c
    injection hv2 with e2 _ e2c
    subst e1 e2 e1c e2c
    have f10:=(hF.cell hb1 (by simp) _).trans (hd1 0 (by decide))
    have f20:=(hF.cell hb2 (by simp) _).trans (hd2 0 (by decide))
    clear hd1 hd2
    simp only[Nat.add_zero,←Nat.add_assoc,gK,Nat.mul_one,List.getElem?_cons_zero]at f10 f20
    have i1:(i:Int)< (xs.length:Int):=by omega
    have i2:(i:Int)< (ys.length:Int):=by omega
    have Hx:=Lib.hid hx
    have Hy:=Lib.hid hy
    clear hx hy
    rcases mL (a:=x) (b:=y)with⟨g0,q0⟩|⟨g0,q0⟩
    rotate_left
    ·have hne:decide (xs=ys)=false:=decide_eq_false (vu Hx.out Hy.out (by intro h;contradiction))
     have Hne:=Lib.hid hne
     clear hne q0
     exact Sm
    have hn:=lk ht.out Hx.out Hy.out (by subst q0;rfl)
    have Hn:=Lib.hid hn
    clear hn q0
    exact UK
   ·exact Vo
 ·exact Ul
theorem BA (w:World) (a b:Value) (xs ys:List cQ) (h1:Sl [] w 3 a xs.length (xs.flatMap gZ)) (h2:Sl [] w 3 b ys.length (ys.flatMap gZ)):
 Calls Tryz.prog 231 #[a,b] w fun e w'=>e= .returned (.bool (decide (xs=ys)))∧Fr [] w w':=by
 have hh1:=h1
 have hh2:=h2
 have hm1:=h1.2.2
 obtain⟨a1,c1,rfl,hc1,hm1,_⟩:=hm1
 obtain⟨a2,c2,rfl⟩:=h2.shape
 unfold maxLen at hm1
 have hbig:xs.length≤9223372036854775807:=by omega
 clear hm1 hc1 h1 h2
 by_cases hlen:xs.length=ys.length
 ·have gl:(((xs.length:Nat):Int) !=((ys.length:Nat):Int))=false:=by simp;omega
  have Hlen:=Lib.hid hlen
  clear hlen
  go_enter Tryz.func231,Tryz.ntmps231
  go_wp2
  go_loopw [13] (fun n wr=>∃(i:Nat),n= .int .i64 i∧i≤xs.length∧Fr [] w wr∧Hid (xs.take i=ys.take i)) (fun n _=>xs.length-(intOf n).toNat)
  case atStart=>exact⟨0,rfl,by omega,Fr.refl _ _,Lib.hid rfl⟩
  case round=>
   obtain⟨i,rfl,hi,hF,ht⟩:=hrel
   by_cases hlt:i<xs.length
   ·have hlt2:i<ys.length:=by have:=Hlen.out;omega
    obtain⟨x,hx⟩:∃t,xs[i]? =some t:=⟨xs[i],by simp[hlt]⟩
    obtain⟨y,hy⟩:∃t,ys[i]? =some t:=⟨ys[i],by simp[hlt2]⟩
    obtain⟨b1,o1,p1,hv1,hb1,_,hd1⟩:=Sl.elem hh1 (fun _=>rfl) i x hx
    obtain⟨b2,o2,p2,hv2,hb2,_,hd2⟩:=Sl.elem hh2 (fun _=>rfl) i y hy
    injection hv1 with e1 _ e1c
    injection hv2 with e2 _ e2c
    subst e1 e2 e1c e2c
    have f10:=(hF.cell hb1 (by simp) _).trans (hd1 0 (by decide))
    have f11:=(hF.cell hb1 (by simp) _).trans (hd1 1 (by decide))
    have f12:=(hF.cell hb1 (by simp) _).trans (hd1 2 (by decide))
    have f20:=(hF.cell hb2 (by simp) _).trans (hd2 0 (by decide))
    have f21:=(hF.cell hb2 (by simp) _).trans (hd2 1 (by decide))
    have f22:=(hF.cell hb2 (by simp) _).trans (hd2 2 (by decide))
    clear hd1 hd2
    obtain⟨k1,t1,l1⟩:=x
    obtain⟨k2,t2,l2⟩:=y
    simp only[Nat.add_zero,←Nat.add_assoc,gZ,List.getElem?_cons_zero,List.getElem?_cons_succ]at f10 f11 f12 f20 f21 f22
    have i1:(i:Int)< (xs.length:Int):=by omega
    have i2:(i:Int)< (ys.length:Int):=by omega
    have Hx:=Lib.hid hx
    have Hy:=Lib.hid hy
    clear hx hy
    rcases mL (a:=k1) (b:=k2)with⟨g0,q0⟩|⟨g0,q0⟩
    rotate_left
    ·exact Qo
    rcases mL (a:=t1) (b:=t2)with⟨g1,q1⟩|⟨g1,q1⟩
    rotate_left
    ·exact PL
    rcases mL (a:=l1) (b:=l2)with⟨g2,q2⟩|⟨g2,q2⟩
    rotate_left
    ·exact Ss
    have hn:=lk ht.out Hx.out Hy.out (by subst q0 q1 q2;rfl)
    have Hn:=Lib.hid hn
    clear hn q0 q1 q2
    exact UK
   ·exact Vo
 ·exact Ul
end Go.Proofs.YtpdlmdlkecnpgaaGreatDoor
