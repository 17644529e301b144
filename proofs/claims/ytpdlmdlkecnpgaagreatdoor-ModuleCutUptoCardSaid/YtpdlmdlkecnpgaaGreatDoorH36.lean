/- Texts: MdPl MdPs MdP9 MdSb. -/
import Derived.Test.YtpdlmdlkecnpgaaGreatDoorH0
import Derived.Test.YtpdlmdlkecnpgaaGreatDoorH34
import Derived.Test.YtpdlmdlkecnpgaaGreatDoorH7
import Derived.Test.YtpdlmdlkecnpgaaGreatDoorH30
import Derived.Test.YtpdlmdlkecnpgaaGreatDoorH31
import Derived.Test.YtpdlmdlkecnpgaaGreatDoorH35
set_option linter.unusedSimpArgs false
set_option linter.unusedVariables false
namespace Go.Proofs.YtpdlmdlkecnpgaaGreatDoor
open Go.RowKit
theorem q0h {c:Nat} (h:c=3):(Tryz.prog.info? 97).map (·.size)=some c:=h▸u0
theorem q0r:(Tryz.prog.info? 97).map (·.size)=some 3:=u0
def d9 (P:Program) (f:FuncId) (w0:World) (arg:Value) (Y:List UInt8) (N:Nat):Prop:=∀(G:List bt) (w:World) (v:Value) (xs:List UInt8),St [] w0 w (.own 5 1 (v) (xs).length ((xs).map B)::G)→xs.length≤N→
 Calls P f #[v,arg] w fun e w'=>∃v',e= .returned v'∧St [] w0 w' (.own 5 1 (v') (xs++Y).length ((xs++Y).map B)::G)
theorem d9.cps {P:Program} {f:FuncId} {w0 w:World} {v arg:Value} {Y:List UInt8} {N:Nat} {Q:Ending→World→Prop} (h:d9 P f w0 arg Y N) (hh:∃G G' xs,St [] w0 w G∧bg G (.own 5 1 (v) (xs).length ((xs).map B)) G'∧xs.length≤N∧∀v' w',St [] w0 w' (.own 5 1 (v') (xs++Y).length ((xs++Y).map B)::G')→Q (.returned v') w'):Calls P f #[v,arg] w Q:=by
 obtain⟨G,G',xs,h1,h2,h3,h5⟩:=hh
 exact(h G' w v xs (h1.pick h2) h3).mono fun e w' ⟨v',e1,e2⟩=>e1▸h5 v' w' e2
theorem Bc {α:Type} {p:α→List UInt8} (l:List α) (k:Nat):((l.take k).flatMap p).length≤(l.flatMap p).length:=by
 conv=>rhs;rw[←List.take_append_drop k l,List.flatMap_append,List.length_append]
 omega
abbrev F7 (P:Program) (k:Nat) (F f:FuncId):Prop:=∀{α:Type} {R:α→List Value→World→Prop} (_:uO R k) {p:α→List UInt8} {w0 w:World} {G:List bt} {v0 sv:Value} {xs:List UInt8} {l:List α} (_:St [] w0 w (.own 5 1 (v0) (xs).length ((xs).map B)::G)) (_:an k R sv l w0) {N:Nat} (_:N≤70368744177000) (_:xs.length+(ae p l).length≤N)
 (_:∀x∈l,∀v,R x [v] w0→d9 P f w0 (v) (p x) N),
 Calls P F #[v0,sv,.func (.func f) #[] #[]] w fun e w'=>∃v',e= .returned v'∧St [] w0 w' (.own 5 1 (v') (xs++ae p l).length ((xs++ae p l).map B)::G)
abbrev qg (P:Program) (k:Nat) (F f:FuncId):Prop:=∀{α:Type} {R:α→List Value→World→Prop} (_:uO R k) {p:α→List UInt8} {w0 w:World} {G:List bt} {v0 sv:Value} {xs:List UInt8} {l:List α} (_:St [] w0 w (.own 5 1 (v0) (xs).length ((xs).map B)::G)) (_:an k R sv l w0) {N:Nat} (_:N≤70368744177000) (_:xs.length+(ae p l).length≤N)
 (_:∀x∈l,∀c,R x c w0→d9 P f w0 (.agg c.toArray) (p x) N),
 Calls P F #[v0,sv,.func (.func f) #[] #[]] w fun e w'=>∃v',e= .returned v'∧St [] w0 w' (.own 5 1 (v') (xs++ae p l).length ((xs++ae p l).map B)::G)
theorem QK {p:Prop} (h:p:=by
 intro hR p w0 w G v0 sv xs l hS h N hN hl hp
 have hh:=h
 have HP:=Lib.hid hp
 clear hp
 obtain⟨a,cap,rfl,hln⟩:∃a cap,sv= .slice a l.length cap∧l.length≤9223372036854775807:=by
  exact TJ
 have hnum:=bG l.length (by omega)
 have e1:xs++ae p l=xs++au ((l.length:Nat):Int)++l.flatMap p:=by unfold ae;rw[iK];simp
 have e2:(ae p l).length=(au ((l.length:Nat):Int)).length+(l.flatMap p).length:=by unfold ae;rw[iK];simp
 rw[e2]at hl
 rw[e1]
 have HL:=Lib.hid hl
 clear e1 e2 hl
 have hx0:xs.length≤N:=by have:=HL.out;omega
 first|(go_at_call 78;go_enter Tryz.func78,Tryz.ntmps78)|(go_at_call 89;go_enter Tryz.func89,Tryz.ntmps89)|(go_at_call 95;go_enter Tryz.func95,Tryz.ntmps95)
 go_wp2_with first|(go_at_call 19;refine ki ?_;refine sC ?_;intro vN wN hS;(try clear hQ);have hQ:=St.fq hS)|fail
 go_loopw [0,15] (fun u n wr=>∃(i:Nat),n= .int .i64 i∧i≤l.length∧St [] w0 wr (.own 5 1 (u) (xs++au ((l.length:Nat):Int)++(l.take i).flatMap p).length ((xs++au ((l.length:Nat):Int)++(l.take i).flatMap p).map B)::G)) (fun _ n _=>l.length-(intOf n).toNat)
 case atStart=>exact⟨0,rfl,by omega,by simpa using hS⟩
 case round=>
  obtain⟨i,rfl,hi,hS⟩:=hrel
  by_cases hlt:i<l.length
  ·obtain⟨x,hx⟩:∃t,l[i]? =some t:=⟨l[i],by simp[hlt]⟩
   obtain⟨b,off,cap2,c,hv,hb,hRx,hcl0,hc⟩:=an.elem hh (fun x c h=>hR.len x c _ h) hx
   have hc:=fun r hr=>(hS.fr.cell hb (by simp) _).trans (hc r hr)
   injection hv with hv1 hv2 hv3
   subst hv1 hv3
   obtain⟨v,rfl⟩:∃v,c= [v]:=by
    match c,hcl0 with
    | [v],_=>exact⟨v,rfl⟩
   have hOne:=hR.one _ _ _ hRx v List.mem_cons_self
   have e0:=hc 0 (by decide)
   simp only[Nat.mul_one,Nat.add_zero,List.getElem?_cons_zero]at e0
   clear hc
   have hmem:=List.mem_of_getElem? hx
   have hlen:(xs++au ((l.length:Nat):Int)++(l.take i).flatMap p).length≤N:=by
    have h1:=HL.out
    have h2:=Bc (p:=p) l i
    exact Px
   have e:(l.take (i+1)).flatMap p=(l.take i).flatMap p++p x:=by rw[List.take_add_one,hx];simp
   have E:=Lib.hid e
   clear e
   go_wp2_with first|((first|go_at_call 14|go_at_call 25|go_at_call 87|go_at_call 96);refine(HP.out x hmem _ hRx).cps ?_;(repeat(apply Exists.intro));refine⟨?_,?_,?_,?_⟩;(·exact aA);(·exact aK);(·exact hlen);intro vN wN hS;(try clear hQ);have hQ:=St.fq hS)|fail
   exact Uv
  ·exact Vr
):p:=h
theorem xL {p:Prop} (h:p:=by
 intro hR p w0 w G v0 sv xs l hS h N hN hl hp
 have hh:=h
 have HP:=Lib.hid hp
 clear hp
 obtain⟨a,cap,rfl,hln⟩:∃a cap,sv= .slice a l.length cap∧l.length≤9223372036854775807:=by
  exact TJ
 have hnum:=bG l.length (by omega)
 have e1:xs++ae p l=xs++au ((l.length:Nat):Int)++l.flatMap p:=by unfold ae;rw[iK];simp
 have e2:(ae p l).length=(au ((l.length:Nat):Int)).length+(l.flatMap p).length:=by unfold ae;rw[iK];simp
 rw[e2]at hl
 rw[e1]
 have HL:=Lib.hid hl
 clear e1 e2 hl
 have hx0:xs.length≤N:=by have:=HL.out;omega
 first|(go_at_call 80;go_enter Tryz.func80,Tryz.ntmps80)|(go_at_call 84;go_enter Tryz.func84,Tryz.ntmps84)|(go_at_call 86;go_enter Tryz.func86,Tryz.ntmps86)|(go_at_call 88;go_enter Tryz.func88,Tryz.ntmps88)|(go_at_call 90;go_enter Tryz.func90,Tryz.ntmps90)|(go_at_call 91;go_enter Tryz.func91,Tryz.ntmps91)|(go_at_call 92;go_enter Tryz.func92,Tryz.ntmps92)|(go_at_call 101;go_enter Tryz.func101,Tryz.ntmps101)|(go_at_call 99;go_enter Tryz.func99,Tryz.ntmps99)
 go_wp2_with first|(go_at_call 19;refine ki ?_;refine sC ?_;intro vN wN hS;(try clear hQ);have hQ:=St.fq hS)|fail
 go_loopw [0,15] (fun u n wr=>∃(i:Nat),n= .int .i64 i∧i≤l.length∧St [] w0 wr (.own 5 1 (u) (xs++au ((l.length:Nat):Int)++(l.take i).flatMap p).length ((xs++au ((l.length:Nat):Int)++(l.take i).flatMap p).map B)::G)) (fun _ n _=>l.length-(intOf n).toNat)
 case atStart=>exact⟨0,rfl,by omega,by simpa using hS⟩
 case round=>
  obtain⟨i,rfl,hi,hS⟩:=hrel
  by_cases hlt:i<l.length
  ·obtain⟨x,hx⟩:∃t,l[i]? =some t:=⟨l[i],by simp[hlt]⟩
   obtain⟨b,off,cap2,c,hv,hb,hRx,hcl0,hc⟩:=an.elem hh (fun x c h=>hR.len x c _ h) hx
   have hc:=fun r hr=>(hS.fr.cell hb (by simp) _).trans (hc r hr)
   injection hv with hv1 hv2 hv3
   subst hv1 hv3
   have hcl:=hcl0
   have hRow:=jL hcl hc
   have hOne:=hR.one _ _ _ hRx
   clear hc
   have hmem:=List.mem_of_getElem? hx
   have hlen:(xs++au ((l.length:Nat):Int)++(l.take i).flatMap p).length≤N:=by
    have h1:=HL.out
    have h2:=Bc (p:=p) l i
    exact Px
   have e:(l.take (i+1)).flatMap p=(l.take i).flatMap p++p x:=by rw[List.take_add_one,hx];simp
   have E:=Lib.hid e
   clear e
   go_wp2_with first|(refine Vb ?_)|(refine Vb (hu:=q55q) ?_)|(refine Vb (h3:=q0h hcl) ?_)|((try clear hQ);refine N0 fun wN hS hQ=> ?_)|((try clear hQ);refine N0 (h4:=q0h hcl) fun wN hS hQ=> ?_)|((first|go_at_call 16|go_at_call 18|go_at_call 36|go_at_call 21|go_at_call 23|go_at_call 27|go_at_call 29|go_at_call 32|go_at_call 38|go_at_call 100);refine(HP.out x hmem _ hRx).cps ?_;(repeat(apply Exists.intro));refine⟨?_,?_,?_,?_⟩;(·exact aA);(·exact aK);(·exact hlen);intro vN wN hS;(try clear hQ);have hQ:=St.fq hS)|fail
   exact Uv
  ·exact Vr
):p:=h
set_option maxRecDepth 100000
set_option maxHeartbeats 3200000
theorem I2:F7 Tryz.prog 1 78 14:=QK
theorem Ja:qg Tryz.prog 21 80 16:=xL
theorem JX:qg Tryz.prog 3 84 18:=xL
theorem KB:qg Tryz.prog 3 84 36:=xL
theorem HY:qg Tryz.prog 10 86 21:=xL
theorem Iu:qg Tryz.prog 4 88 23:=xL
theorem Hj:F7 Tryz.prog 1 89 25:=QK
theorem JG:qg Tryz.prog 6 90 27:=xL
theorem IY:qg Tryz.prog 3 91 29:=xL
theorem Eo:qg Tryz.prog 8 92 32:=xL
theorem IG:qg Tryz.prog 4 101 38:=xL
theorem Ks:F7 Tryz.prog 1 95 87:=QK
theorem KP:F7 Tryz.prog 1 95 96:=QK
theorem IR:qg Tryz.prog 5 99 100:=xL
theorem oQ {w:World} {v sv:Value} {Q:Ending→World→Prop} (h:∃S w0 G G' G2 xs s,St S w0 w G∧bg G (.own 5 1 (v) (xs).length ((xs).map B)) G'∧bg G' (.own 5 1 (sv) (s).length ((s).map B)) G2∧s.length≤35184372088832∧xs.length≤35184372088832∧∀v' w',St S w0 w' (.own 5 1 (v') (xs++aX s).length ((xs++aX s).map B):: .own 5 1 (sv) (s).length ((s).map B)::G2)→Q (.returned v') w'):Calls Tryz.prog 30 #[v,sv] w Q:=by
 obtain⟨S,w0,G,G',G2,xs,s,h1,h2,h3,h4,h5,h6⟩:=h
 have a1:=h1.pick h2
 exact(Jl ((a1.pick (.there h3)).pick (.there .here)) h4 h5).mono fun e w' ⟨v',e1,e2⟩=>e1▸h6 v' w' e2
abbrev R0 (P:Program) (k:Nat) (id:UInt8) (n:Int) (F f:FuncId):Prop:=∀{α:Type} {R:α→List Value→World→Prop} (_:uO R k) {p:α→List UInt8} {w0 w:World} {G:List bt} {v0 sv:Value} {xs:List UInt8} {l:List α} (_:St [] w0 w (.own 5 1 (v0) (xs).length ((xs).map B)::G)) (_:an k R sv l w0) (_:xs.length+(bO id l p).length≤35184372088000)
 (_:∀x∈l,∀v,R x [v] w0→d9 P f w0 (v) (p x) 35184372088832),
 Calls P F #[v0,.int .u8 n,sv,.func (.func f) #[] #[]] w fun e w'=>∃v',e= .returned v'∧St [] w0 w' (.own 5 1 (v') (xs++bO id l p).length ((xs++bO id l p).map B)::G)
abbrev sf (P:Program) (k:Nat) (id:UInt8) (n:Int) (F f:FuncId):Prop:=∀{α:Type} {R:α→List Value→World→Prop} (_:uO R k) {p:α→List UInt8} {w0 w:World} {G:List bt} {v0 sv:Value} {xs:List UInt8} {l:List α} (_:St [] w0 w (.own 5 1 (v0) (xs).length ((xs).map B)::G)) (_:an k R sv l w0) (_:xs.length+(bO id l p).length≤35184372088000)
 (_:∀x∈l,∀c,R x c w0→d9 P f w0 (.agg c.toArray) (p x) 35184372088832),
 Calls P F #[v0,.int .u8 n,sv,.func (.func f) #[] #[]] w fun e w'=>∃v',e= .returned v'∧St [] w0 w' (.own 5 1 (v') (xs++bO id l p).length ((xs++bO id l p).map B)::G)
theorem M1 {α:Type} (id:UInt8) (l:List α) (p:α→List UInt8) (h0:¬l.length=0):(bO id l p).length=1+(aI (ae p l).length).length+(ae p l).length:=by
 unfold bO aX
 rw[if_neg h0]
 simp
 omega
theorem LQ {P:Program} {F:FuncId} {v0 sv fn:Value} {n:Int} {w w0:World} {G:List bt} {id:UInt8} {α:Type} {l:List α} {p:α→List UInt8} {xs:List UInt8} (h0:¬l.length=0) (hid:id=UInt8.ofNat n.toNat)
 (k:Calls P F #[v0,.int .u8 n,sv,fn] w fun e w'=>∃v',e= .returned v'∧St [] w0 w' (.own 5 1 (v') (xs++ [UInt8.ofNat n.toNat]++aX (ae p l)).length ((xs++ [UInt8.ofNat n.toNat]++aX (ae p l)).map B)::G)):
 Calls P F #[v0,.int .u8 n,sv,fn] w fun e w'=>∃v',e= .returned v'∧St [] w0 w' (.own 5 1 (v') (xs++bO id l p).length ((xs++bO id l p).map B)::G):=by
 have e:xs++bO id l p=xs++ [UInt8.ofNat n.toNat]++aX (ae p l):=by unfold bO;rw[if_neg h0,hid];simp
 rw[e]
 exact k
theorem Op {p:Prop} (h:p:=by
 intro hR p w0 w G v0 sv xs l hS h hl hp
 have hh:=h
 obtain⟨a,cap,rfl⟩:=h.shape
 have HP:=Lib.hid hp
 clear hp
 by_cases h0:l.length=0
 ·have q:(((l.length:Nat):Int)==0)=true:=by simp[h0]
  have e:∀id,xs++bO id l p=xs:=fun id=>by unfold bO;rw[if_pos h0,List.append_nil]
  rw[e]
  clear e h0 hl
  first|(go_at_call 13;go_enter Tryz.func13,Tryz.ntmps13)|(go_at_call 15;go_enter Tryz.func15,Tryz.ntmps15)|(go_at_call 17;go_enter Tryz.func17,Tryz.ntmps17)|(go_at_call 20;go_enter Tryz.func20,Tryz.ntmps20)|(go_at_call 22;go_enter Tryz.func22,Tryz.ntmps22)|(go_at_call 24;go_enter Tryz.func24,Tryz.ntmps24)|(go_at_call 26;go_enter Tryz.func26,Tryz.ntmps26)|(go_at_call 28;go_enter Tryz.func28,Tryz.ntmps28)|(go_at_call 31;go_enter Tryz.func31,Tryz.ntmps31)|(go_at_call 37;go_enter Tryz.func37,Tryz.ntmps37)
  go_wp2
  go_ret
  exact⟨_,rfl,hS⟩
 ·have q:(((l.length:Nat):Int)==0)=false:=by simpa using h0
  rw[M1 _ l p h0]at hl
  have hl2:(ae p l).length≤35184372088832:=by omega
  have hl3:([]:List UInt8).length+(ae p l).length≤35184372088832:=by simpa using hl2
  have hx1:xs.length≤35184372088000:=by omega
  refine LQ h0 rfl ?_
  clear h0 hl
  first|(go_at_call 13;go_enter Tryz.func13,Tryz.ntmps13)|(go_at_call 15;go_enter Tryz.func15,Tryz.ntmps15)|(go_at_call 17;go_enter Tryz.func17,Tryz.ntmps17)|(go_at_call 20;go_enter Tryz.func20,Tryz.ntmps20)|(go_at_call 22;go_enter Tryz.func22,Tryz.ntmps22)|(go_at_call 24;go_enter Tryz.func24,Tryz.ntmps24)|(go_at_call 26;go_enter Tryz.func26,Tryz.ntmps26)|(go_at_call 28;go_enter Tryz.func28,Tryz.ntmps28)|(go_at_call 31;go_enter Tryz.func31,Tryz.ntmps31)|(go_at_call 37;go_enter Tryz.func37,Tryz.ntmps37)
  go_wp2_with first|(at_builtin;(try clear hQ);refine wb fun vN wN hS hQ=> ?_)|((first|go_at_call 78|go_at_call 80|go_at_call 84|go_at_call 86|go_at_call 88|go_at_call 89|go_at_call 90|go_at_call 91|go_at_call 92|go_at_call 101);(first|(go_at_call 78;with_reducible refine(I2 hR (p:=p) (xs:= []) (St.dst (G:= _) (by exact aA) (.nil rfl)) hh (N:=35184372088832) (by decide) hl3 HP.out).mono ?_)|(go_at_call 80;with_reducible refine(Ja hR (p:=p) (xs:= []) (St.dst (G:= _) (by exact aA) (.nil rfl)) hh (N:=35184372088832) (by decide) hl3 HP.out).mono ?_)|(go_at_call 84;with_reducible refine(JX hR (p:=p) (xs:= []) (St.dst (G:= _) (by exact aA) (.nil rfl)) hh (N:=35184372088832) (by decide) hl3 HP.out).mono ?_)|(go_at_call 86;with_reducible refine(HY hR (p:=p) (xs:= []) (St.dst (G:= _) (by exact aA) (.nil rfl)) hh (N:=35184372088832) (by decide) hl3 HP.out).mono ?_)|(go_at_call 88;with_reducible refine(Iu hR (p:=p) (xs:= []) (St.dst (G:= _) (by exact aA) (.nil rfl)) hh (N:=35184372088832) (by decide) hl3 HP.out).mono ?_)|(go_at_call 89;with_reducible refine(Hj hR (p:=p) (xs:= []) (St.dst (G:= _) (by exact aA) (.nil rfl)) hh (N:=35184372088832) (by decide) hl3 HP.out).mono ?_)|(go_at_call 90;with_reducible refine(JG hR (p:=p) (xs:= []) (St.dst (G:= _) (by exact aA) (.nil rfl)) hh (N:=35184372088832) (by decide) hl3 HP.out).mono ?_)|(go_at_call 91;with_reducible refine(IY hR (p:=p) (xs:= []) (St.dst (G:= _) (by exact aA) (.nil rfl)) hh (N:=35184372088832) (by decide) hl3 HP.out).mono ?_)|(go_at_call 92;with_reducible refine(Eo hR (p:=p) (xs:= []) (St.dst (G:= _) (by exact aA) (.nil rfl)) hh (N:=35184372088832) (by decide) hl3 HP.out).mono ?_)|(go_at_call 84;with_reducible refine(KB hR (p:=p) (xs:= []) (St.dst (G:= _) (by exact aA) (.nil rfl)) hh (N:=35184372088832) (by decide) hl3 HP.out).mono ?_)|(go_at_call 101;with_reducible refine(IG hR (p:=p) (xs:= []) (St.dst (G:= _) (by exact aA) (.nil rfl)) hh (N:=35184372088832) (by decide) hl3 HP.out).mono ?_));rintro e w4 ⟨v4,rfl,hS⟩;rw[List.nil_append]at hS;(try clear hQ);have hQ:=St.fq hS)|(go_at_call 30;refine oQ ?_;(repeat(apply Exists.intro));refine⟨?_,?_,?_,?_,?_,?_⟩;(·exact aA);(·exact aK);(·exact aK);(·exact hl2);(·exact bS);intro vN wN hS;(try clear hQ);have hQ:=St.fq hS)|fail
  exact sz
):p:=h
theorem rC:R0 Tryz.prog 1 1 1 13 14:=Op
theorem rf:sf Tryz.prog 21 2 2 15 16:=Op
theorem rx:sf Tryz.prog 3 3 3 17 18:=Op
theorem rL:sf Tryz.prog 10 4 4 20 21:=Op
theorem ro:sf Tryz.prog 4 5 5 22 23:=Op
theorem sh:R0 Tryz.prog 1 13 13 24 25:=Op
theorem rV:sf Tryz.prog 6 6 6 26 27:=Op
theorem su:sf Tryz.prog 3 7 7 28 29:=Op
theorem py:sf Tryz.prog 8 9 9 31 32:=Op
theorem rQ:sf Tryz.prog 3 10 10 17 36:=Op
theorem sj:sf Tryz.prog 4 11 11 37 38:=Op
theorem Vs {p:Prop} [Decidable p] (a:Bool) (w:World):(if p then(Result.ok (Value.bool a) w:Result Value)else Result.ok (Value.bool true) w)=Result.ok (Value.bool (!decide p||a)) w:=by
 by_cases h:p<;>simp[h]
theorem Il (a0 b0:Int) (a1 b1:Bool) (a2 b2:Int) (a3 b3:Int) (w:World):(binOp .neq 61 (.agg #[.int .i64 a0,.bool a1,.int .i64 a2,.int .i64 a3]) (.agg #[.int .i64 b0,.bool b1,.int .i64 b2,.int .i64 b3])).run Tryz.prog w= .ok (.bool (!(decide (a0=b0)&&(decide (a1=b1)&&(decide (a2=b2)&&(decide (a3=b3))))))) w:=by
 exact Oa
theorem TK {w:World} {o:Oper} {a:Act} {K:Act→World→Prop} {Q:Exit→Act→World→Prop} {t t2:TypeId} {x y:Operand} {A B:Array Value} {r:Bool} (hT:Tryz.prog.eqGuardType Tryz.prog.depth t=false) (ho:o.op= .binOp .neq t x y t2) (hx:a.eval x= .agg A) (hy:a.eval y= .agg B) (hr:(binOp .neq t (.agg A) (.agg B)).run Tryz.prog w= .ok (.bool r) w) (h:K (a.put o.dst (.bool r)) w):o.wp Tryz.prog a w K Q:=by
 have hg:(eqGuard .neq t x y (.agg A) (.agg B)).run Tryz.prog w= .ok () w:=by
  exact Sk
 exact WA
theorem Rh {w:World} {ops:Array Oper} {rest:List Oper} {o:Oper} {a:Act} {Q:Exit→Act→World→Prop} {t t2:TypeId} {x y:Operand} {A B:Array Value} {r:Bool} {j:Nat} (hT:Tryz.prog.eqGuardType Tryz.prog.depth t=false) (hgd:o.guard=some (j,true)) (hj:yielded ops a.tmps j=some true) (ho:o.op= .binOp .neq t x y t2) (hx:a.eval x= .agg A) (hy:a.eval y= .agg B) (hr:(binOp .neq t (.agg A) (.agg B)).run Tryz.prog w= .ok (.bool r) w) (h:wpList Tryz.prog ops Q rest (a.put o.dst (.bool r)) w):wpList Tryz.prog ops Q (o::rest) a w:=
 wpList_step fun K hK=>by
  rw[if_pos (by simp[Region.wanted,hgd,hj])]
  exact TK hT ho hx hy hr (hK _ _ h)
theorem fE {e:eb} {c:Nat} {nm:Bool} (hn:aG e=nm) (hc:cf e=c):cw e=UInt8.ofNat c::((if c% 4=2 then au e.table else [])++(if e.mode=1 then al e.offset else [])++
 (if nm=true then(if c≠0 then [0]else [])++ae ch e.inits else(if c≠4 then es e.type else [])++ae al e.inits)):=by
 subst hn hc
 rfl
theorem Iv {w0:World} (l:List aa) (v0:Value) (h:eo v0 l w0) (hn:cW l=true) (hx:∀i,i∈l→0≤i.x∧i.x<9223372036854775808):d9 Tryz.prog 96 w0 v0 (ch l) 70368744177000:=by
 intro G w v xs hS hl
 obtain⟨a,c,rfl⟩:=an.shape h
 unfold cW at hn
 simp only[Bool.and_eq_true,decide_eq_true_eq]at hn
 obtain⟨t,rfl⟩:=List.length_eq_one_iff.1 hn.1
 have h0:=hx t (by simp)
 clear hn hx
 obtain⟨b,off,cap,cc,hv,hb,⟨tv,lv,cv,rfl,_⟩,_,hc⟩:=an.elem (eo.fr h hS.fr) (fun x c h=>no.len x c _ h) (i:=0) (x:=t) rfl
 injection hv with hv1 _ hv3
 subst hv1 hv3
 have e0:=hc 1 (by decide)
 simp only[Nat.zero_mul,Nat.zero_add,cp,List.getElem?_cons_succ,List.getElem?_cons_zero]at e0
 have e:ch [t]=au t.x:=rfl
 rw[e]
 clear hc h e
 go_enter Tryz.func96,Tryz.ntmps96
 go_wp2_with first|(go_at_call 19;refine ki ?_;refine sC ?_;intro vN wN hS;(try clear hQ);have hQ:=St.fq hS)
 exact sz
theorem Tk (p q:Nat):((p:Int)=(q:Int))↔p=q:=by omega
theorem kt {ops:Array Oper} {S:World→Prop} {o:Oper} {a:Act} {t t2:TypeId} {x y:Operand} {A B:Array Value} {r:Bool} (hT:Tryz.prog.eqGuardType Tryz.prog.depth t=false) (hgd:o.guard=none) (ho:o.op= .binOp .neq t x y t2) (hx:a.eval x= .agg A) (hy:a.eval y= .agg B) (hr:∀w,(binOp .neq t (.agg A) (.agg B)).run Tryz.prog w= .ok (.bool r) w):YieldsIf Tryz.prog ops S o (.bool r) a:=by
 refine Or.inl ⟨by simp[Region.wanted,hgd],fun w _=> ?_⟩
 have hg:(eqGuard .neq t x y (.agg A) (.agg B)).run Tryz.prog w= .ok () w:=by
  exact Sk
 unfold execOp
 simp only[ho,hx,hy,Sem.run_bind,hg,hr w,Result.andThen_ok,Sem.run_pure]
theorem PJ (a0 b0:Bool) (a1 b1:Int) (a2 b2:Int) (a3 b3:Bool) (w:World):(binOp .neq 50 (.agg #[.bool a0,.int .u64 a1,.int .u64 a2,.bool a3]) (.agg #[.bool b0,.int .u64 b1,.int .u64 b2,.bool b3])).run Tryz.prog w= .ok (.bool (!(decide (a0=b0)&&(decide (a1=b1)&&(decide (a2=b2)&&(decide (a3=b3))))))) w:=by
 exact Oa
theorem Rk (x y:eA) (w:World):(binOp .neq 50 (.agg (du x).toArray) (.agg (du y).toArray)).run Tryz.prog w= .ok (.bool (!decide (x=y))) w:=by
 obtain⟨a,b,c,d⟩:=x
 obtain⟨a',b',c',d'⟩:=y
 refine(PJ a a' b b' c c' d d' w).trans ?_
 congr 3
 rw[Bool.eq_iff_iff]
 simp[Tk]
theorem F8 {p:Prop} (h:p:=by
 have Hq:=Lib.hid hq
 clear hq hx hy hd1 hd2
 go_upto_region 6 with fail
 refine wp_region_held_drew (S:=fun w'=>w'.rangeAt b1 (o1+i*4) (du x)∧w'.rangeAt b2 (o2+i*4) (du y)) (by kernel_rfl) ⟨fun r v h=>(((Fr.refl [] wr).drew).cell hb1 (by simp) _).trans (hRow1 r v h),fun r v h=>(((Fr.refl [] wr).drew).cell hb2 (by simp) _).trans (hRow2 r v h)⟩ (fun hr=> ?_)
 (refine wpAnyH_take (i:=0) (v:= .slice (some ⟨b1,o1,none⟩) xs.length c1) rfl (by kernel_rfl) (by kernel_rfl) (by kernel_rfl) (fun _ _ _ h=>h) (Or.inl ⟨by rfl,fun _ _=>by go_simp⟩) hr ?_;simp only[Act.put,List.getElem_toArray,List.getElem_cons_succ,List.getElem_cons_zero,List.setIfInBounds_toArray,List.set_cons_zero,List.set_cons_succ])
 (refine wpAnyH_take (i:=1) (v:= .int .i64 i) rfl (by kernel_rfl) (by kernel_rfl) (by kernel_rfl) (fun _ _ _ h=>h) (Or.inl ⟨by rfl,fun _ _=>by go_simp⟩) hr ?_;simp only[Act.put,List.getElem_toArray,List.getElem_cons_succ,List.getElem_cons_zero,List.setIfInBounds_toArray,List.set_cons_zero,List.set_cons_succ])
 (refine wpAnyH_take (i:=2) (v:= .pointer (some ⟨b1,o1+i*4,none⟩)) rfl (by kernel_rfl) (by kernel_rfl) (by kernel_rfl) (fun _ _ _ h=>h) (Or.inl ⟨by rfl,fun _ _=>by go_simp⟩) hr ?_;simp only[Act.put,List.getElem_toArray,List.getElem_cons_succ,List.getElem_cons_zero,List.setIfInBounds_toArray,List.set_cons_zero,List.set_cons_succ])
 refine wpAnyH_take (i:=3) (v:= .agg (du x).toArray) rfl (by kernel_rfl) (by kernel_rfl) (by kernel_rfl) (fun _ _ _ h=>h) (yieldsIf_load_mid rfl 50 _ rfl b1 (o1+i*4) rfl (du x) _ (fun _ h=>h.1) mr rfl jX) hr ?_
 simp only[Act.put,List.getElem_toArray,List.getElem_cons_succ,List.getElem_cons_zero,List.setIfInBounds_toArray,List.set_cons_zero,List.set_cons_succ]
 (refine wpAnyH_take (i:=4) (v:= .slice (some ⟨b2,o2,none⟩) ys.length c2) rfl (by kernel_rfl) (by kernel_rfl) (by kernel_rfl) (fun _ _ _ h=>h) (Or.inl ⟨by rfl,fun _ _=>by go_simp⟩) hr ?_;simp only[Act.put,List.getElem_toArray,List.getElem_cons_succ,List.getElem_cons_zero,List.setIfInBounds_toArray,List.set_cons_zero,List.set_cons_succ])
 (refine wpAnyH_take (i:=5) (v:= .int .i64 i) rfl (by kernel_rfl) (by kernel_rfl) (by kernel_rfl) (fun _ _ _ h=>h) (Or.inl ⟨by rfl,fun _ _=>by go_simp⟩) hr ?_;simp only[Act.put,List.getElem_toArray,List.getElem_cons_succ,List.getElem_cons_zero,List.setIfInBounds_toArray,List.set_cons_zero,List.set_cons_succ])
 (refine wpAnyH_take (i:=6) (v:= .pointer (some ⟨b2,o2+i*4,none⟩)) rfl (by kernel_rfl) (by kernel_rfl) (by kernel_rfl) (fun _ _ _ h=>h) (Or.inl ⟨by rfl,fun _ _=>by go_simp⟩) hr ?_;simp only[Act.put,List.getElem_toArray,List.getElem_cons_succ,List.getElem_cons_zero,List.setIfInBounds_toArray,List.set_cons_zero,List.set_cons_succ])
 refine wpAnyH_take (i:=7) (v:= .agg (du y).toArray) rfl (by kernel_rfl) (by kernel_rfl) (by kernel_rfl) (fun _ _ _ h=>h) (yieldsIf_load_mid rfl 50 _ rfl b2 (o2+i*4) rfl (du y) _ (fun _ h=>h.2) mr rfl jX) hr ?_
 simp only[Act.put,List.getElem_toArray,List.getElem_cons_succ,List.getElem_cons_zero,List.setIfInBounds_toArray,List.set_cons_zero,List.set_cons_succ]
 refine wpAnyH_take (i:=8) (v:= .bool (!decide (x=y))) rfl (by kernel_rfl) (by kernel_rfl) (by kernel_rfl) (fun _ _ _ h=>h) (kt (A:=(du x).toArray) (B:=(du y).toArray) TN rfl rfl rfl rfl (fun w=>Rk x y w)) hr ?_
 exact WI
):p:=h
theorem Q3 {w:World} {va vb:Value} {xs ys:List eA} (h1:an 4 (aE du) va xs w) (h2:an 4 (aE du) vb ys w):
 Calls Tryz.prog 47 #[va,vb] w fun e w'=>e= .returned (.bool (decide (xs=ys)))∧Fr [] w w':=by
 have hh1:=h1
 have hh2:=h2
 obtain⟨a1,c1,rfl,hl⟩:∃a cap,va= .slice a xs.length cap∧xs.length≤9223372036854775807:=by
  exact R7
 obtain⟨a2,c2,rfl⟩:=an.shape h2
 clear h1 h2
 by_cases hlen:xs.length=ys.length
 ·have q:((((xs.length:Nat):Int)) !=((ys.length:Nat):Int))=false:=by simp[hlen]
  have Hlen:=Lib.hid hlen
  clear hlen
  go_enter Tryz.func47,Tryz.ntmps47
  go_wp2
  go_loopw [13] (fun n wr=>∃(i:Nat),n= .int .i64 i∧i≤xs.length∧Fr [] w wr∧Hid (xs.take i=ys.take i)) (fun n _=>xs.length-(intOf n).toNat)
  case atStart=>exact⟨0,rfl,by omega,Fr.refl _ _,Lib.hid rfl⟩
  case round=>
   obtain⟨i,rfl,hi,hF,ht⟩:=hrel
   by_cases hlt:i<xs.length
   ·have hlt2:i<ys.length:=by have:=Hlen.out;omega
    obtain⟨x,hx⟩:∃t,xs[i]? =some t:=⟨xs[i],by simp[hlt]⟩
    obtain⟨y,hy⟩:∃t,ys[i]? =some t:=⟨ys[i]'hlt2,by simp[hlt2]⟩
    obtain⟨b1,o1,p1,c,hv1,hb1,hR1,_,hd1⟩:=an.elem (an.fr fR.fr hh1 hF) (fun x c h=>fR.len x c _ h) hx
    obtain⟨b2,o2,p2,d,hv2,hb2,hR2,_,hd2⟩:=an.elem (an.fr fR.fr hh2 hF) (fun x c h=>fR.len x c _ h) hy
    obtain rfl:c=du x:=hR1
    obtain rfl:d=du y:=hR2
    injection hv1 with e1 _ e3
    injection hv2 with e4 _ e6
    subst e1 e3 e4 e6
    have i1:(i:Int)< (xs.length:Int):=by omega
    have i2:(i:Int)< (ys.length:Int):=by omega
    have hRow1:=jL (k:=4) (c:=du x) rfl (fun r hr=>(hd1 r hr))
    have hRow2:=jL (k:=4) (c:=du y) rfl (fun r hr=>(hd2 r hr))
    cases hp:decide (x=y)with
    |false=>
     have Hne:=Lib.hid (jB hx hy (by simpa using hp))
     have hq:(!decide (x=y))=true:=by rw[hp];rfl
     clear hp
     exact F8
    |true=>
     have HI2:=Lib.hid (jQ ht.out hx hy (by simpa using hp))
     have hq:(!decide (x=y))=false:=by rw[hp];rfl
     clear hp
     exact F8
   ·exact VN
 ·exact VL
theorem Qp (a0 b0:Int) (a1 b1:Int) (a2 b2:Bool) (a3 b3:Int) (a4 b4:Int) (w:World):(binOp .neq 182 (.agg #[.int .i64 a0,.int .i64 a1,.bool a2,.int .i64 a3,.int .i64 a4]) (.agg #[.int .i64 b0,.int .i64 b1,.bool b2,.int .i64 b3,.int .i64 b4])).run Tryz.prog w= .ok (.bool (!(decide (a0=b0)&&(decide (a1=b1)&&(decide (a2=b2)&&(decide (a3=b3)&&(decide (a4=b4)))))))) w:=by
 exact Oa
theorem QT (x y:fN) (w:World):(binOp .neq 182 (.agg (fk x).toArray) (.agg (fk y).toArray)).run Tryz.prog w= .ok (.bool (!decide (x=y))) w:=by
 obtain⟨a,⟨b,c,⟨d,e⟩⟩⟩:=x
 obtain⟨a',⟨b',c',⟨d',e'⟩⟩⟩:=y
 refine(Qp a a' b b' c c' d d' e e' w).trans ?_
 congr 3
 rw[Bool.eq_iff_iff]
 simp[and_assoc]
theorem Gb {p:Prop} (h:p:=by
 have Hq:=Lib.hid hq
 clear hq hx hy hd1 hd2
 go_upto_region 6 with fail
 refine wp_region_held_drew (S:=fun w'=>w'.rangeAt b1 (o1+i*5) (fk x)∧w'.rangeAt b2 (o2+i*5) (fk y)) (by kernel_rfl) ⟨fun r v h=>(((Fr.refl [] wr).drew).cell hb1 (by simp) _).trans (hRow1 r v h),fun r v h=>(((Fr.refl [] wr).drew).cell hb2 (by simp) _).trans (hRow2 r v h)⟩ (fun hr=> ?_)
 (refine wpAnyH_take (i:=0) (v:= .slice (some ⟨b1,o1,none⟩) xs.length c1) rfl (by kernel_rfl) (by kernel_rfl) (by kernel_rfl) (fun _ _ _ h=>h) (Or.inl ⟨by rfl,fun _ _=>by go_simp⟩) hr ?_;simp only[Act.put,List.getElem_toArray,List.getElem_cons_succ,List.getElem_cons_zero,List.setIfInBounds_toArray,List.set_cons_zero,List.set_cons_succ])
 (refine wpAnyH_take (i:=1) (v:= .int .i64 i) rfl (by kernel_rfl) (by kernel_rfl) (by kernel_rfl) (fun _ _ _ h=>h) (Or.inl ⟨by rfl,fun _ _=>by go_simp⟩) hr ?_;simp only[Act.put,List.getElem_toArray,List.getElem_cons_succ,List.getElem_cons_zero,List.setIfInBounds_toArray,List.set_cons_zero,List.set_cons_succ])
 (refine wpAnyH_take (i:=2) (v:= .pointer (some ⟨b1,o1+i*5,none⟩)) rfl (by kernel_rfl) (by kernel_rfl) (by kernel_rfl) (fun _ _ _ h=>h) (Or.inl ⟨by rfl,fun _ _=>by go_simp⟩) hr ?_;simp only[Act.put,List.getElem_toArray,List.getElem_cons_succ,List.getElem_cons_zero,List.setIfInBounds_toArray,List.set_cons_zero,List.set_cons_succ])
 refine wpAnyH_take (i:=3) (v:= .agg (fk x).toArray) rfl (by kernel_rfl) (by kernel_rfl) (by kernel_rfl) (fun _ _ _ h=>h) (yieldsIf_load_mid rfl 182 _ rfl b1 (o1+i*5) rfl (fk x) _ (fun _ h=>h.1) AK rfl wH) hr ?_
 simp only[Act.put,List.getElem_toArray,List.getElem_cons_succ,List.getElem_cons_zero,List.setIfInBounds_toArray,List.set_cons_zero,List.set_cons_succ]
 (refine wpAnyH_take (i:=4) (v:= .slice (some ⟨b2,o2,none⟩) ys.length c2) rfl (by kernel_rfl) (by kernel_rfl) (by kernel_rfl) (fun _ _ _ h=>h) (Or.inl ⟨by rfl,fun _ _=>by go_simp⟩) hr ?_;simp only[Act.put,List.getElem_toArray,List.getElem_cons_succ,List.getElem_cons_zero,List.setIfInBounds_toArray,List.set_cons_zero,List.set_cons_succ])
 (refine wpAnyH_take (i:=5) (v:= .int .i64 i) rfl (by kernel_rfl) (by kernel_rfl) (by kernel_rfl) (fun _ _ _ h=>h) (Or.inl ⟨by rfl,fun _ _=>by go_simp⟩) hr ?_;simp only[Act.put,List.getElem_toArray,List.getElem_cons_succ,List.getElem_cons_zero,List.setIfInBounds_toArray,List.set_cons_zero,List.set_cons_succ])
 (refine wpAnyH_take (i:=6) (v:= .pointer (some ⟨b2,o2+i*5,none⟩)) rfl (by kernel_rfl) (by kernel_rfl) (by kernel_rfl) (fun _ _ _ h=>h) (Or.inl ⟨by rfl,fun _ _=>by go_simp⟩) hr ?_;simp only[Act.put,List.getElem_toArray,List.getElem_cons_succ,List.getElem_cons_zero,List.setIfInBounds_toArray,List.set_cons_zero,List.set_cons_succ])
 refine wpAnyH_take (i:=7) (v:= .agg (fk y).toArray) rfl (by kernel_rfl) (by kernel_rfl) (by kernel_rfl) (fun _ _ _ h=>h) (yieldsIf_load_mid rfl 182 _ rfl b2 (o2+i*5) rfl (fk y) _ (fun _ h=>h.2) AK rfl wH) hr ?_
 simp only[Act.put,List.getElem_toArray,List.getElem_cons_succ,List.getElem_cons_zero,List.setIfInBounds_toArray,List.set_cons_zero,List.set_cons_succ]
 refine wpAnyH_take (i:=8) (v:= .bool (!decide (x=y))) rfl (by kernel_rfl) (by kernel_rfl) (by kernel_rfl) (fun _ _ _ h=>h) (kt (A:=(fk x).toArray) (B:=(fk y).toArray) SF rfl rfl rfl rfl (fun w=>QT x y w)) hr ?_
 exact WI
):p:=h
theorem Rt {w:World} {va vb:Value} {xs ys:List fN} (h1:an 5 (aE fk) va xs w) (h2:an 5 (aE fk) vb ys w):
 Calls Tryz.prog 110 #[va,vb] w fun e w'=>e= .returned (.bool (decide (xs=ys)))∧Fr [] w w':=by
 have hh1:=h1
 have hh2:=h2
 obtain⟨a1,c1,rfl,hl⟩:∃a cap,va= .slice a xs.length cap∧xs.length≤9223372036854775807:=by
  exact R7
 obtain⟨a2,c2,rfl⟩:=an.shape h2
 clear h1 h2
 by_cases hlen:xs.length=ys.length
 ·have q:((((xs.length:Nat):Int)) !=((ys.length:Nat):Int))=false:=by simp[hlen]
  have Hlen:=Lib.hid hlen
  clear hlen
  go_enter Tryz.func110,Tryz.ntmps110
  go_wp2
  go_loopw [13] (fun n wr=>∃(i:Nat),n= .int .i64 i∧i≤xs.length∧Fr [] w wr∧Hid (xs.take i=ys.take i)) (fun n _=>xs.length-(intOf n).toNat)
  case atStart=>exact⟨0,rfl,by omega,Fr.refl _ _,Lib.hid rfl⟩
  case round=>
   obtain⟨i,rfl,hi,hF,ht⟩:=hrel
   by_cases hlt:i<xs.length
   ·have hlt2:i<ys.length:=by have:=Hlen.out;omega
    obtain⟨x,hx⟩:∃t,xs[i]? =some t:=⟨xs[i],by simp[hlt]⟩
    obtain⟨y,hy⟩:∃t,ys[i]? =some t:=⟨ys[i]'hlt2,by simp[hlt2]⟩
    obtain⟨b1,o1,p1,c,hv1,hb1,hR1,_,hd1⟩:=an.elem (an.fr ik.fr hh1 hF) (fun x c h=>ik.len x c _ h) hx
    obtain⟨b2,o2,p2,d,hv2,hb2,hR2,_,hd2⟩:=an.elem (an.fr ik.fr hh2 hF) (fun x c h=>ik.len x c _ h) hy
    obtain rfl:c=fk x:=hR1
    obtain rfl:d=fk y:=hR2
    injection hv1 with e1 _ e3
    injection hv2 with e4 _ e6
    subst e1 e3 e4 e6
    have i1:(i:Int)< (xs.length:Int):=by omega
    have i2:(i:Int)< (ys.length:Int):=by omega
    have hRow1:=jL (k:=5) (c:=fk x) rfl (fun r hr=>(hd1 r hr))
    have hRow2:=jL (k:=5) (c:=fk y) rfl (fun r hr=>(hd2 r hr))
    cases hp:decide (x=y)with
    |false=>
     have Hne:=Lib.hid (jB hx hy (by simpa using hp))
     have hq:(!decide (x=y))=true:=by rw[hp];rfl
     clear hp
     exact Gb
    |true=>
     have HI2:=Lib.hid (jQ ht.out hx hy (by simpa using hp))
     have hq:(!decide (x=y))=false:=by rw[hp];rfl
     clear hp
     exact Gb
   ·exact VN
 ·exact VL
theorem QO (a0 b0:ByteArray) (a1 b1:Int) (a2 b2:Int) (w:World):(binOp .neq 97 (.agg #[.string a0,.int .i64 a1,.int .i64 a2]) (.agg #[.string b0,.int .i64 b1,.int .i64 b2])).run Tryz.prog w= .ok (.bool (!(decide (a0.toList=b0.toList)&&(decide (a1=b1)&&(decide (a2=b2)))))) w:=by
 exact Oa
theorem xd {a b:List UInt8}:((⟨a.toArray⟩:ByteArray).toList=(⟨b.toArray⟩:ByteArray).toList)↔a=b:=by
 constructor
 ·intro h
  have e:∀l:List UInt8,(⟨l.toArray⟩:ByteArray).toList=l:=fun l=>ByteArray.toList_mk l
  rw[e,e]at h
  exact h
 ·rintro rfl
  rfl
theorem Q4 (x y:kB) (w:World):(binOp .neq 97 (.agg (gw x).toArray) (.agg (gw y).toArray)).run Tryz.prog w= .ok (.bool (!decide (x=y))) w:=by
 obtain⟨a,b,c⟩:=x
 obtain⟨a',b',c'⟩:=y
 refine(QO ⟨a.toArray⟩ ⟨a'.toArray⟩ b b' c c' w).trans ?_
 congr 3
 rw[Bool.eq_iff_iff]
 simp only[Bool.and_eq_true,decide_eq_true_eq,xd,kB.mk.injEq]
theorem GD {p:Prop} (h:p:=by
 have Hq:=Lib.hid hq
 clear hq hx hy hd1 hd2
 go_upto_region 6 with fail
 refine wp_region_held_drew (S:=fun w'=>w'.rangeAt b1 (o1+i*3) (gw x)∧w'.rangeAt b2 (o2+i*3) (gw y)) (by kernel_rfl) ⟨fun r v h=>(((Fr.refl [] wr).drew).cell hb1 (by simp) _).trans (hRow1 r v h),fun r v h=>(((Fr.refl [] wr).drew).cell hb2 (by simp) _).trans (hRow2 r v h)⟩ (fun hr=> ?_)
 (refine wpAnyH_take (i:=0) (v:= .slice (some ⟨b1,o1,none⟩) xs.length c1) rfl (by kernel_rfl) (by kernel_rfl) (by kernel_rfl) (fun _ _ _ h=>h) (Or.inl ⟨by rfl,fun _ _=>by go_simp⟩) hr ?_;simp only[Act.put,List.getElem_toArray,List.getElem_cons_succ,List.getElem_cons_zero,List.setIfInBounds_toArray,List.set_cons_zero,List.set_cons_succ])
 (refine wpAnyH_take (i:=1) (v:= .int .i64 i) rfl (by kernel_rfl) (by kernel_rfl) (by kernel_rfl) (fun _ _ _ h=>h) (Or.inl ⟨by rfl,fun _ _=>by go_simp⟩) hr ?_;simp only[Act.put,List.getElem_toArray,List.getElem_cons_succ,List.getElem_cons_zero,List.setIfInBounds_toArray,List.set_cons_zero,List.set_cons_succ])
 (refine wpAnyH_take (i:=2) (v:= .pointer (some ⟨b1,o1+i*3,none⟩)) rfl (by kernel_rfl) (by kernel_rfl) (by kernel_rfl) (fun _ _ _ h=>h) (Or.inl ⟨by rfl,fun _ _=>by go_simp⟩) hr ?_;simp only[Act.put,List.getElem_toArray,List.getElem_cons_succ,List.getElem_cons_zero,List.setIfInBounds_toArray,List.set_cons_zero,List.set_cons_succ])
 refine wpAnyH_take (i:=3) (v:= .agg (gw x).toArray) rfl (by kernel_rfl) (by kernel_rfl) (by kernel_rfl) (fun _ _ _ h=>h) (yieldsIf_load_mid rfl 97 _ rfl b1 (o1+i*3) rfl (gw x) _ (fun _ h=>h.1) AY rfl q0r) hr ?_
 simp only[Act.put,List.getElem_toArray,List.getElem_cons_succ,List.getElem_cons_zero,List.setIfInBounds_toArray,List.set_cons_zero,List.set_cons_succ]
 (refine wpAnyH_take (i:=4) (v:= .slice (some ⟨b2,o2,none⟩) ys.length c2) rfl (by kernel_rfl) (by kernel_rfl) (by kernel_rfl) (fun _ _ _ h=>h) (Or.inl ⟨by rfl,fun _ _=>by go_simp⟩) hr ?_;simp only[Act.put,List.getElem_toArray,List.getElem_cons_succ,List.getElem_cons_zero,List.setIfInBounds_toArray,List.set_cons_zero,List.set_cons_succ])
 (refine wpAnyH_take (i:=5) (v:= .int .i64 i) rfl (by kernel_rfl) (by kernel_rfl) (by kernel_rfl) (fun _ _ _ h=>h) (Or.inl ⟨by rfl,fun _ _=>by go_simp⟩) hr ?_;simp only[Act.put,List.getElem_toArray,List.getElem_cons_succ,List.getElem_cons_zero,List.setIfInBounds_toArray,List.set_cons_zero,List.set_cons_succ])
 (refine wpAnyH_take (i:=6) (v:= .pointer (some ⟨b2,o2+i*3,none⟩)) rfl (by kernel_rfl) (by kernel_rfl) (by kernel_rfl) (fun _ _ _ h=>h) (Or.inl ⟨by rfl,fun _ _=>by go_simp⟩) hr ?_;simp only[Act.put,List.getElem_toArray,List.getElem_cons_succ,List.getElem_cons_zero,List.setIfInBounds_toArray,List.set_cons_zero,List.set_cons_succ])
 refine wpAnyH_take (i:=7) (v:= .agg (gw y).toArray) rfl (by kernel_rfl) (by kernel_rfl) (by kernel_rfl) (fun _ _ _ h=>h) (yieldsIf_load_mid rfl 97 _ rfl b2 (o2+i*3) rfl (gw y) _ (fun _ h=>h.2) AY rfl q0r) hr ?_
 simp only[Act.put,List.getElem_toArray,List.getElem_cons_succ,List.getElem_cons_zero,List.setIfInBounds_toArray,List.set_cons_zero,List.set_cons_succ]
 refine wpAnyH_take (i:=8) (v:= .bool (!decide (x=y))) rfl (by kernel_rfl) (by kernel_rfl) (by kernel_rfl) (fun _ _ _ h=>h) (kt (A:=(gw x).toArray) (B:=(gw y).toArray) SA rfl rfl rfl rfl (fun w=>Q4 x y w)) hr ?_
 exact WI
):p:=h
theorem PT {w:World} {va vb:Value} {xs ys:List kB} (h1:an 3 (aE gw) va xs w) (h2:an 3 (aE gw) vb ys w):
 Calls Tryz.prog 51 #[va,vb] w fun e w'=>e= .returned (.bool (decide (xs=ys)))∧Fr [] w w':=by
 have hh1:=h1
 have hh2:=h2
 obtain⟨a1,c1,rfl,hl⟩:∃a cap,va= .slice a xs.length cap∧xs.length≤9223372036854775807:=by
  exact R7
 obtain⟨a2,c2,rfl⟩:=an.shape h2
 clear h1 h2
 by_cases hlen:xs.length=ys.length
 ·have q:((((xs.length:Nat):Int)) !=((ys.length:Nat):Int))=false:=by simp[hlen]
  have Hlen:=Lib.hid hlen
  clear hlen
  go_enter Tryz.func51,Tryz.ntmps51
  go_wp2
  go_loopw [13] (fun n wr=>∃(i:Nat),n= .int .i64 i∧i≤xs.length∧Fr [] w wr∧Hid (xs.take i=ys.take i)) (fun n _=>xs.length-(intOf n).toNat)
  case atStart=>exact⟨0,rfl,by omega,Fr.refl _ _,Lib.hid rfl⟩
  case round=>
   obtain⟨i,rfl,hi,hF,ht⟩:=hrel
   by_cases hlt:i<xs.length
   ·have hlt2:i<ys.length:=by have:=Hlen.out;omega
    obtain⟨x,hx⟩:∃t,xs[i]? =some t:=⟨xs[i],by simp[hlt]⟩
    obtain⟨y,hy⟩:∃t,ys[i]? =some t:=⟨ys[i]'hlt2,by simp[hlt2]⟩
    obtain⟨b1,o1,p1,c,hv1,hb1,hR1,_,hd1⟩:=an.elem (an.fr gq.fr hh1 hF) (fun x c h=>gq.len x c _ h) hx
    obtain⟨b2,o2,p2,d,hv2,hb2,hR2,_,hd2⟩:=an.elem (an.fr gq.fr hh2 hF) (fun x c h=>gq.len x c _ h) hy
    obtain rfl:c=gw x:=hR1
    obtain rfl:d=gw y:=hR2
    injection hv1 with e1 _ e3
    injection hv2 with e4 _ e6
    subst e1 e3 e4 e6
    have i1:(i:Int)< (xs.length:Int):=by omega
    have i2:(i:Int)< (ys.length:Int):=by omega
    have hRow1:=jL (k:=3) (c:=gw x) rfl (fun r hr=>(hd1 r hr))
    have hRow2:=jL (k:=3) (c:=gw y) rfl (fun r hr=>(hd2 r hr))
    cases hp:decide (x=y)with
    |false=>
     have Hne:=Lib.hid (jB hx hy (by simpa using hp))
     have hq:(!decide (x=y))=true:=by rw[hp];rfl
     clear hp
     exact GD
    |true=>
     have HI2:=Lib.hid (jQ ht.out hx hy (by simpa using hp))
     have hq:(!decide (x=y))=false:=by rw[hp];rfl
     clear hp
     exact GD
   ·exact VN
 ·exact VL
theorem Qj (a0 b0:ByteArray) (a1 b1:ByteArray) (a2 b2:Int) (a3 b3:Int) (a4 b4:Int) (a5 b5:Bool) (a6 b6:Int) (a7 b7:Int) (a8 b8:Bool) (a9 b9:Int) (a10 b10:Int) (a11 b11:Bool) (a12 b12:Bool) (a13 b13:Int) (a14 b14:Int) (a15 b15:Bool) (a16 b16:Int) (a17 b17:Bool) (a18 b18:Int) (a19 b19:Int) (a20 b20:Bool) (w:World):(binOp .neq 79 (.agg #[.string a0,.string a1,.int .i64 a2,.int .i64 a3,.int .i64 a4,.bool a5,.int .i64 a6,.int .i64 a7,.bool a8,.int .u64 a9,.int .u64 a10,.bool a11,.bool a12,.int .u64 a13,.int .u64 a14,.bool a15,.int .i64 a16,.bool a17,.int .i64 a18,.int .i64 a19,.bool a20]) (.agg #[.string b0,.string b1,.int .i64 b2,.int .i64 b3,.int .i64 b4,.bool b5,.int .i64 b6,.int .i64 b7,.bool b8,.int .u64 b9,.int .u64 b10,.bool b11,.bool b12,.int .u64 b13,.int .u64 b14,.bool b15,.int .i64 b16,.bool b17,.int .i64 b18,.int .i64 b19,.bool b20])).run Tryz.prog w= .ok (.bool (!(decide (a0.toList=b0.toList)&&(decide (a1.toList=b1.toList)&&(decide (a2=b2)&&(decide (a3=b3)&&(decide (a4=b4)&&(decide (a5=b5)&&(decide (a6=b6)&&(decide (a7=b7)&&(decide (a8=b8)&&(decide (a9=b9)&&(decide (a10=b10)&&(decide (a11=b11)&&(decide (a12=b12)&&(decide (a13=b13)&&(decide (a14=b14)&&(decide (a15=b15)&&(decide (a16=b16)&&(decide (a17=b17)&&(decide (a18=b18)&&(decide (a19=b19)&&(decide (a20=b20)))))))))))))))))))))))) w:=by
 exact Oa
theorem Qn (x y:jp) (w:World):(binOp .neq 79 (.agg (eR x).toArray) (.agg (eR y).toArray)).run Tryz.prog w= .ok (.bool (!decide (x=y))) w:=by
 obtain⟨a,b,⟨c,d,⟨⟨e,f,⟨g,h⟩⟩,⟨i,j,k,l⟩⟩,⟨m,n,o,p⟩,⟨⟨q,r,⟨s,t⟩⟩,u⟩⟩⟩:=x
 obtain⟨a',b',⟨c',d',⟨⟨e',f',⟨g',h'⟩⟩,⟨i',j',k',l'⟩⟩,⟨m',n',o',p'⟩,⟨⟨q',r',⟨s',t'⟩⟩,u'⟩⟩⟩:=y
 refine(Qj ⟨a.toArray⟩ ⟨a'.toArray⟩ ⟨b.toArray⟩ ⟨b'.toArray⟩ c c' d d' e e' f f' g g' h h' i i' j j' k k' l l' m m' n n' o o' p p' q q' r r' s s' t t' u u' w).trans ?_
 congr 3
 rw[Bool.eq_iff_iff]
 simp[xd,and_assoc,Tk]
theorem FW {p:Prop} (h:p:=by
 have Hq:=Lib.hid hq
 clear hq hx hy hd1 hd2
 go_upto_region 6 with fail
 refine wp_region_held_drew (S:=fun w'=>w'.rangeAt b1 (o1+i*21) (eR x)∧w'.rangeAt b2 (o2+i*21) (eR y)) (by kernel_rfl) ⟨fun r v h=>(((Fr.refl [] wr).drew).cell hb1 (by simp) _).trans (hRow1 r v h),fun r v h=>(((Fr.refl [] wr).drew).cell hb2 (by simp) _).trans (hRow2 r v h)⟩ (fun hr=> ?_)
 (refine wpAnyH_take (i:=0) (v:= .slice (some ⟨b1,o1,none⟩) xs.length c1) rfl (by kernel_rfl) (by kernel_rfl) (by kernel_rfl) (fun _ _ _ h=>h) (Or.inl ⟨by rfl,fun _ _=>by go_simp⟩) hr ?_;simp only[Act.put,List.getElem_toArray,List.getElem_cons_succ,List.getElem_cons_zero,List.setIfInBounds_toArray,List.set_cons_zero,List.set_cons_succ])
 (refine wpAnyH_take (i:=1) (v:= .int .i64 i) rfl (by kernel_rfl) (by kernel_rfl) (by kernel_rfl) (fun _ _ _ h=>h) (Or.inl ⟨by rfl,fun _ _=>by go_simp⟩) hr ?_;simp only[Act.put,List.getElem_toArray,List.getElem_cons_succ,List.getElem_cons_zero,List.setIfInBounds_toArray,List.set_cons_zero,List.set_cons_succ])
 (refine wpAnyH_take (i:=2) (v:= .pointer (some ⟨b1,o1+i*21,none⟩)) rfl (by kernel_rfl) (by kernel_rfl) (by kernel_rfl) (fun _ _ _ h=>h) (Or.inl ⟨by rfl,fun _ _=>by go_simp⟩) hr ?_;simp only[Act.put,List.getElem_toArray,List.getElem_cons_succ,List.getElem_cons_zero,List.setIfInBounds_toArray,List.set_cons_zero,List.set_cons_succ])
 refine wpAnyH_take (i:=3) (v:= .agg (eR x).toArray) rfl (by kernel_rfl) (by kernel_rfl) (by kernel_rfl) (fun _ _ _ h=>h) (yieldsIf_load_mid rfl 79 _ rfl b1 (o1+i*21) rfl (eR x) _ (fun _ h=>h.1) sk rfl nj) hr ?_
 simp only[Act.put,List.getElem_toArray,List.getElem_cons_succ,List.getElem_cons_zero,List.setIfInBounds_toArray,List.set_cons_zero,List.set_cons_succ]
 (refine wpAnyH_take (i:=4) (v:= .slice (some ⟨b2,o2,none⟩) ys.length c2) rfl (by kernel_rfl) (by kernel_rfl) (by kernel_rfl) (fun _ _ _ h=>h) (Or.inl ⟨by rfl,fun _ _=>by go_simp⟩) hr ?_;simp only[Act.put,List.getElem_toArray,List.getElem_cons_succ,List.getElem_cons_zero,List.setIfInBounds_toArray,List.set_cons_zero,List.set_cons_succ])
 (refine wpAnyH_take (i:=5) (v:= .int .i64 i) rfl (by kernel_rfl) (by kernel_rfl) (by kernel_rfl) (fun _ _ _ h=>h) (Or.inl ⟨by rfl,fun _ _=>by go_simp⟩) hr ?_;simp only[Act.put,List.getElem_toArray,List.getElem_cons_succ,List.getElem_cons_zero,List.setIfInBounds_toArray,List.set_cons_zero,List.set_cons_succ])
 (refine wpAnyH_take (i:=6) (v:= .pointer (some ⟨b2,o2+i*21,none⟩)) rfl (by kernel_rfl) (by kernel_rfl) (by kernel_rfl) (fun _ _ _ h=>h) (Or.inl ⟨by rfl,fun _ _=>by go_simp⟩) hr ?_;simp only[Act.put,List.getElem_toArray,List.getElem_cons_succ,List.getElem_cons_zero,List.setIfInBounds_toArray,List.set_cons_zero,List.set_cons_succ])
 refine wpAnyH_take (i:=7) (v:= .agg (eR y).toArray) rfl (by kernel_rfl) (by kernel_rfl) (by kernel_rfl) (fun _ _ _ h=>h) (yieldsIf_load_mid rfl 79 _ rfl b2 (o2+i*21) rfl (eR y) _ (fun _ h=>h.2) sk rfl nj) hr ?_
 simp only[Act.put,List.getElem_toArray,List.getElem_cons_succ,List.getElem_cons_zero,List.setIfInBounds_toArray,List.set_cons_zero,List.set_cons_succ]
 refine wpAnyH_take (i:=8) (v:= .bool (!decide (x=y))) rfl (by kernel_rfl) (by kernel_rfl) (by kernel_rfl) (fun _ _ _ h=>h) (kt (A:=(eR x).toArray) (B:=(eR y).toArray) Tb rfl rfl rfl rfl (fun w=>Qn x y w)) hr ?_
 exact WI
):p:=h
theorem Q9 {w:World} {va vb:Value} {xs ys:List jp} (h1:an 21 (aE eR) va xs w) (h2:an 21 (aE eR) vb ys w):
 Calls Tryz.prog 42 #[va,vb] w fun e w'=>e= .returned (.bool (decide (xs=ys)))∧Fr [] w w':=by
 have hh1:=h1
 have hh2:=h2
 obtain⟨a1,c1,rfl,hl⟩:∃a cap,va= .slice a xs.length cap∧xs.length≤9223372036854775807:=by
  exact R7
 obtain⟨a2,c2,rfl⟩:=an.shape h2
 clear h1 h2
 by_cases hlen:xs.length=ys.length
 ·have q:((((xs.length:Nat):Int)) !=((ys.length:Nat):Int))=false:=by simp[hlen]
  have Hlen:=Lib.hid hlen
  clear hlen
  go_enter Tryz.func42,Tryz.ntmps42
  go_wp2
  go_loopw [13] (fun n wr=>∃(i:Nat),n= .int .i64 i∧i≤xs.length∧Fr [] w wr∧Hid (xs.take i=ys.take i)) (fun n _=>xs.length-(intOf n).toNat)
  case atStart=>exact⟨0,rfl,by omega,Fr.refl _ _,Lib.hid rfl⟩
  case round=>
   obtain⟨i,rfl,hi,hF,ht⟩:=hrel
   by_cases hlt:i<xs.length
   ·have hlt2:i<ys.length:=by have:=Hlen.out;omega
    obtain⟨x,hx⟩:∃t,xs[i]? =some t:=⟨xs[i],by simp[hlt]⟩
    obtain⟨y,hy⟩:∃t,ys[i]? =some t:=⟨ys[i]'hlt2,by simp[hlt2]⟩
    obtain⟨b1,o1,p1,c,hv1,hb1,hR1,_,hd1⟩:=an.elem (an.fr gp.fr hh1 hF) (fun x c h=>gp.len x c _ h) hx
    obtain⟨b2,o2,p2,d,hv2,hb2,hR2,_,hd2⟩:=an.elem (an.fr gp.fr hh2 hF) (fun x c h=>gp.len x c _ h) hy
    obtain rfl:c=eR x:=hR1
    obtain rfl:d=eR y:=hR2
    injection hv1 with e1 _ e3
    injection hv2 with e4 _ e6
    subst e1 e3 e4 e6
    have i1:(i:Int)< (xs.length:Int):=by omega
    have i2:(i:Int)< (ys.length:Int):=by omega
    have hRow1:=jL (k:=21) (c:=eR x) rfl (fun r hr=>(hd1 r hr))
    have hRow2:=jL (k:=21) (c:=eR y) rfl (fun r hr=>(hd2 r hr))
    cases hp:decide (x=y)with
    |false=>
     have Hne:=Lib.hid (jB hx hy (by simpa using hp))
     have hq:(!decide (x=y))=true:=by rw[hp];rfl
     clear hp
     exact FW
    |true=>
     have HI2:=Lib.hid (jQ ht.out hx hy (by simpa using hp))
     have hq:(!decide (x=y))=false:=by rw[hp];rfl
     clear hp
     exact FW
   ·exact VN
 ·exact VL
theorem Gz {p:Prop} (h:p:=by
 have hq2:(x !=y)=!decide (x=y):=by rw[Bool.eq_iff_iff];simp
 rw[hq]at hq2
 clear hq hx hy
 go_upto_region 6 with fail
 go_region_held3 (fun w'=>w'.cell? ⟨b1,o1+i,none⟩=some (.int .i64 x)∧w'.cell? ⟨b2,o2+i,none⟩=some (.int .i64 y)) (first|(go_keep;done)|(simp[f1,f2];done)) (first|fail)
 exact U1
):p:=h
theorem Re {w:World} {va vb:Value} {xs ys:List Int} (h1:an 1 (aE gK) va xs w) (h2:an 1 (aE gK) vb ys w):
 Calls Tryz.prog 48 #[va,vb] w fun e w'=>e= .returned (.bool (decide (xs=ys)))∧Fr [] w w':=by
 have hh1:=h1
 have hh2:=h2
 obtain⟨a1,c1,rfl,hl⟩:∃a cap,va= .slice a xs.length cap∧xs.length≤9223372036854775807:=by
  exact R7
 obtain⟨a2,c2,rfl⟩:=an.shape h2
 clear h1 h2
 by_cases hlen:xs.length=ys.length
 ·have q:((((xs.length:Nat):Int)) !=((ys.length:Nat):Int))=false:=by simp[hlen]
  have Hlen:=Lib.hid hlen
  clear hlen
  go_enter Tryz.func48,Tryz.ntmps48
  go_wp2
  go_loopw [13] (fun n wr=>∃(i:Nat),n= .int .i64 i∧i≤xs.length∧Fr [] w wr∧Hid (xs.take i=ys.take i)) (fun n _=>xs.length-(intOf n).toNat)
  case atStart=>exact⟨0,rfl,by omega,Fr.refl _ _,Lib.hid rfl⟩
  case round=>
   obtain⟨i,rfl,hi,hF,ht⟩:=hrel
   by_cases hlt:i<xs.length
   ·have hlt2:i<ys.length:=by have:=Hlen.out;omega
    obtain⟨x,hx⟩:∃t,xs[i]? =some t:=⟨xs[i],by simp[hlt]⟩
    obtain⟨y,hy⟩:∃t,ys[i]? =some t:=⟨ys[i]'hlt2,by simp[hlt2]⟩
    obtain⟨b1,o1,p1,c,hv1,hb1,hR1,_,hd1⟩:=an.elem (an.fr gj.fr hh1 hF) (fun x c h=>gj.len x c _ h) hx
    obtain⟨b2,o2,p2,d,hv2,hb2,hR2,_,hd2⟩:=an.elem (an.fr gj.fr hh2 hF) (fun x c h=>gj.len x c _ h) hy
    obtain rfl:c=gK x:=hR1
    obtain rfl:d=gK y:=hR2
    injection hv1 with e1 _ e3
    injection hv2 with e4 _ e6
    subst e1 e3 e4 e6
    have i1:(i:Int)< (xs.length:Int):=by omega
    have i2:(i:Int)< (ys.length:Int):=by omega
    have f1:=hd1 0 (by decide)
    have f2:=hd2 0 (by decide)
    simp only[Nat.mul_one,Nat.add_zero,gK,List.getElem?_cons_zero]at f1 f2
    clear hd1 hd2
    cases hp:decide (x=y)with
    |false=>
     have Hne:=Lib.hid (jB hx hy (by simpa using hp))
     have hq:(!decide (x=y))=true:=by rw[hp];rfl
     clear hp
     exact Gz
    |true=>
     have HI2:=Lib.hid (jQ ht.out hx hy (by simpa using hp))
     have hq:(!decide (x=y))=false:=by rw[hp];rfl
     clear hp
     exact Gz
   ·exact VN
 ·exact VL
end Go.Proofs.YtpdlmdlkecnpgaaGreatDoor
