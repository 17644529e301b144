/- Texts: MdL0 MdLa MdEl MdLb BackP. -/
import Derived.Test.YtpdlmdlkecnpgaaGreatDoorH0
import Derived.Test.YtpdlmdlkecnpgaaGreatDoorH15
import Derived.Test.YtpdlmdlkecnpgaaGreatDoorH12
import Derived.Great.BuildSlice
import Derived.Test.YtpdlmdlkecnpgaaGreatDoorH16
import Derived.Test.YtpdlmdlkecnpgaaGreatDoorH7
set_option linter.unusedSimpArgs false
set_option linter.unusedVariables false
namespace Go.Proofs.YtpdlmdlkecnpgaaGreatDoor
open Go.RowKit
theorem ye:∀(cs:List Value) (n:Nat) (b:Array Value),b.size=n+cs.length→((cs.zipIdx n).foldl (fun(b:Array Value) (x:Value×Nat)=>b.setIfInBounds (0+x.2) x.1) b).toList=b.toList.take n++cs
 | [],n,b,h=>by
  have:b.toList.length=n:=by simpa using h
  rw[←this,List.take_length]
  simp
 |c::cs,n,b,h=>by
  rw[List.zipIdx_cons,List.foldl_cons,ye cs (n+1) _ (by simp at h⊢;omega)]
  have hlt:n<b.toList.length:=by simp at h⊢;omega
  simp only[Nat.zero_add,Array.toList_setIfInBounds]
  rw[List.take_succ_eq_append_getElem (by simpa using hlt)]
  simp[List.take_set]
  rw[List.set_eq_of_length_le (by simp;omega)]
set_option maxRecDepth 100000
theorem dr {w:World} {ops:Array Oper} {rest:List Oper} {o:Oper} {a:Act} {Q:Exit→Act→World→Prop} {x:Operand} {t e:TypeId} {k bytes:Nat} {xv:Value} {cs:List Value} (hA:ka t e k bytes) (hk:0<k) (hk2:k≤256)
 (hg:o.guard=none) (ho:o.op= .buildSlice t 1 #[(0,x)]) (hx:a.eval x=xv) (hc:xv.cells=cs.toArray) (hl:cs.length=k)
 (h:wpList Tryz.prog ops Q rest (a.put o.dst (.slice (some ⟨w.heap.size,0,none⟩) 1 1)) (w.alloc (.cells cs.toArray e))):wpList Tryz.prog ops Q (o::rest) a w:=by
 obtain⟨hu,i,z,hi,hz,hs,_,hzs⟩:=hA
 refine wpList_buildSlice hg _ _ 1 _ ho _ i z hu hi hz (by rw[hs];omega) (by rw[hs];omega) ?_ h
 have e1:((#[(0,x)]:Array (Nat×Operand)).map fun(i,x)=>(i,a.eval x)).toList= [(0,a.eval x)]:=by simp
 rw[e1,hx,hs]
 simp only[Instr.fill,hc,Nat.zero_mul,Nat.one_mul,Nat.zero_add]
 rw[if_neg (by simp[hl])]
 congr 1
 apply Array.toList_inj.1
 have h2:=ye cs 0 ((Array.range k).map (z.cells[·% z.cells.size]!)) (by simp[hl])
 simp only[Nat.zero_add,List.take_zero,List.nil_append]at h2
 rw[←Array.foldl_toList]
 simpa using h2
section
variable {S X : List Nat} {w0 w w' : World} {rb : Nat} {bv : Value} {bs : List UInt8} {s s' : ax} {G D : List bt} {L M : List (World → Prop)}
theorem KT.join (h:KT S w0 w rb bv bs s G L) (k:KT (G.flatMap bt.blk++S) w w' rb bv bs s' D M):KT S w0 w' rb bv bs s' (D++G) (M++L):=by
 have hf:Fr [rb] w w':=k.r.st.fr
 have hD:∀b,b∈D.flatMap bt.blk→w.heap.size≤b:=fun b hb=>by
  obtain⟨r,hr,hb⟩:=List.mem_flatMap.1 hb
  exact k.r.st.new r hr b hb
 have h1:KT S w0 w' rb bv bs s' (D++G) L:=h.step ⟨h.r.st.call k.r.st (fun b hb=>⟨hb,by simp at hb;subst hb;exact h.r.lt⟩),h.r.org,k.r.loc,k.r.le⟩ hf
  (fun b hb=>by simp at hb;subst hb;exact List.mem_append_right _ h.mem) (fun b hb=>by
   rw[List.flatMap_append]at hb
   exact(List.mem_append.1 hb).elim (fun hb=> .inr (hD b hb)) .inl)
 refine⟨h1.r,fun P hP=> ?_⟩
 rcases List.mem_append.1 hP with hP|hP
 ·refine(k.stay P hP).sub fun b _ hb=> ?_
  rw[List.flatMap_append]at hb
  simp only[List.mem_append]at hb⊢
  rcases hb with(hb|hb)|hb<;>simp[hb]
 ·exact h1.stay P hP
end
section
variable {α : Type} {P : ax → α × ax}
theorem Oh {j:Nat} {t:ax} (h:j=0∨t.err≠0):av P j t=([],t):=by
 cases j with
 |zero=>rfl
 |succ j=>simp[av,h.resolve_left (by omega)]
theorem Ij {j:Nat} {t:ax} (h:j≠0) (he:t.err=0):av P j t=((P t).1::(av P (j-1) (P t).2).1,(av P (j-1) (P t).2).2):=by
 obtain⟨j,rfl⟩:∃k,j=k+1:=⟨j-1,by omega⟩
 simp[av,he]
end
def cV {α:Type} (P:ax→α×ax) (R:α→List Value→World→Prop) (T:TypeId) (k:Nat) (S:List Nat) (w:World) (rb:Nat) (bv:Value) (bs:List UInt8) (n0:Nat) (s0:ax) (C0:World→Prop) (n v:Value) (wr:World):Prop:=
 ∃(j:Nat) (xs:List α) (t:ax) (cs:List Value),n= .int .i64 j∧KT S w wr rb bv bs t [.own T k v xs.length cs] [bU R xs cs,C0]∧j+xs.length≤n0∧Hid (av P n0 s0=(xs++(av P j t).1,(av P j t).2))
def d7 {α:Type} (R:α→List Value→World→Prop) (T:TypeId) (k:Nat) (S:List Nat) (w:World) (rb:Nat) (bv:Value) (bs:List UInt8) (q:List α×ax) (e:Ending) (w':World):Prop:=
 ∃v cs,e= .returned v∧KT S w w' rb bv bs q.2 [.own T k v q.1.length cs] [bU R q.1 cs]
section
variable {α : Type} {P : ax → α × ax} {R : α → List Value → World → Prop} {T : TypeId} {k : Nat} {S : List Nat} {w wr : World} {rb : Nat} {bv : Value} {bs : List UInt8} {n0 : Nat} {s0 : ax} {C0 : World → Prop} {n v : Value}
theorem cV.start (h:Rd S w rb bv bs s0) (hC:cE S w C0):cV P R T k S w rb bv bs n0 s0 C0 (.int .i64 n0) (.slice none 0 0) w:=
 ⟨n0,[],s0,[],rfl,(((KT.start h).keep (by simpa using hC)).keep (cE.pure (S:= []++S) rfl)).nil T k 0,by simp,Lib.hid rfl⟩
theorem cV.fin {xs:List α} {t:ax} {cs:List Value} {j:Nat} (h:KT S w wr rb bv bs t [.own T k v xs.length cs] [bU R xs cs,C0]) (hg:Hid (av P n0 s0=(xs++(av P j t).1,(av P j t).2))) (hj:j=0∨t.err≠0):d7 R T k S w rb bv bs (av P n0 s0) (.returned v) wr:=by
 rw[hg.out,Oh hj]
 exact⟨v,cs,rfl,by rw[List.append_nil];exact h.got fun w hw=>hw _ (by simp)⟩
theorem cV.next {xs:List α} {t:ax} {cs c:List Value} {j:Nat} {G:List bt} (h:KT S w wr rb bv bs (P t).2 (.own T k v (xs.length+1) (cs++c)::G) [R (P t).1 c,bU R xs cs,C0]) (hg:Hid (av P n0 s0=(xs++(av P j t).1,(av P j t).2))) (hj:j≠0) (he:Hid (t.err=0)) (hn:j+xs.length≤n0) (hni:n= .int .i64 ((j:Int)-1)):
 cV P R T k S w rb bv bs n0 s0 C0 n v wr:=by
 refine⟨j-1,xs++ [(P t).1],(P t).2,cs++c,by rw[hni];congr 1;omega,?_,by simp;omega,Lib.hid ?_⟩
 ·have h1:=h.sel (G':= [.own T k v (xs.length+1) (cs++c)]) (.cons .here .nil)
  have e1:(xs++ [(P t).1]).length=xs.length+1:=by simp
  rw[e1]
  exact⟨h1.r,fun Q hQ=>by
   simp only[List.mem_cons,List.not_mem_nil,or_false]at hQ
   rcases hQ with rfl|rfl
   ·exact((h1.stay _ (by simp:bU R xs cs∈ _)).and (h1.stay _ (by simp:R (P t).1 c∈ _))).imp fun w hw=>hw.1.snoc hw.2
   ·exact h1.stay _ (by simp)⟩
 ·rw[hg.out,Ij hj he.out]
  simp
end
def sy {α:Type} (R:α→List Value→World→Prop) (k:Nat) (S:List Nat) (w:World) (rb:Nat) (bv:Value) (bs:List UInt8) (q:α×ax) (e:Ending) (w':World):Prop:=
 ∃c,e= .returned (.agg c.toArray)∧c.length=k∧(∀u∈c,u.oneCell'=true)∧cE S w' (R q.1 c)∧Rd S w' rb bv bs q.2∧Fr [rb] w w'
def NK {α:Type} (R:α→List Value→World→Prop) (S:List Nat) (w:World) (rb:Nat) (bv:Value) (bs:List UInt8) (q:α×ax) (e:Ending) (w':World):Prop:=
 ∃v,e= .returned v∧v.oneCell'=true∧cE S w' (R q.1 [v])∧Rd S w' rb bv bs q.2∧Fr [rb] w w'
theorem NK.of {α:Type} {R:α→List Value→World→Prop} {S:List Nat} {w:World} {rb:Nat} {bv:Value} {bs:List UInt8} {q:α×ax} {e:Ending} {w':World} {v:Value} (he:e= .returned v) (hv:v.oneCell'=true) (hs:cE S w' (R q.1 [v])) (hR:Rd S w' rb bv bs q.2) (hF:Fr [rb] w w'):NK R S w rb bv bs q e w':=⟨v,he,hv,hs,hR,hF⟩
theorem uK {v:Value} (h:v.oneCell'=true):∀u∈ [v],u.oneCell'=true:=fun u hu=>by
 obtain rfl:=List.mem_singleton.1 hu
 exact h
theorem pW {v:Value} (h:v.oneCell'=true):v.cells= [v].toArray:=by
 cases v<;>first|rfl|cases h
theorem sy.plain {α:Type} {C:α→List Value} {k:Nat} {S:List Nat} {w:World} {rb:Nat} {bv:Value} {bs:List UInt8} {q:α×ax} {e:Ending} {w':World} (hk:(C q.1).length=k) (h1:∀u∈C q.1,u.oneCell'=true)
 (h:e= .returned (.agg (C q.1).toArray)∧Rd S w' rb bv bs q.2∧Fr [rb] w w'):sy (aE C) k S w rb bv bs q e w':=⟨C q.1,h.1,hk,h1,cE.pure rfl,h.2.1,h.2.2⟩
theorem FL:ka 27 3 1 8:=md (by kernel_rfl) (by kernel_rfl)
theorem ST {S w rb bv bs s} (h:Rd S w rb bv bs s) (hsm:bs.length≤274877906944):Calls Tryz.prog 155 #[.pointer (some ⟨rb,0,none⟩)] w (NK (aE gK) S w rb bv bs (kU bs s)):=(LX h).mono fun _ _ hh=>NK.of hh.1 rfl (cE.pure rfl) hh.2.1 hh.2.2
set_option maxHeartbeats 3200000
theorem G6 (n:Nat) (hn:n≤549755813887) {S w rb bv bs s} (h:Rd S w rb bv bs s) (hsm:bs.length≤274877906944):
 Calls Tryz.prog 214 #[.pointer (some ⟨rb,0,none⟩),.int .i64 (n:Int),.func (.func 155) #[] #[]] w (d7 (aE gK) 3 1 S w rb bv bs (av (kU bs) n s)):=by
 have h0:cV (kU bs) (aE gK) 3 1 S w rb bv bs n s (fun _=>True) (.int .i64 n) (.slice none 0 0) w:=cV.start h (cE.pure trivial)
 go_enter Tryz.func214,Tryz.ntmps214
 go_wp2
 go_loopw [1,7] (cV (kU bs) (aE gK) 3 1 S w rb bv bs n s (fun _=>True)) (fun n _ _=>(intOf n).toNat)
 case atStart=>exact h0
 case round=>
  obtain⟨j,xs,t,cs,rfl,hS,hj,hI⟩:=hrel
  by_cases hj0:j=0
  ·exact K0
  ·have hjp:0<j:=by omega
   by_cases he:t.err=0
   ·have q1:(t.err !=0)=false:=by simp[he]
    have He:=Lib.hid he
    clear he
    go_wp2_with first|(go_at_call 222;(try clear hQ);refine ia (fun h=>dI h) fun w1 hS hQ hN=> ?_)|(go_at_call 155;refine hU fun hT=> ?_;refine(ST hT.wide hsm).mono ?_;rintro e w1 ⟨v1,rfl,hv1,hP1,hR1,hF1⟩;have hl1: [v1].length=1:=rfl;have ho1:=uK hv1;have hS:=hT.callK hR1 hF1 hP1;clear hT hR1 hF1 hP1;(try clear hQ);have hQ:=St.fq hS.r.st;(try clear hN);have hN:=St.aq hS.r.st)|(refine dr FL (by decide) (by decide) rfl rfl rfl (pW hv1) hl1 ?_)|(at_builtin;refine jA FL (by decide) (by decide) rfl rfl rfl rfl ?_;refine sX ?_;intro vN wN hS;(try clear hQ);have hQ:=St.fq hS.r.st;(try clear hN);have hN:=St.aq hS.r.st)
    exact IB
   ·exact KG
theorem Mt {S w rb bv bs s} (h:Rd S w rb bv bs s) (hsm:bs.length≤274877906944):Calls Tryz.prog 154 #[.pointer (some ⟨rb,0,none⟩),.func (.func 155) #[] #[]] w (d7 (aE gK) 3 1 S w rb bv bs (am bs (kU bs) s)):=by
 have hC:=cn bs s
 have hsm0:=h.small
 have hS:=KT.start h
 have hsm1:(af bs s).1≤549755813887:=by omega
 go_enter Tryz.func154,Tryz.ntmps154
 go_wp2_with first|(go_at_call 199;(try clear hQ);refine ia (fun h=>cZ h) fun w1 hS hQ hN=> ?_)|(go_at_call 214;refine(G6 _ hsm1 hS.rd hsm).mono ?_;rintro e w1 ⟨v,cs,rfl,hK⟩)
 exact Lf
theorem GQ:ka 52 182 5 40:=md (by kernel_rfl) (by kernel_rfl)
theorem Qw {S w rb bv bs s} (h:Rd S w rb bv bs s) (hsm:bs.length≤274877906944):Calls Tryz.prog 261 #[.pointer (some ⟨rb,0,none⟩)] w (sy (aE fk) 5 S w rb bv bs (kw bs s)):=(Sb h).mono fun _ _ hh=>sy.plain rfl (by simp[fk,cj,Value.oneCell']) hh
theorem IC (n:Nat) (hn:n≤549755813887) {S w rb bv bs s} (h:Rd S w rb bv bs s) (hsm:bs.length≤274877906944):
 Calls Tryz.prog 283 #[.pointer (some ⟨rb,0,none⟩),.int .i64 (n:Int),.func (.func 261) #[] #[]] w (d7 (aE fk) 182 5 S w rb bv bs (av (kw bs) n s)):=by
 have h0:cV (kw bs) (aE fk) 182 5 S w rb bv bs n s (fun _=>True) (.int .i64 n) (.slice none 0 0) w:=cV.start h (cE.pure trivial)
 go_enter Tryz.func283,Tryz.ntmps283
 go_wp2
 go_loopw [1,7] (cV (kw bs) (aE fk) 182 5 S w rb bv bs n s (fun _=>True)) (fun n _ _=>(intOf n).toNat)
 case atStart=>exact h0
 case round=>
  obtain⟨j,xs,t,cs,rfl,hS,hj,hI⟩:=hrel
  by_cases hj0:j=0
  ·exact K0
  ·have hjp:0<j:=by omega
   by_cases he:t.err=0
   ·have q1:(t.err !=0)=false:=by simp[he]
    have He:=Lib.hid he
    clear he
    go_wp2_with first|(go_at_call 222;(try clear hQ);refine ia (fun h=>dI h) fun w1 hS hQ hN=> ?_)|(go_at_call 261;refine hU fun hT=> ?_;refine(Qw hT.wide hsm).mono ?_;rintro e w1 ⟨c1,rfl,hl1,ho1,hP1,hR1,hF1⟩;have hS:=hT.callK hR1 hF1 hP1;clear hT hR1 hF1 hP1;(try clear hQ);have hQ:=St.fq hS.r.st;(try clear hN);have hN:=St.aq hS.r.st)|(refine dr GQ (by decide) (by decide) rfl rfl rfl rfl hl1 ?_)|(at_builtin;refine jA GQ (by decide) (by decide) rfl rfl rfl rfl ?_;refine sX ?_;intro vN wN hS;(try clear hQ);have hQ:=St.fq hS.r.st;(try clear hN);have hN:=St.aq hS.r.st)
    exact IB
   ·exact KG
theorem MI {S w rb bv bs s} (h:Rd S w rb bv bs s) (hsm:bs.length≤274877906944):Calls Tryz.prog 260 #[.pointer (some ⟨rb,0,none⟩),.func (.func 261) #[] #[]] w (d7 (aE fk) 182 5 S w rb bv bs (am bs (kw bs) s)):=by
 have hC:=cn bs s
 have hsm0:=h.small
 have hS:=KT.start h
 have hsm1:(af bs s).1≤549755813887:=by omega
 go_enter Tryz.func260,Tryz.ntmps260
 go_wp2_with first|(go_at_call 199;(try clear hQ);refine ia (fun h=>cZ h) fun w1 hS hQ hN=> ?_)|(go_at_call 283;refine(IC _ hsm1 hS.rd hsm).mono ?_;rintro e w1 ⟨v,cs,rfl,hK⟩)
 exact Lf
theorem GJ:ka 23 79 21 184:=md (by kernel_rfl) (by kernel_rfl)
theorem Tj {S w rb bv bs s} (h:Rd S w rb bv bs s) (hsm:bs.length≤274877906944):Calls Tryz.prog 142 #[.pointer (some ⟨rb,0,none⟩)] w (sy (aE eR) 21 S w rb bv bs (mV bs s)):=(Bg h).mono fun _ _ hh=>sy.plain rfl (by simp[eR,lz,dv,du,dK,cj,iI,Value.oneCell']) hh
theorem It (n:Nat) (hn:n≤549755813887) {S w rb bv bs s} (h:Rd S w rb bv bs s) (hsm:bs.length≤274877906944):
 Calls Tryz.prog 204 #[.pointer (some ⟨rb,0,none⟩),.int .i64 (n:Int),.func (.func 142) #[] #[]] w (d7 (aE eR) 79 21 S w rb bv bs (av (mV bs) n s)):=by
 have h0:cV (mV bs) (aE eR) 79 21 S w rb bv bs n s (fun _=>True) (.int .i64 n) (.slice none 0 0) w:=cV.start h (cE.pure trivial)
 go_enter Tryz.func204,Tryz.ntmps204
 go_wp2
 go_loopw [1,7] (cV (mV bs) (aE eR) 79 21 S w rb bv bs n s (fun _=>True)) (fun n _ _=>(intOf n).toNat)
 case atStart=>exact h0
 case round=>
  obtain⟨j,xs,t,cs,rfl,hS,hj,hI⟩:=hrel
  by_cases hj0:j=0
  ·exact K0
  ·have hjp:0<j:=by omega
   by_cases he:t.err=0
   ·have q1:(t.err !=0)=false:=by simp[he]
    have He:=Lib.hid he
    clear he
    go_wp2_with first|(go_at_call 222;(try clear hQ);refine ia (fun h=>dI h) fun w1 hS hQ hN=> ?_)|(go_at_call 142;refine hU fun hT=> ?_;refine(Tj hT.wide hsm).mono ?_;rintro e w1 ⟨c1,rfl,hl1,ho1,hP1,hR1,hF1⟩;have hS:=hT.callK hR1 hF1 hP1;clear hT hR1 hF1 hP1;(try clear hQ);have hQ:=St.fq hS.r.st;(try clear hN);have hN:=St.aq hS.r.st)|(refine dr GJ (by decide) (by decide) rfl rfl rfl rfl hl1 ?_)|(at_builtin;refine jA GJ (by decide) (by decide) rfl rfl rfl rfl ?_;refine sX ?_;intro vN wN hS;(try clear hQ);have hQ:=St.fq hS.r.st;(try clear hN);have hN:=St.aq hS.r.st)
    exact IB
   ·exact KG
theorem Pd {S w rb bv bs s} (h:Rd S w rb bv bs s) (hsm:bs.length≤274877906944):Calls Tryz.prog 141 #[.pointer (some ⟨rb,0,none⟩),.func (.func 142) #[] #[]] w (d7 (aE eR) 79 21 S w rb bv bs (am bs (mV bs) s)):=by
 have hC:=cn bs s
 have hsm0:=h.small
 have hS:=KT.start h
 have hsm1:(af bs s).1≤549755813887:=by omega
 go_enter Tryz.func141,Tryz.ntmps141
 go_wp2_with first|(go_at_call 199;(try clear hQ);refine ia (fun h=>cZ h) fun w1 hS hQ hN=> ?_)|(go_at_call 204;refine(It _ hsm1 hS.rd hsm).mono ?_;rintro e w1 ⟨v,cs,rfl,hK⟩)
 exact Lf
theorem Gm:ka 29 97 3 32:=md (by kernel_rfl) (by kernel_rfl)
theorem Tr {S w rb bv bs s} (h:Rd S w rb bv bs s) (hsm:bs.length≤274877906944):Calls Tryz.prog 161 #[.pointer (some ⟨rb,0,none⟩)] w (sy (aE gw) 3 S w rb bv bs (mG bs s)):=(I8 h).mono fun _ _ hh=>sy.plain rfl (by simp[gw,iI,Value.oneCell']) hh
theorem JC (n:Nat) (hn:n≤549755813887) {S w rb bv bs s} (h:Rd S w rb bv bs s) (hsm:bs.length≤274877906944):
 Calls Tryz.prog 216 #[.pointer (some ⟨rb,0,none⟩),.int .i64 (n:Int),.func (.func 161) #[] #[]] w (d7 (aE gw) 97 3 S w rb bv bs (av (mG bs) n s)):=by
 have h0:cV (mG bs) (aE gw) 97 3 S w rb bv bs n s (fun _=>True) (.int .i64 n) (.slice none 0 0) w:=cV.start h (cE.pure trivial)
 go_enter Tryz.func216,Tryz.ntmps216
 go_wp2
 go_loopw [1,7] (cV (mG bs) (aE gw) 97 3 S w rb bv bs n s (fun _=>True)) (fun n _ _=>(intOf n).toNat)
 case atStart=>exact h0
 case round=>
  obtain⟨j,xs,t,cs,rfl,hS,hj,hI⟩:=hrel
  by_cases hj0:j=0
  ·exact K0
  ·have hjp:0<j:=by omega
   by_cases he:t.err=0
   ·have q1:(t.err !=0)=false:=by simp[he]
    have He:=Lib.hid he
    clear he
    go_wp2_with first|(go_at_call 222;(try clear hQ);refine ia (fun h=>dI h) fun w1 hS hQ hN=> ?_)|(go_at_call 161;refine hU fun hT=> ?_;refine(Tr hT.wide hsm).mono ?_;rintro e w1 ⟨c1,rfl,hl1,ho1,hP1,hR1,hF1⟩;have hS:=hT.callK hR1 hF1 hP1;clear hT hR1 hF1 hP1;(try clear hQ);have hQ:=St.fq hS.r.st;(try clear hN);have hN:=St.aq hS.r.st)|(refine dr Gm (by decide) (by decide) rfl rfl rfl rfl hl1 ?_)|(at_builtin;refine jA Gm (by decide) (by decide) rfl rfl rfl rfl ?_;refine sX ?_;intro vN wN hS;(try clear hQ);have hQ:=St.fq hS.r.st;(try clear hN);have hN:=St.aq hS.r.st)
    exact IB
   ·exact KG
theorem Mm {S w rb bv bs s} (h:Rd S w rb bv bs s) (hsm:bs.length≤274877906944):Calls Tryz.prog 160 #[.pointer (some ⟨rb,0,none⟩),.func (.func 161) #[] #[]] w (d7 (aE gw) 97 3 S w rb bv bs (am bs (mG bs) s)):=by
 have hC:=cn bs s
 have hsm0:=h.small
 have hS:=KT.start h
 have hsm1:(af bs s).1≤549755813887:=by omega
 go_enter Tryz.func160,Tryz.ntmps160
 go_wp2_with first|(go_at_call 199;(try clear hQ);refine ia (fun h=>cZ h) fun w1 hS hQ hN=> ?_)|(go_at_call 216;refine(JC _ hsm1 hS.rd hsm).mono ?_;rintro e w1 ⟨v,cs,rfl,hK⟩)
 exact Lf
theorem FX:ka 24 55 3 56:=md (by kernel_rfl) (by kernel_rfl)
theorem SC {S w rb bv bs s} (h:Rd S w rb bv bs s) (hsm:bs.length≤274877906944):Calls Tryz.prog 145 #[.pointer (some ⟨rb,0,none⟩)] w (sy (aE rF) 3 S w rb bv bs (nz bs s)):=(BP h).mono fun _ _ hh=>sy.plain rfl (by simp[rF,Value.oneCell']) hh
theorem Iw (n:Nat) (hn:n≤549755813887) {S w rb bv bs s} (h:Rd S w rb bv bs s) (hsm:bs.length≤274877906944):
 Calls Tryz.prog 208 #[.pointer (some ⟨rb,0,none⟩),.int .i64 (n:Int),.func (.func 145) #[] #[]] w (d7 (aE rF) 55 3 S w rb bv bs (av (nz bs) n s)):=by
 have h0:cV (nz bs) (aE rF) 55 3 S w rb bv bs n s (fun _=>True) (.int .i64 n) (.slice none 0 0) w:=cV.start h (cE.pure trivial)
 go_enter Tryz.func208,Tryz.ntmps208
 go_wp2
 go_loopw [1,7] (cV (nz bs) (aE rF) 55 3 S w rb bv bs n s (fun _=>True)) (fun n _ _=>(intOf n).toNat)
 case atStart=>exact h0
 case round=>
  obtain⟨j,xs,t,cs,rfl,hS,hj,hI⟩:=hrel
  by_cases hj0:j=0
  ·exact K0
  ·have hjp:0<j:=by omega
   by_cases he:t.err=0
   ·have q1:(t.err !=0)=false:=by simp[he]
    have He:=Lib.hid he
    clear he
    go_wp2_with first|(go_at_call 222;(try clear hQ);refine ia (fun h=>dI h) fun w1 hS hQ hN=> ?_)|(go_at_call 145;refine hU fun hT=> ?_;refine(SC hT.wide hsm).mono ?_;rintro e w1 ⟨c1,rfl,hl1,ho1,hP1,hR1,hF1⟩;have hS:=hT.callK hR1 hF1 hP1;clear hT hR1 hF1 hP1;(try clear hQ);have hQ:=St.fq hS.r.st;(try clear hN);have hN:=St.aq hS.r.st)|(refine dr FX (by decide) (by decide) rfl rfl rfl rfl hl1 ?_)|(at_builtin;refine jA FX (by decide) (by decide) rfl rfl rfl rfl ?_;refine sX ?_;intro vN wN hS;(try clear hQ);have hQ:=St.fq hS.r.st;(try clear hN);have hN:=St.aq hS.r.st)
    exact IB
   ·exact KG
theorem LH {S w rb bv bs s} (h:Rd S w rb bv bs s) (hsm:bs.length≤274877906944):Calls Tryz.prog 144 #[.pointer (some ⟨rb,0,none⟩),.func (.func 145) #[] #[]] w (d7 (aE rF) 55 3 S w rb bv bs (am bs (nz bs) s)):=by
 have hC:=cn bs s
 have hsm0:=h.small
 have hS:=KT.start h
 have hsm1:(af bs s).1≤549755813887:=by omega
 go_enter Tryz.func144,Tryz.ntmps144
 go_wp2_with first|(go_at_call 199;(try clear hQ);refine ia (fun h=>cZ h) fun w1 hS hQ hN=> ?_)|(go_at_call 208;refine(Iw _ hsm1 hS.rd hsm).mono ?_;rintro e w1 ⟨v,cs,rfl,hK⟩)
 exact Lf
theorem FQ:ka 26 50 4 32:=md (by kernel_rfl) (by kernel_rfl)
theorem Tu {S w rb bv bs s} (h:Rd S w rb bv bs s) (hsm:bs.length≤274877906944):Calls Tryz.prog 152 #[.pointer (some ⟨rb,0,none⟩)] w (sy (aE du) 4 S w rb bv bs (jr bs s)):=(sS h).mono fun _ _ hh=>sy.plain rfl (by simp[du,Value.oneCell']) hh
theorem Jg (n:Nat) (hn:n≤549755813887) {S w rb bv bs s} (h:Rd S w rb bv bs s) (hsm:bs.length≤274877906944):
 Calls Tryz.prog 212 #[.pointer (some ⟨rb,0,none⟩),.int .i64 (n:Int),.func (.func 152) #[] #[]] w (d7 (aE du) 50 4 S w rb bv bs (av (jr bs) n s)):=by
 have h0:cV (jr bs) (aE du) 50 4 S w rb bv bs n s (fun _=>True) (.int .i64 n) (.slice none 0 0) w:=cV.start h (cE.pure trivial)
 go_enter Tryz.func212,Tryz.ntmps212
 go_wp2
 go_loopw [1,7] (cV (jr bs) (aE du) 50 4 S w rb bv bs n s (fun _=>True)) (fun n _ _=>(intOf n).toNat)
 case atStart=>exact h0
 case round=>
  obtain⟨j,xs,t,cs,rfl,hS,hj,hI⟩:=hrel
  by_cases hj0:j=0
  ·exact K0
  ·have hjp:0<j:=by omega
   by_cases he:t.err=0
   ·have q1:(t.err !=0)=false:=by simp[he]
    have He:=Lib.hid he
    clear he
    go_wp2_with first|(go_at_call 222;(try clear hQ);refine ia (fun h=>dI h) fun w1 hS hQ hN=> ?_)|(go_at_call 152;refine hU fun hT=> ?_;refine(Tu hT.wide hsm).mono ?_;rintro e w1 ⟨c1,rfl,hl1,ho1,hP1,hR1,hF1⟩;have hS:=hT.callK hR1 hF1 hP1;clear hT hR1 hF1 hP1;(try clear hQ);have hQ:=St.fq hS.r.st;(try clear hN);have hN:=St.aq hS.r.st)|(refine dr FQ (by decide) (by decide) rfl rfl rfl rfl hl1 ?_)|(at_builtin;refine jA FQ (by decide) (by decide) rfl rfl rfl rfl ?_;refine sX ?_;intro vN wN hS;(try clear hQ);have hQ:=St.fq hS.r.st;(try clear hN);have hN:=St.aq hS.r.st)
    exact IB
   ·exact KG
theorem MN {S w rb bv bs s} (h:Rd S w rb bv bs s) (hsm:bs.length≤274877906944):Calls Tryz.prog 151 #[.pointer (some ⟨rb,0,none⟩),.func (.func 152) #[] #[]] w (d7 (aE du) 50 4 S w rb bv bs (am bs (jr bs) s)):=by
 have hC:=cn bs s
 have hsm0:=h.small
 have hS:=KT.start h
 have hsm1:(af bs s).1≤549755813887:=by omega
 go_enter Tryz.func151,Tryz.ntmps151
 go_wp2_with first|(go_at_call 199;(try clear hQ);refine ia (fun h=>cZ h) fun w1 hS hQ hN=> ?_)|(go_at_call 212;refine(Jg _ hsm1 hS.rd hsm).mono ?_;rintro e w1 ⟨v,cs,rfl,hK⟩)
 exact Lf
theorem GM:Tryz.prog.underlying 93=some ((Tryz.prog.underlying 93).get (by kernel_rfl)):=by kernel_rfl
theorem Bt:(Tryz.prog.info? 93).map (·.size)=some 6:=by kernel_rfl
theorem Qc:Tryz.prog.underlying 86=some ((Tryz.prog.underlying 86).get (by kernel_rfl)):=by kernel_rfl
theorem L7:(Tryz.prog.info? 86).map (·.size)=some 10:=by kernel_rfl
theorem xq:Tryz.prog.underlying 65=some ((Tryz.prog.underlying 65).get (by kernel_rfl)):=by kernel_rfl
theorem zg:(Tryz.prog.info? 65).map (·.size)=some 8:=by kernel_rfl
theorem v8:Tryz.prog.underlying 67=some ((Tryz.prog.underlying 67).get (by kernel_rfl)):=by kernel_rfl
theorem zb:(Tryz.prog.info? 67).map (·.size)=some 4:=by kernel_rfl
theorem Ql:ka 53 177 19 192:=md (by kernel_rfl) (by kernel_rfl)
theorem KA {S w rb bv bs s} (h:Rd S w rb bv bs s) (hg:cq S w) (hsm:bs.length≤274877906944):Calls Tryz.prog 158 #[.pointer (some ⟨rb,0,none⟩)] w (sy qR 6 S w rb bv bs (nZ bs s)):=by
 have hS:=KT.start h
 unfold nZ
 go_enter Tryz.func158,Tryz.ntmps158
 go_wp2_with first|(go_at_call 207;(try clear hQ);refine ia (fun h=>BH h) fun w1 hS hQ hN=> ?_)|(go_at_call 211;refine hU fun hT=> ?_;refine(nL hT.wide (hT.gl7 hg) hsm).mono ?_;rintro e w1 ⟨a1,c1,rfl,hP1,hR1,hF1⟩;have hS:=hT.callK hR1 hF1 hP1;clear hT hR1 hF1 hP1;(try clear hQ);have hQ:=St.fq hS.r.st;(try clear hN);have hN:=St.aq hS.r.st)
 refine lf rfl rfl GM rfl rfl ?_;(repeat(apply Exists.intro));refine⟨?_,?_,?_,?_⟩;(·exact gL);(·exact iA);(·exact Bt)
 exact VR
theorem Lu {S w rb bv bs s} (h:Rd S w rb bv bs s) (hg:cq S w) (hsm:bs.length≤274877906944):Calls Tryz.prog 220 #[.pointer (some ⟨rb,0,none⟩)] w (NK ou S w rb bv bs (jK bs s)):=by
 have hS:=KT.start h
 unfold jK
 go_enter Tryz.func220,Tryz.ntmps220
 go_wp2_with first|(go_at_call 163;(try clear hQ);refine ia (fun h=>ko h) fun w1 hS hQ hN=> ?_)|(refine dr Ql (by decide) (by decide) rfl rfl rfl rfl rfl ?_)
 go_ret
 have hK:KT S w _ rb bv bs _ _ _:=hS.alloc (cp (jl (aD bs s).1) (.slice none 0 0) (.slice none 0 0) (.slice none 0 0)) 177
 have hK2:=hK.locK (k:=19) bg.here rfl (by simp[cp,Value.oneCell'])
 refine NK.of rfl rfl ?_ hK2.rd hK2.fr
 refine hK2.fin fun wz hz=>⟨_,rfl,?_⟩
 exact⟨_,hz _ List.mem_cons_self,⟨_,[],(List.append_nil _).symm,⟨_,_,_,rfl,Sl.nil _ _ _,Sl.nil _ _ _,Sl.nil _ _ _⟩,rfl⟩⟩
theorem PD {S w rb bv bs s} (h:Rd S w rb bv bs s) (hg:cq S w) (hsm:bs.length≤274877906944):Calls Tryz.prog 225 #[.pointer (some ⟨rb,0,none⟩)] w (sy rK 4 S w rb bv bs (mI bs s)):=by
 have hS:=KT.start h
 have hk:=rT 3 2 bs s
 have hcn:=fun t=>cn bs t
 have hc:(bm 3 2 bs s).1=0∨(bm 3 2 bs s).1=1∨(bm 3 2 bs s).1=2:=by omega
 unfold mI LN
 clear hk
 rcases hc with hk|hk|hk
 ·simp only[hk,jU,ky,lA,if_true,if_false,Nat.reduceEqDiff,Nat.zero_ne_one]
  have hcn2:=hcn (bI bs (bm 3 2 bs s).2).2
  exact XR
 ·simp only[hk,jU,ky,lA,if_true,if_false,Nat.reduceEqDiff,Nat.one_ne_zero]
  have hcn2:=hcn (bm 3 2 bs s).2
  clear hcn
  go_enter Tryz.func225,Tryz.ntmps225
  go_wp2_with first|(go_at_call 205;refine hU fun hT=> ?_;(with_reducible refine(eG 3 2 3 2 rfl rfl (by decide) (by decide) hT.rd).mono ?_);rintro e w1 ⟨rfl,hR1,hF1⟩;have hS:=hT.call hR1 hF1;clear hT hR1 hF1;(try clear hQ);have hQ:=St.fq hS.r.st;(try clear hN);have hN:=St.aq hS.r.st)|(go_at_call 163;(try clear hQ);refine ia (fun h=>ko h) fun w1 hS hQ hN=> ?_)|(go_at_call 211;refine hU fun hT=> ?_;refine(nL hT.wide (hT.gl7 hg) hsm).mono ?_;rintro e w1 ⟨a1,c1,rfl,hP1,hR1,hF1⟩;have hS:=hT.callK hR1 hF1 hP1;clear hT hR1 hF1 hP1;(try clear hQ);have hQ:=St.fq hS.r.st;(try clear hN);have hN:=St.aq hS.r.st)|(go_at_call 199;(try clear hQ);refine ia (fun h=>cZ h) fun w1 hS hQ hN=> ?_)|(go_at_call 172;refine hU fun hT=> ?_;refine(uV _ (by omega) hT.wide).mono ?_;rintro e w1 ⟨a2,c2,rfl,hP1,hR1,hF1⟩;have hS:=hT.callK hR1 hF1 hP1;clear hT hR1 hF1 hP1;(try clear hQ);have hQ:=St.fq hS.r.st;(try clear hN);have hN:=St.aq hS.r.st)
  refine lf rfl rfl v8 rfl rfl ?_;refine Vw ?_
  refine⟨_,rfl,rfl,by simp[Value.oneCell'],?_,by exact rz,by exact rY⟩
  (apply KT.fin;(·exact gL));intro wz hz
  exact⟨_,_,rfl,eo.nil _,hz _ List.mem_cons_self⟩
 ·simp only[hk,jU,ky,lA,if_true,if_false,Nat.reduceEqDiff]
  have hcn2:=hcn (bI bs (aD bs (bm 3 2 bs s).2).2).2
  exact XR
theorem GN:ka 28 93 6 64:=md (by kernel_rfl) (by kernel_rfl)
theorem SW {S w rb bv bs s} (h:Rd S w rb bv bs s) (hg:cq S w) (hsm:bs.length≤274877906944):Calls Tryz.prog 158 #[.pointer (some ⟨rb,0,none⟩)] w (sy (qR) 6 S w rb bv bs (nZ bs s)):=KA h hg hsm
theorem Ke (n:Nat) (hn:n≤549755813887) {S w rb bv bs s} (h:Rd S w rb bv bs s) (hg:cq S w) (hsm:bs.length≤274877906944):
 Calls Tryz.prog 215 #[.pointer (some ⟨rb,0,none⟩),.int .i64 (n:Int),.func (.func 158) #[] #[]] w (d7 (qR) 93 6 S w rb bv bs (av (nZ bs) n s)):=by
 have h0:cV (nZ bs) (qR) 93 6 S w rb bv bs n s (fun _=>True) (.int .i64 n) (.slice none 0 0) w:=cV.start h (cE.pure trivial)
 go_enter Tryz.func215,Tryz.ntmps215
 go_wp2
 go_loopw [1,7] (cV (nZ bs) (qR) 93 6 S w rb bv bs n s (fun _=>True)) (fun n _ _=>(intOf n).toNat)
 case atStart=>exact h0
 case round=>
  obtain⟨j,xs,t,cs,rfl,hS,hj,hI⟩:=hrel
  by_cases hj0:j=0
  ·exact K0
  ·have hjp:0<j:=by omega
   by_cases he:t.err=0
   ·have q1:(t.err !=0)=false:=by simp[he]
    have He:=Lib.hid he
    clear he
    go_wp2_with first|(go_at_call 222;(try clear hQ);refine ia (fun h=>dI h) fun w1 hS hQ hN=> ?_)|(go_at_call 158;refine hU fun hT=> ?_;refine(SW hT.wide (hT.gl7 hg) hsm).mono ?_;rintro e w1 ⟨c1,rfl,hl1,ho1,hP1,hR1,hF1⟩;have hS:=hT.callK hR1 hF1 hP1;clear hT hR1 hF1 hP1;(try clear hQ);have hQ:=St.fq hS.r.st;(try clear hN);have hN:=St.aq hS.r.st)|(refine dr GN (by decide) (by decide) rfl rfl rfl rfl hl1 ?_)|(at_builtin;refine jA GN (by decide) (by decide) rfl rfl rfl rfl ?_;refine sX ?_;intro vN wN hS;(try clear hQ);have hQ:=St.fq hS.r.st;(try clear hN);have hN:=St.aq hS.r.st)
    exact IB
   ·exact KG
theorem OO {S w rb bv bs s} (h:Rd S w rb bv bs s) (hg:cq S w) (hsm:bs.length≤274877906944):Calls Tryz.prog 157 #[.pointer (some ⟨rb,0,none⟩),.func (.func 158) #[] #[]] w (d7 (qR) 93 6 S w rb bv bs (am bs (nZ bs) s)):=by
 have hC:=cn bs s
 have hsm0:=h.small
 have hS:=KT.start h
 have hsm1:(af bs s).1≤549755813887:=by omega
 go_enter Tryz.func157,Tryz.ntmps157
 go_wp2_with first|(go_at_call 199;(try clear hQ);refine ia (fun h=>cZ h) fun w1 hS hQ hN=> ?_)|(go_at_call 215;refine(Ke _ hsm1 hS.rd (hS.gl7 hg) hsm).mono ?_;rintro e w1 ⟨v,cs,rfl,hK⟩)
 exact Lf
theorem Gc:ka 31 67 4 64:=md (by kernel_rfl) (by kernel_rfl)
theorem Tn {S w rb bv bs s} (h:Rd S w rb bv bs s) (hg:cq S w) (hsm:bs.length≤274877906944):Calls Tryz.prog 225 #[.pointer (some ⟨rb,0,none⟩)] w (sy (rK) 4 S w rb bv bs (mI bs s)):=PD h hg hsm
theorem Ju (n:Nat) (hn:n≤549755813887) {S w rb bv bs s} (h:Rd S w rb bv bs s) (hg:cq S w) (hsm:bs.length≤274877906944):
 Calls Tryz.prog 224 #[.pointer (some ⟨rb,0,none⟩),.int .i64 (n:Int),.func (.func 225) #[] #[]] w (d7 (rK) 67 4 S w rb bv bs (av (mI bs) n s)):=by
 have h0:cV (mI bs) (rK) 67 4 S w rb bv bs n s (fun _=>True) (.int .i64 n) (.slice none 0 0) w:=cV.start h (cE.pure trivial)
 go_enter Tryz.func224,Tryz.ntmps224
 go_wp2
 go_loopw [1,7] (cV (mI bs) (rK) 67 4 S w rb bv bs n s (fun _=>True)) (fun n _ _=>(intOf n).toNat)
 case atStart=>exact h0
 case round=>
  obtain⟨j,xs,t,cs,rfl,hS,hj,hI⟩:=hrel
  by_cases hj0:j=0
  ·exact K0
  ·have hjp:0<j:=by omega
   by_cases he:t.err=0
   ·have q1:(t.err !=0)=false:=by simp[he]
    have He:=Lib.hid he
    clear he
    go_wp2_with first|(go_at_call 222;(try clear hQ);refine ia (fun h=>dI h) fun w1 hS hQ hN=> ?_)|(go_at_call 225;refine hU fun hT=> ?_;refine(Tn hT.wide (hT.gl7 hg) hsm).mono ?_;rintro e w1 ⟨c1,rfl,hl1,ho1,hP1,hR1,hF1⟩;have hS:=hT.callK hR1 hF1 hP1;clear hT hR1 hF1 hP1;(try clear hQ);have hQ:=St.fq hS.r.st;(try clear hN);have hN:=St.aq hS.r.st)|(refine dr Gc (by decide) (by decide) rfl rfl rfl rfl hl1 ?_)|(at_builtin;refine jA Gc (by decide) (by decide) rfl rfl rfl rfl ?_;refine sX ?_;intro vN wN hS;(try clear hQ);have hQ:=St.fq hS.r.st;(try clear hN);have hN:=St.aq hS.r.st)
    exact IB
   ·exact KG
theorem Fw:ka 22 51 1 24:=md (by kernel_rfl) (by kernel_rfl)
theorem Sd {S w rb bv bs s} (h:Rd S w rb bv bs s) (hg:cq S w) (hsm:bs.length≤274877906944):Calls Tryz.prog 139 #[.pointer (some ⟨rb,0,none⟩)] w (NK (xU) S w rb bv bs (gy bs s)):=(TD h).mono fun _ _ hh=>by
 obtain⟨v,cs,he,h1,h2,h3,h4⟩:=hh
 exact NK.of he h1.one ((h1.stay.and h2.stay).imp fun w hw=>⟨v,rfl,cs,hw⟩) h3 h4
theorem Hb (n:Nat) (hn:n≤549755813887) {S w rb bv bs s} (h:Rd S w rb bv bs s) (hg:cq S w) (hsm:bs.length≤274877906944):
 Calls Tryz.prog 198 #[.pointer (some ⟨rb,0,none⟩),.int .i64 (n:Int),.func (.func 139) #[] #[]] w (d7 (xU) 51 1 S w rb bv bs (av (gy bs) n s)):=by
 have h0:cV (gy bs) (xU) 51 1 S w rb bv bs n s (fun _=>True) (.int .i64 n) (.slice none 0 0) w:=cV.start h (cE.pure trivial)
 go_enter Tryz.func198,Tryz.ntmps198
 go_wp2
 go_loopw [1,7] (cV (gy bs) (xU) 51 1 S w rb bv bs n s (fun _=>True)) (fun n _ _=>(intOf n).toNat)
 case atStart=>exact h0
 case round=>
  obtain⟨j,xs,t,cs,rfl,hS,hj,hI⟩:=hrel
  by_cases hj0:j=0
  ·exact K0
  ·have hjp:0<j:=by omega
   by_cases he:t.err=0
   ·have q1:(t.err !=0)=false:=by simp[he]
    have He:=Lib.hid he
    clear he
    go_wp2_with first|(go_at_call 222;(try clear hQ);refine ia (fun h=>dI h) fun w1 hS hQ hN=> ?_)|(go_at_call 139;refine hU fun hT=> ?_;refine(Sd hT.wide (hT.gl7 hg) hsm).mono ?_;rintro e w1 ⟨v1,rfl,hv1,hP1,hR1,hF1⟩;have hl1: [v1].length=1:=rfl;have ho1:=uK hv1;have hS:=hT.callK hR1 hF1 hP1;clear hT hR1 hF1 hP1;(try clear hQ);have hQ:=St.fq hS.r.st;(try clear hN);have hN:=St.aq hS.r.st)|(refine dr Fw (by decide) (by decide) rfl rfl rfl (pW hv1) hl1 ?_)|(at_builtin;refine jA Fw (by decide) (by decide) rfl rfl rfl rfl ?_;refine sX ?_;intro vN wN hS;(try clear hQ);have hQ:=St.fq hS.r.st;(try clear hN);have hN:=St.aq hS.r.st)
    exact IB
   ·exact KG
theorem MV {S w rb bv bs s} (h:Rd S w rb bv bs s) (hg:cq S w) (hsm:bs.length≤274877906944):Calls Tryz.prog 138 #[.pointer (some ⟨rb,0,none⟩),.func (.func 139) #[] #[]] w (d7 (xU) 51 1 S w rb bv bs (am bs (gy bs) s)):=by
 have hC:=cn bs s
 have hsm0:=h.small
 have hS:=KT.start h
 have hsm1:(af bs s).1≤549755813887:=by omega
 go_enter Tryz.func138,Tryz.ntmps138
 go_wp2_with first|(go_at_call 199;(try clear hQ);refine ia (fun h=>cZ h) fun w1 hS hQ hN=> ?_)|(go_at_call 198;refine(Hb _ hsm1 hS.rd (hS.gl7 hg) hsm).mono ?_;rintro e w1 ⟨v,cs,rfl,hK⟩)
 exact Lf
theorem Fz:ka 62 53 1 24:=md (by kernel_rfl) (by kernel_rfl)
theorem SO {S w rb bv bs s} (h:Rd S w rb bv bs s) (hg:cq S w) (hsm:bs.length≤274877906944):Calls Tryz.prog 220 #[.pointer (some ⟨rb,0,none⟩)] w (NK (ou) S w rb bv bs (jK bs s)):=Lu h hg hsm
theorem Jz (n:Nat) (hn:n≤549755813887) {S w rb bv bs s} (h:Rd S w rb bv bs s) (hg:cq S w) (hsm:bs.length≤274877906944):
 Calls Tryz.prog 259 #[.pointer (some ⟨rb,0,none⟩),.int .i64 (n:Int),.func (.func 220) #[] #[]] w (d7 (ou) 53 1 S w rb bv bs (av (jK bs) n s)):=by
 have h0:cV (jK bs) (ou) 53 1 S w rb bv bs n s (fun _=>True) (.int .i64 n) (.slice none 0 0) w:=cV.start h (cE.pure trivial)
 go_enter Tryz.func259,Tryz.ntmps259
 go_wp2
 go_loopw [1,7] (cV (jK bs) (ou) 53 1 S w rb bv bs n s (fun _=>True)) (fun n _ _=>(intOf n).toNat)
 case atStart=>exact h0
 case round=>
  obtain⟨j,xs,t,cs,rfl,hS,hj,hI⟩:=hrel
  by_cases hj0:j=0
  ·exact K0
  ·have hjp:0<j:=by omega
   by_cases he:t.err=0
   ·have q1:(t.err !=0)=false:=by simp[he]
    have He:=Lib.hid he
    clear he
    go_wp2_with first|(go_at_call 222;(try clear hQ);refine ia (fun h=>dI h) fun w1 hS hQ hN=> ?_)|(go_at_call 220;refine hU fun hT=> ?_;refine(SO hT.wide (hT.gl7 hg) hsm).mono ?_;rintro e w1 ⟨v1,rfl,hv1,hP1,hR1,hF1⟩;have hl1: [v1].length=1:=rfl;have ho1:=uK hv1;have hS:=hT.callK hR1 hF1 hP1;clear hT hR1 hF1 hP1;(try clear hQ);have hQ:=St.fq hS.r.st;(try clear hN);have hN:=St.aq hS.r.st)|(refine dr Fz (by decide) (by decide) rfl rfl rfl (pW hv1) hl1 ?_)|(at_builtin;refine jA Fz (by decide) (by decide) rfl rfl rfl rfl ?_;refine sX ?_;intro vN wN hS;(try clear hQ);have hQ:=St.fq hS.r.st;(try clear hN);have hN:=St.aq hS.r.st)
    exact IB
   ·exact KG
theorem Br {S w rb bv bs s} (h:Rd S w rb bv bs s) (hg:cq S w) (hsm:bs.length≤274877906944):Calls Tryz.prog 219 #[.pointer (some ⟨rb,0,none⟩),.func (.func 220) #[] #[]] w (d7 (ou) 53 1 S w rb bv bs (am bs (jK bs) s)):=by
 have hC:=cn bs s
 have hsm0:=h.small
 have hS:=KT.start h
 have hsm1:(af bs s).1≤549755813887:=by omega
 go_enter Tryz.func219,Tryz.ntmps219
 go_wp2_with first|(go_at_call 199;(try clear hQ);refine ia (fun h=>cZ h) fun w1 hS hQ hN=> ?_)|(go_at_call 259;refine(Jz _ hsm1 hS.rd (hS.gl7 hg) hsm).mono ?_;rintro e w1 ⟨v,cs,rfl,hK⟩)
 exact Lf
theorem FV:ka 62 53 1 24:=md (by kernel_rfl) (by kernel_rfl)
theorem TT {S w rb bv bs s} (h:Rd S w rb bv bs s) (hg:cq S w) (hsm:bs.length≤274877906944):Calls Tryz.prog 211 #[.pointer (some ⟨rb,0,none⟩)] w (NK (ou) S w rb bv bs (bI bs s)):=(nL h hg hsm).mono fun _ _ hh=>by
 obtain⟨a,c,he,h1,h2,h3⟩:=hh
 exact NK.of he rfl (h1.imp fun w hw=>⟨_,rfl,hw⟩) h2 h3
theorem I5 (n:Nat) (hn:n≤549755813887) {S w rb bv bs s} (h:Rd S w rb bv bs s) (hg:cq S w) (hsm:bs.length≤274877906944):
 Calls Tryz.prog 259 #[.pointer (some ⟨rb,0,none⟩),.int .i64 (n:Int),.func (.func 211) #[] #[]] w (d7 (ou) 53 1 S w rb bv bs (av (bI bs) n s)):=by
 have h0:cV (bI bs) (ou) 53 1 S w rb bv bs n s (fun _=>True) (.int .i64 n) (.slice none 0 0) w:=cV.start h (cE.pure trivial)
 go_enter Tryz.func259,Tryz.ntmps259
 go_wp2
 go_loopw [1,7] (cV (bI bs) (ou) 53 1 S w rb bv bs n s (fun _=>True)) (fun n _ _=>(intOf n).toNat)
 case atStart=>exact h0
 case round=>
  obtain⟨j,xs,t,cs,rfl,hS,hj,hI⟩:=hrel
  by_cases hj0:j=0
  ·exact K0
  ·have hjp:0<j:=by omega
   by_cases he:t.err=0
   ·have q1:(t.err !=0)=false:=by simp[he]
    have He:=Lib.hid he
    clear he
    go_wp2_with first|(go_at_call 222;(try clear hQ);refine ia (fun h=>dI h) fun w1 hS hQ hN=> ?_)|(go_at_call 211;refine hU fun hT=> ?_;refine(TT hT.wide (hT.gl7 hg) hsm).mono ?_;rintro e w1 ⟨v1,rfl,hv1,hP1,hR1,hF1⟩;have hl1: [v1].length=1:=rfl;have ho1:=uK hv1;have hS:=hT.callK hR1 hF1 hP1;clear hT hR1 hF1 hP1;(try clear hQ);have hQ:=St.fq hS.r.st;(try clear hN);have hN:=St.aq hS.r.st)|(refine dr FV (by decide) (by decide) rfl rfl rfl (pW hv1) hl1 ?_)|(at_builtin;refine jA FV (by decide) (by decide) rfl rfl rfl rfl ?_;refine sX ?_;intro vN wN hS;(try clear hQ);have hQ:=St.fq hS.r.st;(try clear hN);have hN:=St.aq hS.r.st)
    exact IB
   ·exact KG
theorem CM {S w rb bv bs s} (h:Rd S w rb bv bs s) (hg:cq S w) (hsm:bs.length≤274877906944):Calls Tryz.prog 219 #[.pointer (some ⟨rb,0,none⟩),.func (.func 211) #[] #[]] w (d7 (ou) 53 1 S w rb bv bs (am bs (bI bs) s)):=by
 have hC:=cn bs s
 have hsm0:=h.small
 have hS:=KT.start h
 have hsm1:(af bs s).1≤549755813887:=by omega
 go_enter Tryz.func219,Tryz.ntmps219
 go_wp2_with first|(go_at_call 199;(try clear hQ);refine ia (fun h=>cZ h) fun w1 hS hQ hN=> ?_)|(go_at_call 259;refine(I5 _ hsm1 hS.rd (hS.gl7 hg) hsm).mono ?_;rintro e w1 ⟨v,cs,rfl,hK⟩)
 exact Lf
theorem ut {α:Type} (p:α→List UInt8):∀(ts:List α),(∀t,t∈ts→1≤(p t).length)→ts.length≤(ts.flatMap p).length
 | [],_=>by simp
 |t::ts,h=>by
  have h1:=h t (by simp)
  have h2:=ut p ts (fun u hu=>h u (by simp[hu]))
  rw[List.flatMap_cons,List.length_append,List.length_cons]
  omega
theorem iX {α:Type} (p:α→List UInt8) (ts:List α) (h:∀t,t∈ts→1≤(p t).length):ts.length≤(ae p ts).length:=by
 have:=ut p ts h
 exact xX
theorem E3 (t:bu) (hp:bP t=true):t.supers.length≤(dg t).length∧t.comp.params.length≤(dg t).length∧t.comp.results.length≤(dg t).length∧t.comp.fields.length≤(dg t).length:=by
 unfold bP at hp
 simp only[Bool.and_eq_true,List.all_eq_true]at hp
 obtain⟨⟨_,⟨h2,h3⟩,h4⟩,h5⟩:=hp
 have a1:=iX aZ t.supers (fun x _=>dQ _)
 have a2:=iX bZ t.comp.params (fun x hx=>iR x (h2 x hx))
 have a3:=iX bZ t.comp.results (fun x hx=>iR x (h3 x hx))
 have a4:=iX bj t.comp.fields (fun x _=>nB x)
 have e1:t.supers.length≤(if t.final_=false then 80::ae aZ t.supers else if 0<t.supers.length then 79::ae aZ t.supers else []).length:=by
  split
  ·simp;omega
  ·split
   ·simp;omega
   ·omega
 have e2:t.comp.params.length≤(if t.comp.kind=1 then 96::(ae bZ t.comp.params++ae bZ t.comp.results)else if t.comp.kind=2 then 95::ae bj t.comp.fields else 94::t.comp.fields.head?.elim [] bj).length∧
  t.comp.results.length≤(if t.comp.kind=1 then 96::(ae bZ t.comp.params++ae bZ t.comp.results)else if t.comp.kind=2 then 95::ae bj t.comp.fields else 94::t.comp.fields.head?.elim [] bj).length∧
  t.comp.fields.length≤(if t.comp.kind=1 then 96::(ae bZ t.comp.params++ae bZ t.comp.results)else if t.comp.kind=2 then 95::ae bj t.comp.fields else 94::t.comp.fields.head?.elim [] bj).length:=by
  split at h5
  ·rename_i k1
   rw[if_pos k1]
   simp at h5
   simp[h5]
   omega
  ·rename_i k1
   rw[if_neg k1]
   split at h5
   ·rename_i k2
    rw[if_pos k2]
    simp at h5
    simp[h5]
    omega
   ·rename_i k2
    rw[if_neg k2]
    split at h5
    ·simp at h5
     simp[h5]
    ·cases h5
 unfold dg
 exact zV
theorem JL {ts:List bu} {t:bu} (h:t∈ts):(dg t).length≤(o8 ts).length:=by
 match ts,h with
 | [s],h=>
  simp at h
  subst h
  exact Nat.le_refl _
 |a::b::l,h=>
  rw[sJ]
  have:∀(l:List bu),t∈l→(dg t).length≤(l.flatMap dg).length:=by
   intro l
   induction l with
   |nil=>intro h;cases h
   |cons x l ih=>
    intro h
    rw[List.flatMap_cons,List.length_append]
    rcases List.mem_cons.1 h with rfl|h
    ·omega
    ·have:=ih h;omega
  have:=this _ h
  unfold ae
  simp only[List.length_cons,List.length_append]
  omega
theorem yh {ts:List bu} (hp:ts.all bP=true):ts.length≤(o8 ts).length:=by
 match ts with
 | []=>simp
 | [s]=>
  obtain⟨b,r,e,_⟩:=pA s
  show 1≤(dg s).length
  rw[e];simp
 |a::b::l=>
  rw[sJ]
  have:=iX dg (a::b::l) (fun t _=>by obtain⟨x,r,e,_⟩:=pA t;rw[e];simp)
  simp only[List.length_cons]at this⊢
  omega
end Go.Proofs.YtpdlmdlkecnpgaaGreatDoor
