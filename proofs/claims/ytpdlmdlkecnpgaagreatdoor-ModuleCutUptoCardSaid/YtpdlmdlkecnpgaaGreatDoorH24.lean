/- Texts: MdEm MdTb MdLt MdS0 MdC0 KnownW. -/
import Derived.Test.YtpdlmdlkecnpgaaGreatDoorH0
import Derived.Test.YtpdlmdlkecnpgaaGreatDoorH23
import Derived.Test.YtpdlmdlkecnpgaaGreatDoorH5
import Derived.Test.YtpdlmdlkecnpgaaGreatDoorH12
import Derived.Laws.StructEq
set_option linter.unusedSimpArgs false
set_option linter.unusedVariables false
namespace Go.Proofs.YtpdlmdlkecnpgaaGreatDoor
open Go.RowKit
theorem Nk:(bits .and .u8 0 1=0∧bits .and .u8 1 1=1∧bits .and .u8 2 1=0∧bits .and .u8 3 1=1∧bits .and .u8 4 1=0∧bits .and .u8 5 1=1∧bits .and .u8 6 1=0∧bits .and .u8 7 1=1)∧
 (bits .and .u8 0 2=0∧bits .and .u8 1 2=0∧bits .and .u8 2 2=2∧bits .and .u8 3 2=2∧bits .and .u8 4 2=0∧bits .and .u8 5 2=0∧bits .and .u8 6 2=2∧bits .and .u8 7 2=2):=by decide+kernel
theorem Vv {α:Type} {R:α→List Value→World→Prop} {k:Nat} {v:Value} {l:List α} {cs:List Value} {w:World} (h1:Sl [] w k v l.length cs) (h2:bU R l cs w):an k R v l w:=⟨cs,h1,h2⟩
set_option maxRecDepth 100000
set_option maxHeartbeats 3200000
theorem LZ {S w rb bv bs s} (h:Rd S w rb bv bs s) (hg:cq S w) (hsm:bs.length≤274877906944) (hk:(bm 7 7 bs s).1=0):Calls Tryz.prog 166 #[.pointer (some ⟨rb,0,none⟩)] w (sy gD 8 S w rb bv bs (eS bs s)):=by
 have hS:=KT.start h
 have e0:gA 0=false:=rfl
 have e1:js 0=false:=rfl
 exact y4
theorem OZ {S w rb bv bs s} (h:Rd S w rb bv bs s) (hg:cq S w) (hsm:bs.length≤274877906944) (hk:(bm 7 7 bs s).1=1):Calls Tryz.prog 166 #[.pointer (some ⟨rb,0,none⟩)] w (sy gD 8 S w rb bv bs (eS bs s)):=by
 have hS:=KT.start h
 have e0:gA 1=true:=rfl
 have e1:js 1=false:=rfl
 exact y5
theorem Nc {S w rb bv bs s} (h:Rd S w rb bv bs s) (hg:cq S w) (hsm:bs.length≤274877906944) (hk:(bm 7 7 bs s).1=2):Calls Tryz.prog 166 #[.pointer (some ⟨rb,0,none⟩)] w (sy gD 8 S w rb bv bs (eS bs s)):=by
 have hS:=KT.start h
 have e0:gA 2=false:=rfl
 have e1:js 2=true:=rfl
 exact y4
theorem L5 {S w rb bv bs s} (h:Rd S w rb bv bs s) (hg:cq S w) (hsm:bs.length≤274877906944) (hk:(bm 7 7 bs s).1=3):Calls Tryz.prog 166 #[.pointer (some ⟨rb,0,none⟩)] w (sy gD 8 S w rb bv bs (eS bs s)):=by
 have hS:=KT.start h
 have e0:gA 3=true:=rfl
 have e1:js 3=true:=rfl
 exact y5
theorem Pr {S w rb bv bs s} (h:Rd S w rb bv bs s) (hg:cq S w) (hsm:bs.length≤274877906944) (hk:(bm 7 7 bs s).1=4):Calls Tryz.prog 166 #[.pointer (some ⟨rb,0,none⟩)] w (sy gD 8 S w rb bv bs (eS bs s)):=by
 have hS:=KT.start h
 have e0:gA 4=false:=rfl
 have e1:js 4=false:=rfl
 exact y4
theorem NI {S w rb bv bs s} (h:Rd S w rb bv bs s) (hg:cq S w) (hsm:bs.length≤274877906944) (hk:(bm 7 7 bs s).1=5):Calls Tryz.prog 166 #[.pointer (some ⟨rb,0,none⟩)] w (sy gD 8 S w rb bv bs (eS bs s)):=by
 have hS:=KT.start h
 have e0:gA 5=true:=rfl
 have e1:js 5=false:=rfl
 exact y5
theorem Ny {S w rb bv bs s} (h:Rd S w rb bv bs s) (hg:cq S w) (hsm:bs.length≤274877906944) (hk:(bm 7 7 bs s).1=6):Calls Tryz.prog 166 #[.pointer (some ⟨rb,0,none⟩)] w (sy gD 8 S w rb bv bs (eS bs s)):=by
 have hS:=KT.start h
 have e0:gA 6=false:=rfl
 have e1:js 6=true:=rfl
 exact y4
theorem Lq {S w rb bv bs s} (h:Rd S w rb bv bs s) (hg:cq S w) (hsm:bs.length≤274877906944) (hk:(bm 7 7 bs s).1=7):Calls Tryz.prog 166 #[.pointer (some ⟨rb,0,none⟩)] w (sy gD 8 S w rb bv bs (eS bs s)):=by
 have hS:=KT.start h
 have e0:gA 7=true:=rfl
 have e1:js 7=true:=rfl
 exact y5
theorem QW {S w rb bv bs s} (h:Rd S w rb bv bs s) (hg:cq S w) (hsm:bs.length≤274877906944):Calls Tryz.prog 166 #[.pointer (some ⟨rb,0,none⟩)] w (sy gD 8 S w rb bv bs (eS bs s)):=by
 have hk:=rT 7 7 bs s
 have hc:(bm 7 7 bs s).1=0∨(bm 7 7 bs s).1=1∨(bm 7 7 bs s).1=2∨(bm 7 7 bs s).1=3∨(bm 7 7 bs s).1=4∨(bm 7 7 bs s).1=5∨(bm 7 7 bs s).1=6∨(bm 7 7 bs s).1=7:=by omega
 rcases hc with hk|hk|hk|hk|hk|hk|hk|hk
 ·exact LZ h hg hsm hk
 ·exact OZ h hg hsm hk
 ·exact Nc h hg hsm hk
 ·exact L5 h hg hsm hk
 ·exact Pr h hg hsm hk
 ·exact NI h hg hsm hk
 ·exact Ny h hg hsm hk
 ·exact Lq h hg hsm hk
theorem mU:Tryz.prog.underlying 86=some ((Tryz.prog.underlying 86).get (by kernel_rfl)):=by kernel_rfl
theorem kF:(Tryz.prog.info? 86).map (·.size)=some 10:=by kernel_rfl
theorem NP {cv:Value} {S w rb bv bs s} (h:Rd S w rb bv bs s) (hg:cq S w) (hsm:bs.length≤274877906944) (hc:cE S w (fun w=>Sl [] w 1 cv bs.length (bs.map B))):Calls Tryz.prog 149 #[.pointer (some ⟨rb,0,none⟩),cv] w (sy qG 10 S w rb bv bs (nt bs s)):=by
 have hS:=KT.start h
 have hle:=h.le
 unfold nt
 by_cases hl:s.at_<bs.length
 ·obtain⟨b,off,cap,rfl,hcell⟩:∃b off cap,cv= .slice (some ⟨b,off,none⟩) bs.length cap∧∀w',Fr [rb] w w'→w'.cell? ⟨b,off+s.at_,none⟩=some (B (bs.getD s.at_ 0)):=by
   obtain⟨_,_,a,cap,hbv,_,_,_,h6⟩:=hc.now
   rcases h6 with h0|⟨b,off,rfl,_,_,_⟩
   ·omega
   ·refine⟨b,off,cap,hbv,fun w' hf=> ?_⟩
    obtain⟨_,_,a,cap',hbv',_,_,_,h7⟩:=hc w' [rb] hf (fun _ _ hm=>by simp at hm;subst hm;exact h.mem)
    rw[hbv]at hbv'
    injection hbv' with e1 _ e3
    subst e1
    rcases h7 with h0|⟨b',off',e4,_,_,hcell⟩
    ·omega
    ·injection e4 with e4
     injection e4 with e5 e6
     subst e5 e6
     rw[hcell _ (by omega)]
     simp[hl]
  have q0:(0:Int)< (bs.length:Int)-s.at_:=by omega
  have q5:(s.at_:Int)<bs.length:=by omega
  unfold B at hcell
  by_cases h64:bs.getD s.at_ 0=64
  ·have e0:dl bs s=(true,(bm 0 0 bs (ai bs s).2).2):=by unfold dl;rw[if_pos ⟨hl,h64⟩]
   simp only[e0,mX,if_true]
   rw[h64]at hcell
   have hcell:∀w',Fr [rb] w w'→w'.cell? ⟨b,off+s.at_,none⟩=some (.int .u8 64):=hcell
   have HC:=Lib.hid hcell
   clear hcell
   clear h64 e0
   go_enter Tryz.func149,Tryz.ntmps149
   go_wp2_with first|(go_at_call 173;refine hU fun hT=> ?_;refine(gU hT.rd).mono ?_;rintro e w1 ⟨rfl,nq,rfl⟩;have hS:=hT.drewN nq;clear hT;(try clear hQ);have hQ:=St.fq hS.r.st;(try clear hN);have hN:=St.aq hS.r.st;have hcw:=HC.out _ hS.fr)|(go_at_call 173;refine hU fun hT=> ?_;refine(gU hT.rd).mono ?_;rintro e w1 ⟨rfl,nq,rfl⟩;have hS:=hT.drewN nq;clear hT;(try clear hQ);have hQ:=St.fq hS.r.st;(try clear hN);have hN:=St.aq hS.r.st)|(go_at_call 175;refine hU fun hT=> ?_;refine(d5 hT.rd).mono ?_;rintro e w1 ⟨rfl,rfl⟩;clear hT)|(go_at_call 210;(try clear hQ);refine ia (fun h=>fd h) fun w1 hS hQ hN=> ?_)|(go_at_call 205;refine hU fun hT=> ?_;(with_reducible refine(eG 0 0 0 0 rfl rfl (by decide) (by decide) hT.rd).mono ?_);rintro e w1 ⟨rfl,hR1,hF1⟩;have hS:=hT.call hR1 hF1;clear hT hR1 hF1;(try clear hQ);have hQ:=St.fq hS.r.st;(try clear hN);have hN:=St.aq hS.r.st)|(go_at_call 206;(try clear hQ);refine ia (fun h=>vY h) fun w1 hS hQ hN=> ?_)|(go_at_call 211;refine hU fun hT=> ?_;refine(nL hT.wide (hT.gl7 hg) hsm).mono ?_;rintro e w1 ⟨a1,c1,rfl,hP1,hR1,hF1⟩;have hS:=hT.callK hR1 hF1 hP1;clear hT hR1 hF1 hP1;(try clear hQ);have hQ:=St.fq hS.r.st;(try clear hN);have hN:=St.aq hS.r.st)|(refine bC (ty:=86) rfl rfl rfl mU rfl ?_;refine V4 ?_)|(refine ss (ty:=86) rfl rfl rfl rfl ?_;refine VJ ?_;intro wN hS;(try clear hQ);have hQ:=St.fq hS.r.st;(try clear hN);have hN:=St.aq hS.r.st)
   refine lf rfl rfl mU rfl rfl ?_;refine Us ?_
   exact VR
  ·have e0:dl bs s=(false,s):=by unfold dl;rw[if_neg (fun h=>h64 h.2)]
   simp only[e0,mX,Bool.false_eq_true,if_false]
   have q2:((((bs.getD s.at_ 0).toNat:Nat):Int)==64)=false:=by
    simp only[beq_eq_false_iff_ne,ne_eq]
    intro hh
    exact h64 (UInt8.toNat_inj.1 (by simpa using (by omega:(bs.getD s.at_ 0).toNat=64)))
   generalize (bs.getD s.at_ 0).toNat=c at hcell q2
   have HC:=Lib.hid hcell
   clear hcell
   clear h64 e0
   exact X7
 ·have e0:dl bs s=(false,s):=by unfold dl;rw[if_neg (fun h=>hl h.1)]
  have q0:¬(0:Int)< (bs.length:Int)-s.at_:=by omega
  simp only[e0,mX,Bool.false_eq_true,if_false]
  clear e0 hl
  exact X7
theorem xK (l:List fN) (i:Nat) (h:i<l.length):ri (l.take (i+1))=ri (l.take i)+(l[i]).n.toNat:=by
 unfold ri
 rw[List.take_succ_eq_append_getElem h]
 simp only[List.map_append,List.sum_append,List.map_cons,List.map_nil,List.sum_cons,List.sum_nil,Nat.add_zero]
theorem vx {α:Type} {P:ax→α×ax} {Q:α→Prop} (h:∀s,Q (P s).1):∀(n:Nat) (s:ax),∀x∈(av P n s).1,Q x
 |0,s,x,hx=>by simp[av]at hx
 |n+1,s,x,hx=>by
  unfold av at hx
  split at hx
  ·rcases List.mem_cons.1 hx with rfl|hx
   ·exact h s
   ·exact vx h n _ x hx
  ·simp at hx
theorem xp {α:Type} {P:ax→α×ax}:∀(n:Nat) (s:ax),(av P n s).1.length≤n
 |0,s=>by simp[av]
 |n+1,s=>by
  unfold av
  split
  ·have:=xp (P:=P) n (P s).2
   simp only[List.length_cons]
   omega
  ·simp
theorem C3 {S:List Nat} {w:World} {v:Value} {l:List fN} (hs:Sl S w 5 v l.length (l.flatMap fk)) (h0:∀r∈l,0≤r.n∧r.n<9223372036854775808) (hm:l.length≤1099511627776):Calls Tryz.prog 124 #[v] w fun e w'=>e= .returned (.int .u64 (gY l:Nat))∧Fr [] w w':=by
 have hh:=hs
 obtain⟨_,_,a,cap,rfl,_⟩:=hs
 go_enter Tryz.func124,Tryz.ntmps124
 go_wp2
 go_loopw [3,8] (fun n i wr=>∃(i0:Nat),i= .int .i64 i0∧n= .int .u64 ((ri (l.take i0)% 18446744073709551616:Nat):Int)∧i0≤l.length∧Fr [] w wr) (fun _ i _=>l.length-(intOf i).toNat)
 case atStart=>exact⟨0,rfl,by simp[ri],Nat.zero_le _,by exact cF⟩
 case round=>
  obtain⟨i,rfl,rfl,hi,hF⟩:=hrel
  by_cases hl:i<l.length
  ·obtain⟨t,ht⟩:∃t,l[i]? =some t:=⟨l[i],by simp[hl]⟩
   have hsm:ri (l.take (i+1))=ri (l.take i)+t.n.toNat:=by
    rw[xK l i hl]
    simp[List.getElem?_eq_getElem hl]at ht
    rw[ht]
   have hn:=h0 t (List.mem_of_getElem? ht)
   obtain⟨b,off,cap2,hv,hb,hnS,hc⟩:=Sl.elem hh (fun _=>rfl) i t ht
   injection hv with hv1 hv2 hv3
   subst hv1 hv3
   have e0:=(hF.cell hb (by simp) _).trans (hc 0 (by decide))
   have e1:=(hF.cell hb (by simp) _).trans (hc 1 (by decide))
   have e2:=(hF.cell hb (by simp) _).trans (hc 2 (by decide))
   have e3:=(hF.cell hb (by simp) _).trans (hc 3 (by decide))
   have e4:=(hF.cell hb (by simp) _).trans (hc 4 (by decide))
   simp only[Nat.add_zero,←Nat.add_assoc,fk,cj,List.getElem?_cons_zero,List.getElem?_cons_succ]at e0 e1 e2 e3 e4
   have f1:=fun o=>hF.alloc o
   have HS:=Lib.hid hsm
   clear hsm hh hc
   go_wp2
   go_roundw
   case rel=>
    refine⟨i+1,by go_num,?_,by omega,f1 _⟩
    rw[HS.out]
    first|rfl|(congr 1;simp only[IntKind.wrap_u64];omega)|(congr 1;omega)
   case measure=>simp[intOf];omega
  ·obtain rfl:i=l.length:=by omega
   go_wp2
   go_ret
   exact⟨by rw[List.take_length];rfl,hF⟩
theorem Qs {S:List Nat} {w0 w:World} {rb:Nat} {bv:Value} {bs:List UInt8} {s:ax} {G:List bt} {L:List (World→Prop)} {v:Value} {l:List fN} {cs:List Value} (h:KT S w0 w rb bv bs s (.own 182 5 v l.length cs::G) (bU (aE fk) l cs::L)):Sl [] w 5 v l.length (l.flatMap fk):=by
 have h1:bf [] w 182 5 v l.length cs:=h.r.st.head
 have h2:=(h.stay _ List.mem_cons_self).now
 rw[←bU.plain h2]
 exact h1.sl (by simp)
theorem Kp {S w rb bv bs s} (h:Rd S w rb bv bs s) (hsm:bs.length≤274877906944):Calls Tryz.prog 223 #[.pointer (some ⟨rb,0,none⟩)] w fun e w'=>
 ∃a c,e= .returned (.slice a (bL bs s).1.length c)∧cE S w' (an 5 (aE fk) (.slice a (bL bs s).1.length c) (bL bs s).1)∧Rd S w' rb bv bs (bL bs s).2∧Fr [rb] w w':=by
 have hS:=KT.start h
 have Hr:Hid (∀r∈(am bs (kw bs) s).1,0≤r.n∧r.n<9223372036854775808):=Lib.hid fun r hr=>vx (Q:=fun r=>0≤r.n∧r.n<9223372036854775808) (fun s=>by
  have:=pX bs s
  show 0≤(aD bs s).1∧(aD bs s).1<9223372036854775808
  unfold aD
  simp only
  omega) _ _ r hr
 have Hlen:Hid ((am bs (kw bs) s).1.length≤bs.length):=Lib.hid (Nat.le_trans (xp _ _) (cn bs s))
 unfold bL
 by_cases hm:4294967295<gY (am bs (kw bs) s).1
 ·have q:(4294967295:Int)< (gY (am bs (kw bs) s).1:Nat):=by omega
  rw[if_pos hm]
  exact XO
 ·have q:¬(4294967295:Int)< (gY (am bs (kw bs) s).1:Nat):=by omega
  rw[if_neg hm]
  exact XO
def PY (cb:Nat) (cv:Value) (bs:List UInt8) (w:World):Prop:=w.cell? ⟨cb,0,none⟩=some cv∧Sl [] w 1 cv bs.length (bs.map B)
theorem TQ {S w rb bv bs s} (h:Rd S w rb bv bs s) (hg:cq S w) (hsm:bs.length≤274877906944) {cb:Nat} {cv:Value} (hct:cE S w (PY cb cv bs)):Calls Tryz.prog 148 #[.pointer (some ⟨rb,0,none⟩),.pointer (some ⟨cb,0,none⟩)] w (sy qG 10 S w rb bv bs (nt bs s)):=by
 have hS:=KT.start h
 have hcc:∀o,(w.alloc o).cell? ⟨cb,0,none⟩=some cv:=fun o=>(hct _ [] ((Fr.refl _ _).alloc o) (by simp)).1
 obtain⟨ca,cc,rfl⟩:=hct.now.2.shape
 have hst:=hct.imp (Q:=fun w=>Sl [] w 1 (.slice ca bs.length cc) bs.length (bs.map B)) fun w hw=>hw.2
 go_enter Tryz.func148,Tryz.ntmps148
 go_wp2_with first|(go_at_call 149;refine hU fun hT=> ?_;refine(NP hT.wide (hT.gl7 hg) hsm (hst.go hT.fr (fun b _ hb=>by simp at hb;subst hb;exact h.mem) (hT.wideS))).mono ?_;rintro e w1 ⟨c1,rfl,hl1,ho1,hP1,hR1,hF1⟩;have hS:=hT.callK hR1 hF1 hP1;clear hT hR1 hF1 hP1;(try clear hQ);have hQ:=St.fq hS.r.st;(try clear hN);have hN:=St.aq hS.r.st)|(refine ss (ty:=86) rfl rfl rfl rfl ?_;(repeat(apply Exists.intro));refine⟨?_,?_,?_,?_,?_,?_⟩;(·exact gL);(·exact iA);(·exact hl1);(·rw[hl1];exact kF);(·exact ho1);intro wN hS;(try clear hQ);have hQ:=St.fq hS.r.st;(try clear hN);have hN:=St.aq hS.r.st)
 refine lf rfl rfl mU rfl rfl ?_
 refine⟨_,_,_,_,_,_,_,_,_,_,_,hS,bg.here,by rw[hl1];exact kF,?_⟩
 exact⟨c1,rfl,hl1,ho1,hS.fin fun wz hz=>hz _ List.mem_cons_self,hS.rd,hS.fr⟩
theorem F9:ka 25 86 10 96:=md (by kernel_rfl) (by kernel_rfl)
theorem JV (n:Nat) (hn:n≤549755813887) {S w rb bv bs s} (h:Rd S w rb bv bs s) (hg:cq S w) (hsm:bs.length≤274877906944) {cb:Nat} {cv:Value} (hct:cE S w (PY cb cv bs)):
 Calls Tryz.prog 209 #[.pointer (some ⟨rb,0,none⟩),.int .i64 (n:Int),.func (.func 148) #[] #[.pointer (some ⟨cb,0,none⟩)]] w (d7 (qG) 86 10 S w rb bv bs (av (nt bs) n s)):=by
 have h0:cV (nt bs) (qG) 86 10 S w rb bv bs n s (PY cb cv bs) (.int .i64 n) (.slice none 0 0) w:=cV.start h hct
 go_enter Tryz.func209,Tryz.ntmps209
 go_wp2
 go_loopw [1,7] (cV (nt bs) (qG) 86 10 S w rb bv bs n s (PY cb cv bs)) (fun n _ _=>(intOf n).toNat)
 case atStart=>exact h0
 case round=>
  obtain⟨j,xs,t,cs,rfl,hS,hj,hI⟩:=hrel
  by_cases hj0:j=0
  ·exact K0
  ·have hjp:0<j:=by omega
   by_cases he:t.err=0
   ·have q1:(t.err !=0)=false:=by simp[he]
    have He:=Lib.hid he
    clear he
    go_wp2_with first|(go_at_call 222;(try clear hQ);refine ia (fun h=>dI h) fun w1 hS hQ hN=> ?_)|(go_at_call 148;refine hU fun hT=> ?_;refine(TQ hT.wide (hT.gl7 hg) hsm (hT.stay (PY cb cv bs) (List.mem_cons_of_mem _ List.mem_cons_self))).mono ?_;rintro e w1 ⟨c1,rfl,hl1,ho1,hP1,hR1,hF1⟩;have hS:=hT.callK hR1 hF1 hP1;clear hT hR1 hF1 hP1;(try clear hQ);have hQ:=St.fq hS.r.st;(try clear hN);have hN:=St.aq hS.r.st)|(refine dr F9 (by decide) (by decide) rfl rfl rfl rfl hl1 ?_)|(at_builtin;refine jA F9 (by decide) (by decide) rfl rfl rfl rfl ?_;refine sX ?_;intro vN wN hS;(try clear hQ);have hQ:=St.fq hS.r.st;(try clear hN);have hN:=St.aq hS.r.st)
    exact IB
   ·exact KG
theorem MA {S w rb bv bs s} (h:Rd S w rb bv bs s) (hg:cq S w) (hsm:bs.length≤274877906944) {cb:Nat} {cv:Value} (hct:cE S w (PY cb cv bs)):Calls Tryz.prog 147 #[.pointer (some ⟨rb,0,none⟩),.func (.func 148) #[] #[.pointer (some ⟨cb,0,none⟩)]] w (d7 (qG) 86 10 S w rb bv bs (am bs (nt bs) s)):=by
 have hC:=cn bs s
 have hsm0:=h.small
 have hS:=KT.start h
 have hsm1:(af bs s).1≤549755813887:=by omega
 go_enter Tryz.func147,Tryz.ntmps147
 go_wp2_with first|(go_at_call 199;(try clear hQ);refine ia (fun h=>cZ h) fun w1 hS hQ hN=> ?_)|(go_at_call 209;refine(JV _ hsm1 hS.rd (hS.gl7 hg) hsm (hct.go hS.fr (fun b _ hb=>by simp at hb;subst hb;exact h.mem) (fun _ _ hb=>hb))).mono ?_;rintro e w1 ⟨v,cs,rfl,hK⟩)
 exact Lf
structure LV where
 ty:Value
 im:Value
 fu:Value
 ta:Value
 me:Value
 tg:Value
 gl:Value
 ex:Value
 el:Value
 da:Value
 fcs:List Value
 xo:List Nat×(Nat→Obj)
abbrev LV.xs (V:LV):List Nat:=V.xo.1
def om (V:LV) (L:bT):List Value:= [V.ty,V.im,V.fu,V.ta,V.me,V.tg,V.gl,V.ex,.int .i64 L.m.start,V.el,V.da,.int .i64 L.count,.bool L.codes,.bool L.datas,.bool L.needs]
def Pw (V:LV) (L:bT) (w:World):Prop:=an 1 xU V.ty L.m.types w∧an 21 (aE eR) V.im L.m.imports w∧bU ku L.m.funcs V.fcs w∧an 10 qG V.ta L.m.tables w∧
 an 4 (aE du) V.me L.m.mems w∧an 1 (aE gK) V.tg L.m.tags w∧an 6 qR V.gl L.m.globals w∧an 3 (aE gw) V.ex L.m.exports w∧an 8 gD V.el L.m.elems w∧an 4 rK V.da L.m.datas w
def LV.S (V:LV) (rb lb:Nat):List Nat:=rb::lb::(Value.blk V.fu++V.xs)
def XL (w0 w:World) (lb:Nat) (rs:List Nat) (V:LV):Prop:=∀x,x∈V.xs→True∧x≠lb∧x∉rs∧x∉Value.blk V.fu∧w.heap[x]? =some (V.xo.2 x)
section
variable {w0 w w' : World} {lb : Nat} {rs : List Nat} {V V' : LV}
theorem XL.lt (h:XL w0 w lb rs V) {x:Nat} (hx:x∈V.xs):x<w.heap.size:=(Array.getElem?_eq_some_iff.1 (h x hx).2.2.2.2).1
theorem XL.fr (h:XL w0 w lb rs V) {X:List Nat} (hf:Fr X w w') (hX:∀b,b∈X→b=lb∨b∈rs∨b∈Value.blk V.fu):XL w0 w' lb rs V:=fun x hx=>by
 obtain⟨h1,h2,h3,h4,h5⟩:=h x hx
 refine⟨h1,h2,h3,h4,?_⟩
 rw[hf.block x (h.lt hx) (fun hm=>by
  rcases hX x hm with e|e|e
  ·exact h2 e
  ·exact h3 e
  ·exact h4 e)]
 exact h5
theorem XL.as (h:XL w0 w lb rs V) (hfu:V'.fu=V.fu) (hxo:V'.xo=V.xo):XL w0 w lb rs V':=by
 unfold XL LV.xs at*
 rw[hfu,hxo]
 exact h
theorem XL.more (h:XL w0 w lb rs V) (hf:Fr [] w w') {r:Nat} (hr:w.heap.size≤r):XL w0 w' lb (r::rs) V:=fun x hx=>by
 have hl:=h.lt hx
 obtain⟨h1,h2,h3,h4,h5⟩:=h.fr hf (by simp) x hx
 exact⟨h1,h2,fun hm=>(List.mem_cons.1 hm).elim (fun e=>by omega) h3,h4,h5⟩
theorem XL.less {r:Nat} (h:XL w0 w lb (r::rs) V):XL w0 w lb rs V:=fun x hx=>by
 obtain⟨h1,h2,h3,h4,h5⟩:=h x hx
 exact⟨h1,h2,fun hm=>h3 (List.mem_cons_of_mem _ hm),h4,h5⟩
theorem XL.new (h:XL w0 w lb rs V) {v:Value} (hN:jS w v) (hfu:V'.fu=v) (hxo:V'.xo=V.xo) {X:List Nat} (hf:Fr X w w') (hX:∀b,b∈X→b=lb∨b∈rs∨b∈Value.blk V.fu):XL w0 w' lb rs V':=fun x hx=>by
 unfold LV.xs at hx
 rw[hxo]at hx
 have hl:=h.lt hx
 obtain⟨h1,h2,h3,h4,h5⟩:=h.fr hf hX x hx
 exact⟨h1,h2,h3,by rw[hfu];exact hN.not hl,by rw[hxo];exact h5⟩
end
structure vB (w0 w:World) (lb rb:Nat) (V:LV) (L:bT):Prop where
 fr:Fr [] w0 w
 loc:bB w lb (om V L) 108
 own:bf [] w 55 3 V.fu L.m.funcs.length V.fcs
 newl:w0.heap.size≤lb
 newf:jS w0 V.fu
 ap:lb∉Value.blk V.fu
 newr:w0.heap.size≤rb
 apr:rb≠lb∧rb∉Value.blk V.fu
 xl:XL w0 w lb [rb] V
 stay:cE (V.S rb lb) w (Pw V L)
section
variable {w0 w w1 w' : World} {lb rb : Nat} {V V' : LV} {L L' : bT} {bv : Value} {bs : List UInt8} {s t : ax}
theorem vB.set (h:vB w0 w lb rb V L) {S1 S2:List Nat} (hR:Rd S1 w rb bv bs s) (hR1:Rd S2 w1 rb bv bs t) (hf:Fr [rb] w w1) {i:Nat} {v:Value} {P:World→Prop} (hp:cE (V.S rb lb) w1 P) (hC:(om V L).set i v=om V' L') (hfu:V'.fu=V.fu) (hxs:V'.xo=V.xo) (hfc:V'.fcs=V.fcs) (hfs:L'.m.funcs.length=L.m.funcs.length)
 (hP:∀w,Pw V L w→P w→Pw V' L' w):vB w0 (w1.setCell ⟨lb,i,none⟩ v) lb rb V' L'∧Fr [rb,lb] w (w1.setCell ⟨lb,i,none⟩ v):=by
 have hf2:Fr [lb] w1 (w1.setCell ⟨lb,i,none⟩ v):=(Fr.refl [lb] w1).setCell (p:=⟨lb,i,none⟩) (by simp) v
 have hf3:Fr [rb,lb] w (w1.setCell ⟨lb,i,none⟩ v):=(hf.mono (by simp)).trans (hf2.mono (by simp))
 refine⟨⟨h.fr.then hf3 (fun b hb=> ?_),?_,?_,h.newl,by rw[hfu];exact h.newf,by rw[hfu];exact h.ap,h.newr,by rw[hfu];exact h.apr,(h.xl.fr hf3 (fun b hb=>by simp at hb;rcases hb with rfl|rfl<;>simp)).as hfu hxs,?_⟩,hf3⟩
 ·simp at hb
  rcases hb with rfl|rfl
  ·exact .inr h.newr
  ·exact .inr h.newl
 ·rw[←hC]
  exact(h.loc.fr hf (by simpa using fun e=>h.apr.1 e.symm)).set i v
 ·rw[hfu,hfc,hfs]
  exact h.own.fr hf3 fun b hb hm=>by
   simp at hb
   rcases hb with rfl|rfl
   ·exact h.apr.2 hm
   ·exact h.ap hm
 ·have e:V'.S rb lb=V.S rb lb:=by unfold LV.S LV.xs;rw[hfu,hxs]
  rw[e]
  have hs1:=h.stay.go hf (S':=V.S rb lb) (fun b _ hb=>by simp at hb;subst hb;simp[LV.S]) (fun _ _ hb=>hb)
  exact((hs1.and hp).imp fun w hw=>hP w hw.1 hw.2).go hf2 (fun b _ hb=>by simp at hb;subst hb;simp[LV.S]) (fun _ _ hb=>hb)
theorem vB.rd (h:vB w0 w lb rb V L) (hR1:Rd (V.S rb lb) w1 rb bv bs t) (i:Nat) (v:Value):Rd (V.S rb lb) (w1.setCell ⟨lb,i,none⟩ v) rb bv bs t:=
 hR1.fr (S':= [lb]) ((Fr.refl [lb] w1).setCell (p:=⟨lb,i,none⟩) (by simp) v) (fun b _ hb=>by simp at hb;subst hb;simp[LV.S]) (by simpa using h.apr.1)
theorem vB.field {α:Type} {R:α→List Value→World→Prop} {T:TypeId} {k:Nat} {v:Value} {xs:List α} {cs:List Value} (h:vB w0 w lb rb V L) (hR:Rd (V.S rb lb) w rb bv bs s) (hK:KT (V.S rb lb) w w1 rb bv bs t [.own T k v xs.length cs] [bU R xs cs])
 (i:Nat) (V':LV) (L':bT) (hC:(om V L).set i v=om V' L') (hfu:V'.fu=V.fu) (hxs:V'.xo=V.xo) (hfc:V'.fcs=V.fcs) (hfs:L'.m.funcs.length=L.m.funcs.length) (hP:∀w,Pw V L w→an k R v xs w→Pw V' L' w):
 vB w0 (w1.setCell ⟨lb,i,none⟩ v) lb rb V' L'∧Rd (V'.S rb lb) (w1.setCell ⟨lb,i,none⟩ v) rb bv bs t:=by
 have hk:=hK.ownK bg.here
 have hp:cE (V.S rb lb) w1 (an k R v xs):=hk.fin fun wz hz=>⟨cs,hz _ List.mem_cons_self,hz _ (by simp)⟩
 have e:V'.S rb lb=V.S rb lb:=by unfold LV.S LV.xs;rw[hfu,hxs]
 exact⟨(h.set hR hK.rd hK.fr hp hC hfu hxs hfc hfs hP).1,by rw[e];exact h.rd hK.rd i v⟩
theorem vB.num (h:vB w0 w lb rb V L) (hR:Rd (V.S rb lb) w rb bv bs s) (hR1:Rd (V.S rb lb) w1 rb bv bs t) (hf:Fr [rb] w w1) (i:Nat) (v:Value) (L':bT) (hC:(om V L).set i v=om V L') (hfs:L'.m.funcs.length=L.m.funcs.length) (hP:∀w,Pw V L w→Pw V L' w):
 vB w0 (w1.setCell ⟨lb,i,none⟩ v) lb rb V L'∧Rd (V.S rb lb) (w1.setCell ⟨lb,i,none⟩ v) rb bv bs t:=
 ⟨(h.set hR hR1 hf (cE.pure trivial:cE _ _ fun _=>True) hC rfl rfl rfl hfs fun w hw _=>hP w hw).1,h.rd hR1 i v⟩
theorem vB.funs {v:Value} {xs:List dh} {cs:List Value} (h:vB w0 w lb rb V L) (hR:Rd (V.S rb lb) w rb bv bs s) (hK:KT (V.S rb lb) w w1 rb bv bs t [.own 55 3 v xs.length cs] [bU (aE rF) xs cs]) (hx:∀f∈xs,f.locals= []∧f.body= []):
 vB w0 (w1.setCell ⟨lb,2,none⟩ v) lb rb {V with fu:=v,fcs:=cs} {L with m:={L.m with funcs:=xs}}∧Rd (LV.S {V with fu:=v,fcs:=cs} rb lb) (w1.setCell ⟨lb,2,none⟩ v) rb bv bs t:=by
 have hO:bf [] w1 55 3 v xs.length cs:=hK.r.st.head
 have hN:jS w v:=fun b hb=>hK.r.st.new _ List.mem_cons_self b (by simpa [bt.blk]using hb)
 have hlw:=h.loc.lt
 have hrw:=hR.loc.lt
 have hsz:=h.fr.size
 have hlv:lb∉Value.blk v:=hN.not hlw
 have hrv:rb∉Value.blk v:=hN.not hrw
 have hf2:Fr [lb] w1 (w1.setCell ⟨lb,2,none⟩ v):=(Fr.refl [lb] w1).setCell (p:=⟨lb,2,none⟩) (by simp) v
 have hf3:Fr [rb,lb] w (w1.setCell ⟨lb,2,none⟩ v):=(hK.fr.mono (by simp)).trans (hf2.mono (by simp))
 refine⟨⟨h.fr.then hf3 (fun b hb=> ?_),?_,?_,h.newl,hN.mono hsz,hlv,h.newr,⟨h.apr.1,hrv⟩,h.xl.new hN rfl rfl hf3 (fun b hb=>by simp at hb;rcases hb with rfl|rfl<;>simp),?_⟩,?_⟩
 ·simp at hb
  rcases hb with rfl|rfl
  ·exact .inr h.newr
  ·exact .inr h.newl
 ·exact(h.loc.fr hK.fr (by simpa using fun e=>h.apr.1 e.symm)).set 2 v
 ·exact hO.fr hf2 fun b hb hm=>by simp at hb;subst hb;exact hlv hm
 ·have hs1:=h.stay.go hf3 (S':=rb::lb::(Value.blk v++V.xs)) (fun b _ hb=>by simp at hb;rcases hb with rfl|rfl<;>simp[LV.S]) (fun b hlt hb=>by
   simp only[List.mem_cons,List.mem_append]at hb
   rcases hb with rfl|rfl|hb|hb
   ·simp[LV.S]
   ·simp[LV.S]
   ·have:=hN b hb;omega
   ·simp[LV.S,hb])
  have hs2:cE (rb::lb::(Value.blk v++V.xs)) w1 (bU (aE rF) xs cs):=(hK.stay _ List.mem_cons_self).sub fun b _ hb=>by
   simp only[List.mem_cons,List.mem_append]at hb
   simp only[List.flatMap_cons,List.flatMap_nil,bt.blk,LV.S,List.append_nil,List.mem_append,List.mem_cons]
   rcases hb with rfl|rfl|hb|hb
   ·exact .inr (.inl rfl)
   ·exact .inr (.inr (.inl rfl))
   ·exact .inl hb
   ·exact .inr (.inr (.inr (.inr hb)))
  have hs3:=hs2.go hf2 (S':=rb::lb::(Value.blk v++V.xs)) (fun b _ hb=>by simp at hb;subst hb;simp) (fun _ _ hb=>hb)
  refine(hs1.and hs3).imp fun wz hw=> ?_
  obtain⟨⟨a1,a2,a3,a4⟩,hl⟩:=hw
  refine⟨a1,a2,?_,a4⟩
  show bU ku xs cs wz
  replace hl:bU (aE rF) xs cs wz:=hl
  clear hK hO hs1 hs2 hs3
  induction xs generalizing cs with
  |nil=>exact hl
  |cons x xs ih=>
   obtain⟨c,r,e,h1,h2⟩:=hl
   obtain⟨x1,x2⟩:=hx x List.mem_cons_self
   refine⟨c,r,e,⟨.slice none 0 0,.slice none 0 0,h1,?_,?_⟩,ih (fun f hf=>hx f (List.mem_cons_of_mem _ hf)) h2⟩
   ·rw[x1];exact an.nil _ _ _
   ·rw[x2];exact eo.nil _
 ·have hw:Rd (rb::lb::(Value.blk v++V.xs)) w1 rb bv bs t:=hK.wide.less (fun b hb=>by
   simp only[List.mem_cons,List.mem_append]at hb
   simp only[List.flatMap_cons,List.flatMap_nil,bt.blk,LV.S,List.append_nil,List.mem_append,List.mem_cons]
   rcases hb with rfl|rfl|hb|hb
   ·exact .inr (.inl rfl)
   ·exact .inr (.inr (.inl rfl))
   ·exact .inl hb
   ·exact .inr (.inr (.inr (.inr hb)))) (by simp)
  exact hw.fr (S':= [lb]) hf2 (fun b _ hb=>by simp at hb;subst hb;simp) (by simpa using h.apr.1)
end
theorem bU.get {α:Type} {R:α→List Value→World→Prop} {k:Nat} {w:World} (hk:∀x c,R x c w→c.length=k):∀{xs:List α} {cs:List Value},bU R xs cs w→∀(i:Nat) (x:α),xs[i]? =some x→∃c,R x c w∧c.length=k∧∀r,r<k→cs[i*k+r]? =c[r]?
 | [],_,_,i,x,h=>by simp at h
 |a::xs,_,⟨c,r,e,h1,h2⟩,0,x,h=>by
  simp only[List.getElem?_cons_zero,Option.some.injEq]at h
  subst h e
  have hl:=hk _ _ h1
  refine⟨c,h1,hl,fun j hj=> ?_⟩
  rw[Nat.zero_mul,Nat.zero_add,List.getElem?_append_left (by omega)]
 |a::xs,_,⟨c,r,e,h1,h2⟩,i+1,x,h=>by
  subst e
  obtain⟨d,h3,h4,h5⟩:=bU.get hk h2 i x (by simpa using h)
  refine⟨d,h3,h4,fun j hj=> ?_⟩
  have hl:=hk _ _ h1
  rw[List.getElem?_append_right (by rw[Nat.succ_mul];omega),←h5 j hj]
  congr 1
  rw[Nat.succ_mul]
  omega
theorem bU.len {α:Type} {R:α→List Value→World→Prop} {k:Nat} {w:World} (hk:∀x c,R x c w→c.length=k):∀{xs:List α} {cs:List Value},bU R xs cs w→cs.length=xs.length*k
 | [],_,h=>by
  have h: _= []:=h
  subst h
  simp
 |x::xs,_,⟨c,r,e,h1,h2⟩=>by
  subst e
  rw[List.length_append,hk _ _ h1,bU.len hk h2,List.length_cons,Nat.succ_mul,Nat.add_comm]
theorem an.elem {α:Type} {R:α→List Value→World→Prop} {k:Nat} {v:Value} {xs:List α} {w:World} (h:an k R v xs w) (hk:∀x c,R x c w→c.length=k) {i:Nat} {x:α} (hi:xs[i]? =some x):
 ∃b off cap c,v= .slice (some ⟨b,off,none⟩) xs.length cap∧b<w.heap.size∧R x c w∧c.length=k∧∀r,r<k→w.cell? ⟨b,off+(i*k+r),none⟩=c[r]? :=by
 obtain⟨cs,⟨h1,h2,a,cap,rfl,h4,h5,hN,h6⟩,hR⟩:=h
 have hlt:i<xs.length:=(List.getElem?_eq_some_iff.1 hi).1
 obtain⟨c,h7,h8,h9⟩:=hR.get hk i x hi
 rcases h6 with h6|⟨b,off,rfl,hn,hb,hc⟩
 ·omega
 ·refine⟨b,off,cap,c,rfl,hb,h7,h8,fun r hr=> ?_⟩
  have h10:i*k+r<xs.length*k:=by
   have:=Nat.mul_le_mul_right k (show i+1≤xs.length from hlt)
   rw[Nat.succ_mul]at this
   omega
  rw[hc _ h10,h9 r hr]
theorem an.shape {α:Type} {R:α→List Value→World→Prop} {k:Nat} {v:Value} {xs:List α} {w:World} (h:an k R v xs w):∃a cap,v= .slice a xs.length cap:=by
 obtain⟨cs,h1,_⟩:=h
 exact h1.shape
theorem CC (i:aa) (c:List Value) (w:World) (h:KU i c w):c.length=19:=by
 obtain⟨tv,lv,cv,rfl,_⟩:=h
 rfl
theorem uj {w:World} {v:Value} {is:List aa} (h:eo v is w):Calls Tryz.prog 35 #[v] w fun e w'=>e= .returned (.bool (bD is))∧w'=w:=by
 have hh:=h
 obtain⟨a,cap,rfl,hm⟩:∃a cap,v= .slice a is.length cap∧is.length≤9223372036854775807:=by
  exact TJ
 go_enter Tryz.func35,Tryz.ntmps35
 go_wp2
 go_loop [6] (fun n=>∃(i:Nat),n= .int .i64 i∧i≤is.length∧Hid (bD is=bD (is.drop i))) (fun n=>is.length-(intOf n).toNat)
 case atStart=>exact⟨0,rfl,by omega,Lib.hid rfl⟩
 case round=>
  obtain⟨i,rfl,hi,hg⟩:=hrel
  by_cases hlt:i<is.length
  ·obtain⟨t,ht⟩:∃t,is[i]? =some t:=⟨is[i],by simp[hlt]⟩
   obtain⟨b,off,cap2,c,hv,hb,⟨tv,lv,cv,rfl,_⟩,_,hc⟩:=an.elem hh (fun x c h=>CC x c w h) ht
   injection hv with hv1 hv2 hv3
   subst hv1 hv3
   have e0:=hc 0 (by decide)
   simp only[Nat.add_zero,cp,List.getElem?_cons_zero]at e0
   have hd:=gB is i t ht
   clear hc hh
   have q:((t.op==64520)=true)∨((t.op==64520)=false∧(t.op==64521)=true)∨((t.op==64520)=false∧(t.op==64521)=false∧(t.op==64265)=true)∨
    ((t.op==64520)=false∧(t.op==64521)=false∧(t.op==64265)=false∧(t.op==64274)=true)∨((t.op==64520)=false∧(t.op==64521)=false∧(t.op==64265)=false∧(t.op==64274)=false):=by
    simp only[beq_iff_eq,beq_eq_false_iff_ne];omega
   by_cases hn:ox t=true
   ·have HA:Hid (bD is=true):=Lib.hid (by rw[hg.out,hd];simp[bD,hn])
    rcases q with q0|⟨q0,q1⟩|⟨q0,q1,q2⟩|⟨q0,q1,q2,q3⟩|⟨q0,q1,q2,q3⟩
    case inr.inr.inr.inr=>exfalso;unfold ox at hn;simp at hn q0 q1 q2 q3;omega
    all_goals
     clear hn hd hg
     go_wp2
     go_ret
     exact⟨by rw[HA.out];rfl,rfl⟩
   ·have HA:Hid (bD is=bD (is.drop (i+1))):=Lib.hid (by rw[hg.out,hd];simp[bD,hn])
    rcases q with q0|⟨q0,q1⟩|⟨q0,q1,q2⟩|⟨q0,q1,q2,q3⟩|⟨q0,q1,q2,q3⟩
    case inr.inr.inr.inr=>
     clear hn hd hg
     go_wp2
     go_round
     case rel=>exact⟨i+1,by go_num,by omega,HA⟩
     case measure=>simp[intOf];omega
    all_goals(exfalso;unfold ox at hn;simp at hn q0;first|omega|(simp at q1;omega)|(simp at q2;omega)|(simp at q3;omega))
  ·have HA:Hid (bD is=false):=Lib.hid (by rw[hg.out,List.drop_eq_nil_of_le (by omega)];rfl)
   have hk:i=is.length:=by omega
   subst hk
   clear hg
   go_wp2
   go_ret
   exact⟨by rw[HA.out];rfl,rfl⟩
theorem k1:bw [100,133,0] ah=(⟨3,false,⟨13,5⟩⟩,⟨3,0,0⟩):=by decide
theorem k2:(bw [100,127] ah).2=⟨1,60,1⟩:=by decide
theorem k3:(bw [125] ah).2=⟨0,61,0⟩:=by decide
theorem k4:(gy [96,1,127,0] ah).1= [⟨true,[],⟨1,[⟨1,false,⟨0,0⟩⟩],[],[]⟩⟩]:=by decide
end Go.Proofs.YtpdlmdlkecnpgaaGreatDoor
