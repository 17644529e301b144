/- Texts: MdRd MdNm. -/
import Derived.Test.YtpdlmdlkecnpgaaGreatDoorH0
import Derived.Test.YtpdlmdlkecnpgaaGreatDoorH12
set_option linter.unusedSimpArgs false
set_option linter.unusedVariables false
namespace Go.Proofs.YtpdlmdlkecnpgaaGreatDoor
open Go.RowKit
theorem szo3 {P:Program} {ty n m:Nat} (h:(P.info? ty).map (·.size)=some n) (e:n=m):(P.info? ty).map (·.size)=some m:=e▸h
theorem z3q {p:Prop} (h:p:=by first|((with_reducible refine szo3 ff ?_);rfl)|((with_reducible refine szo3 vQ ?_);rfl)|((with_reducible refine szo3 vC ?_);rfl)|((with_reducible refine szo3 KO ?_);rfl)|((with_reducible refine szo3 Bt ?_);rfl)|((with_reducible refine szo3 L7 ?_);rfl)|((with_reducible refine szo3 zg ?_);rfl)|((with_reducible refine szo3 zb ?_);rfl)|((with_reducible refine szo3 sd ?_);rfl)|((with_reducible refine szo3 nj ?_);rfl)|((with_reducible refine szo3 u0 ?_);rfl)|((with_reducible refine szo3 jX ?_);rfl)|((with_reducible refine szo3 jO ?_);rfl)|((with_reducible refine szo3 jz ?_);rfl)|((with_reducible refine szo3 yd ?_);rfl)|((with_reducible refine szo3 wH ?_);rfl)|((with_reducible refine szo3 br ?_);rfl)|((with_reducible refine szo3 ur ?_);rfl)|((with_reducible refine szo3 kF ?_);rfl)):p:=h
theorem Ui3q {p:Prop} (h:p:=by
 refine lf rfl rfl (by exact zu) rfl rfl ?_;(repeat(apply Exists.intro));refine⟨?_,?_,?_,?_⟩;(·exact gL);(·exact iA);(·exact z3q)
 exact Hm
):p:=h
theorem UR3q {p:Prop} (h:p:=by
 clear hb
 go_enter Tryz.func152,Tryz.ntmps152
 go_wp2_with first|(go_at_call 205;refine hU fun hT=> ?_;(with_reducible refine(eG 5 5 5 5 rfl rfl (by decide) (by decide) hT.rd).mono ?_);rintro e w1 ⟨rfl,hR1,hF1⟩;have hS:=hT.call hR1 hF1;clear hT hR1 hF1;(try clear hQ);have hQ:=St.fq hS.r.st;(try clear hN);have hN:=St.aq hS.r.st)|(go_at_call 213;(try clear hQ);refine ia (fun h=>zJ h 64 (by decide) (by decide)) fun w1 hS hQ hN=> ?_)
 exact Ui3q
):p:=h
theorem G5 (b:Nat) (hb:b∈ [0,1,3,5,7]) (c:Nat) (h:c<256):(bits .andNot .u8 (c:Int) (b:Int) !=0)=decide (Nat.land c (255-b)≠0):=by
 have:∀b∈ [0,1,3,5,7],∀c∈List.range 256,(bits .andNot .u8 (c:Int) ((b:Nat):Int) !=0)=decide (Nat.land c (255-b)≠0):=by decide+kernel
 exact this b hb c (List.mem_range.2 h)
theorem Tf (c:Nat) (h:c<256):(bits .and .u8 (c:Int) 1 !=0)=gA c∧(bits .and .u8 (c:Int) 2 !=0)=js c∧(bits .and .u8 (c:Int) 4 !=0)=Cq c∧(bits .and .u8 (c:Int) 1==0)=!gA c:=by
 have:∀c∈List.range 256,(bits .and .u8 (c:Int) 1 !=0)=gA c∧(bits .and .u8 (c:Int) 2 !=0)=js c∧(bits .and .u8 (c:Int) 4 !=0)=Cq c∧(bits .and .u8 (c:Int) 1==0)=!gA c:=by decide+kernel
 exact this c (List.mem_range.2 h)
theorem M7 (b m:Nat) (bs:List UInt8) (s:ax):(bm b m bs s).1<256:=by
 have:=kV bs s
 unfold bm
 split<;>simp_all
set_option maxRecDepth 100000
set_option maxHeartbeats 3200000
theorem dI {S w rb bv bs s} (h:Rd S w rb bv bs s):Calls Tryz.prog 222 #[.pointer (some ⟨rb,0,none⟩)] w fun e w'=>e= .returned (.bool (s.err !=0))∧Rd S w' rb bv bs s∧Fr [rb] w w':=by
 go_enter Tryz.func222,Tryz.ntmps222
 exact WB
theorem ko {S w rb bv bs s} (h:Rd S w rb bv bs s):Calls Tryz.prog 163 #[.pointer (some ⟨rb,0,none⟩)] w fun e w'=>e= .returned (.int .i64 (aD bs s).1)∧Rd S w' rb bv bs (aD bs s).2∧Fr [rb] w w':=by
 have hlt:=pX bs s
 have hS:=KT.start h
 go_enter Tryz.func163,Tryz.ntmps163
 go_wp2_with (go_at_call 213;(try clear hQ);refine ia (fun h=>zJ h 32 (by decide) (by decide)) fun w1 hS hQ hN=> ?_)
 go_ret
 exact⟨by simp[aD,go_sem, *],by exact rz,by exact rY⟩
theorem eG (b m:Nat) (bi mi:Int) (hbi:bi=b) (hmi:mi=m) (hb:b∈ [0,1,3,5,7]) (hm:m<256) {S w rb bv bs s} (h:Rd S w rb bv bs s):
 Calls Tryz.prog 205 #[.pointer (some ⟨rb,0,none⟩),.int .u8 bi,.int .u8 mi] w fun e w'=>e= .returned (.int .u8 ((bm b m bs s).1:Nat))∧Rd S w' rb bv bs (bm b m bs s).2∧Fr [rb] w w':=by
 subst hbi hmi
 have hS:=KT.start h
 have hlt:=kV bs s
 have hA:=G5 b hb _ hlt
 have e0:bm b m bs s=if dA b m (ai bs s).1 then(0,(ai bs s).2.fail 60 s.at_)else ai bs s:=rfl
 by_cases h1:Nat.land (ai bs s).1 (255-b)≠0
 ·rw[e0,if_pos (by unfold dA;rw[decide_eq_true h1];rfl)]
  have q1:=hA.trans (decide_eq_true h1)
  clear e0 h1 hA hb
  exact WW
 ·have q1:=hA.trans (decide_eq_false h1)
  by_cases h2:m< (ai bs s).1
  ·rw[e0,if_pos (by simp[dA,h2])]
   have q2:((m:Nat):Int)< ((ai bs s).1:Nat):=by omega
   clear e0 h1 h2 hA hb
   exact WW
  ·rw[e0,if_neg (by simp[dA,h2];exact Decidable.not_not.1 h1)]
   have q2:¬((m:Nat):Int)< ((ai bs s).1:Nat):=by omega
   clear e0 h1 h2 hA hb
   exact WW
theorem mr:Tryz.prog.underlying 50=some ((Tryz.prog.underlying 50).get (by kernel_rfl)):=by kernel_rfl
theorem jX:(Tryz.prog.info? 50).map (·.size)=some 4:=by kernel_rfl
theorem kH:Tryz.prog.underlying 73=some ((Tryz.prog.underlying 73).get (by kernel_rfl)):=by kernel_rfl
theorem jO:(Tryz.prog.info? 73).map (·.size)=some 8:=by kernel_rfl
theorem pM:Tryz.prog.underlying 75=some ((Tryz.prog.underlying 75).get (by kernel_rfl)):=by kernel_rfl
theorem jz:(Tryz.prog.info? 75).map (·.size)=some 5:=by kernel_rfl
theorem u9:Tryz.prog.underlying 55=some ((Tryz.prog.underlying 55).get (by kernel_rfl)):=by kernel_rfl
theorem yd:(Tryz.prog.info? 55).map (·.size)=some 3:=by kernel_rfl
theorem AK:Tryz.prog.underlying 182=some ((Tryz.prog.underlying 182).get (by kernel_rfl)):=by kernel_rfl
theorem wH:(Tryz.prog.info? 182).map (·.size)=some 5:=by kernel_rfl
def U5 (l:eA):Value:= .agg #[.bool l.wide,.int .u64 (l.min:Int),.int .u64 (l.max:Int),.bool l.hasMax]
def XK (v:aF):Value:= .agg #[.int .i64 v.kind,.bool v.null,.int .i64 v.heap.kind,.int .i64 v.heap.n]
def N7 (t:dJ):Value:= .agg #[.int .i64 t.elem.kind,.bool t.elem.null,.int .i64 t.elem.heap.kind,.int .i64 t.elem.heap.n,.bool t.lim.wide,.int .u64 (t.lim.min:Int),.int .u64 (t.lim.max:Int),.bool t.lim.hasMax]
def Pn (g:dW):Value:= .agg #[.int .i64 g.val.kind,.bool g.val.null,.int .i64 g.val.heap.kind,.int .i64 g.val.heap.n,.bool g.mut_]
def Um (r:fN):Value:= .agg #[.int .i64 r.n,.int .i64 r.val.kind,.bool r.val.null,.int .i64 r.val.heap.kind,.int .i64 r.val.heap.n]
attribute [go_sem] U5 XK N7 Pn Um
theorem sS {S w rb bv bs s} (h:Rd S w rb bv bs s):Calls Tryz.prog 152 #[.pointer (some ⟨rb,0,none⟩)] w fun e w'=>e= .returned (U5 (jr bs s).1)∧Rd S w' rb bv bs (jr bs s).2∧Fr [rb] w w':=by
 have hS:=KT.start h
 obtain⟨q0,_,q2,_⟩:=Tf _ (M7 5 5 bs s)
 unfold jr
 cases hb:gA (bm 5 5 bs s).1
 ·rw[hb]at q0
  simp only[rp,Bool.false_eq_true,if_false]
  exact UR3q
 ·rw[hb]at q0
  simp only[rp,if_true]
  exact UR3q
theorem El {S w rb bv bs s} (h:Rd S w rb bv bs s):Calls Tryz.prog 218 #[.pointer (some ⟨rb,0,none⟩)] w fun e w'=>e= .returned (XK (sN bs s).1)∧Rd S w' rb bv bs (sN bs s).2∧Fr [rb] w w':=by
 have hS:=KT.start h
 unfold sN
 by_cases h3:(bw bs s).1.kind=3
 ·have q:((bw bs s).1.kind !=3)=false:=by simp[h3]
  rw[if_pos h3]
  exact XP
 ·have q:((bw bs s).1.kind !=3)=true:=by simp[h3]
  rw[if_neg h3]
  exact XP
theorem vY {S w rb bv bs s} (h:Rd S w rb bv bs s):Calls Tryz.prog 206 #[.pointer (some ⟨rb,0,none⟩)] w fun e w'=>e= .returned (N7 (jJ bs s).1)∧Rd S w' rb bv bs (jJ bs s).2∧Fr [rb] w w':=by
 have hS:=KT.start h
 unfold jJ
 go_enter Tryz.func206,Tryz.ntmps206
 go_wp2_with first|(go_at_call 218;(try clear hQ);refine ia (fun h=>El h) fun w1 hS hQ hN=> ?_)|(go_at_call 152;(try clear hQ);refine ia (fun h=>sS h) fun w1 hS hQ hN=> ?_)
 exact Ui3q
theorem BH {S w rb bv bs s} (h:Rd S w rb bv bs s):Calls Tryz.prog 207 #[.pointer (some ⟨rb,0,none⟩)] w fun e w'=>e= .returned (Pn (jx bs s).1)∧Rd S w' rb bv bs (jx bs s).2∧Fr [rb] w w':=by
 have hS:=KT.start h
 have hz:((((bm 1 1 bs (bw bs s).2).1:Nat):Int) !=0)=((bm 1 1 bs (bw bs s).2).1 !=0):=by rw[Bool.eq_iff_iff];simp
 unfold jx
 go_enter Tryz.func207,Tryz.ntmps207
 go_wp2_with first|(go_at_call 254;(try clear hQ);refine ia (fun h=>qP h) fun w1 hS hQ hN=> ?_)|(go_at_call 205;refine hU fun hT=> ?_;(with_reducible refine(eG 1 1 1 1 rfl rfl (by decide) (by decide) hT.rd).mono ?_);rintro e w1 ⟨rfl,hR1,hF1⟩;have hS:=hT.call hR1 hF1;clear hT hR1 hF1;(try clear hQ);have hQ:=St.fq hS.r.st;(try clear hN);have hN:=St.aq hS.r.st)
 exact Ui3q
theorem LX {S w rb bv bs s} (h:Rd S w rb bv bs s):Calls Tryz.prog 155 #[.pointer (some ⟨rb,0,none⟩)] w fun e w'=>e= .returned (.int .i64 (kU bs s).1)∧Rd S w' rb bv bs (kU bs s).2∧Fr [rb] w w':=by
 have hS:=KT.start h
 unfold kU
 go_enter Tryz.func155,Tryz.ntmps155
 go_wp2_with first|(go_at_call 205;refine hU fun hT=> ?_;(with_reducible refine(eG 0 0 0 0 rfl rfl (by decide) (by decide) hT.rd).mono ?_);rintro e w1 ⟨rfl,hR1,hF1⟩;have hS:=hT.call hR1 hF1;clear hT hR1 hF1;(try clear hQ);have hQ:=St.fq hS.r.st;(try clear hN);have hN:=St.aq hS.r.st)|(go_at_call 163;(try clear hQ);refine ia (fun h=>ko h) fun w1 hS hQ hN=> ?_)
 go_ret
 exact Hm
theorem BP {S w rb bv bs s} (h:Rd S w rb bv bs s):Calls Tryz.prog 145 #[.pointer (some ⟨rb,0,none⟩)] w fun e w'=>e= .returned (.agg #[.int .i64 (nz bs s).1.type,.slice none 0 0,.slice none 0 0])∧Rd S w' rb bv bs (nz bs s).2∧Fr [rb] w w':=by
 have hS:=KT.start h
 unfold nz
 go_enter Tryz.func145,Tryz.ntmps145
 go_wp2_with first|(go_at_call 163;(try clear hQ);refine ia (fun h=>ko h) fun w1 hS hQ hN=> ?_)
 exact Ui3q
theorem Sb {S w rb bv bs s} (h:Rd S w rb bv bs s):Calls Tryz.prog 261 #[.pointer (some ⟨rb,0,none⟩)] w fun e w'=>e= .returned (Um (kw bs s).1)∧Rd S w' rb bv bs (kw bs s).2∧Fr [rb] w w':=by
 have hS:=KT.start h
 unfold kw
 go_enter Tryz.func261,Tryz.ntmps261
 go_wp2_with first|(go_at_call 163;(try clear hQ);refine ia (fun h=>ko h) fun w1 hS hQ hN=> ?_)|(go_at_call 254;(try clear hQ);refine ia (fun h=>qP h) fun w1 hS hQ hN=> ?_)
 exact Ui3q
theorem uA {bs:List UInt8} {at_:Nat} (ha:at_≤bs.length) (h0:(dS bs at_).2.2=0):(dS bs at_).2.1≤bs.length:=by
 unfold dS at h0⊢
 split
 ·simp
 ·rename_i h1
  rw[if_neg h1]at h0
  have:=kX ha (by simpa using h1)
  split
  ·simp
  ·split
   ·simp only;omega
   ·simp
theorem JH {S w rb bv bs s} (h:Rd S w rb bv bs s):Calls Tryz.prog 226 #[.pointer (some ⟨rb,0,none⟩),.func (.func 227) #[] #[]] w fun e w'=>e= .returned (iI (cC bs s).1)∧Rd S w' rb bv bs (cC bs s).2∧Fr [rb] w w':=by
 have hC:=h.loc.cell
 have hF:=h.loc.frz
 simp only[bW]at hC
 have hle:=h.le
 have hsm:=h.small
 by_cases he:s.err=0
 ·have g1:(s.err==0)=true:=by simp[he]
  have hcon:=fun w' (hf:Fr [] w w')=>Ao S bv bs s.at_ w' (h.fr hf (by simp) (by simp)).sl hsm hle
  have hnx:=uA (bs:=bs) (at_:=s.at_) hle
  unfold cC
  rw[if_pos he]
  generalize dS bs s.at_=q at hcon hnx⊢
  obtain⟨X,nx,er⟩:=q
  simp only at hcon hnx⊢
  have Hcon:=Lib.hid hcon
  clear hcon he
  by_cases hr:er=0
  ·replace hnx:=hnx hr
   have q1:((er:Int) !=0)=false:=by simp[hr]
   rw[if_pos hr]
   clear hr
   go_enter Tryz.func226,Tryz.ntmps226
   go_wp2_with (go_at_call 228;refine(be h).mono ?_;rintro e w' ⟨rfl,rfl⟩)
   go_region_held3 (fun w'=>w'.cell? ⟨rb,0,none⟩=some (.int .i64 s.at_)∧w'.cell? ⟨rb,3,none⟩=some bv) (first|(go_keep;done)|(simp[hC];done)) (first|(go_at_call 227;refine(Hcon.out _ (by exact cF)).mono ?_;rintro e w1 ⟨rfl,hF1⟩;have hf1:Fr [] w w1:=Fr.trans (by exact cF) hF1;have hf2:Fr [rb] w w1:=hf1.mono (by simp);have hR1:=h.fr hf1 (by simp) (by simp);have hC1:=hR1.loc.cell;have hG1:=hR1.loc.frz;simp only[bW]at hC1))
   go_wp2
   go_ret
   have hf3:Fr [rb] w1 (w1.setCell ⟨rb,0,none⟩ (.int .i64 nx)):=(Fr.refl _ _).setCell (by simp) _
   exact⟨rfl,hR1.step hf3 (hR1.loc.set 0 _) hnx,hf2.trans hf3⟩
  ·have q1:((er:Int) !=0)=true:=by simp;omega
   rw[if_neg hr]
   clear hr hnx
   go_enter Tryz.func226,Tryz.ntmps226
   go_wp2_with (go_at_call 228;refine(be h).mono ?_;rintro e w' ⟨rfl,rfl⟩)
   go_region_held3 (fun w'=>w'.cell? ⟨rb,0,none⟩=some (.int .i64 s.at_)∧w'.cell? ⟨rb,3,none⟩=some bv) (first|(go_keep;done)|(simp[hC];done)) (first|(go_at_call 227;refine(Hcon.out _ (by exact cF)).mono ?_;rintro e w1 ⟨rfl,hF1⟩;have hf1:Fr [] w w1:=Fr.trans (by exact cF) hF1;have hf2:Fr [rb] w w1:=hf1.mono (by simp);have hR1:=h.fr hf1 (by simp) (by simp);have hC1:=hR1.loc.cell;have hG1:=hR1.loc.frz;simp only[bW]at hC1))
   go_wp2_with (go_at_call 174;refine(dY hR1 _ _).mono ?_;rintro e w2 ⟨rfl,hR2,hF2⟩)
   go_ret
   exact⟨rfl,hR2,hf2.trans hF2⟩
 ·have g1:(s.err==0)=false:=by simp[he]
  unfold cC
  rw[if_neg he]
  clear he
  go_enter Tryz.func226,Tryz.ntmps226
  go_wp2_with (go_at_call 228;refine(be h).mono ?_;rintro e w' ⟨rfl,rfl⟩)
  go_ret
  exact⟨rfl,h,Fr.refl _ _⟩
theorem AB {S w rb bv bs s} (h:Rd S w rb bv bs s):Calls Tryz.prog 171 #[.pointer (some ⟨rb,0,none⟩)] w fun e w'=>e= .returned (iI (cC bs s).1)∧Rd S w' rb bv bs (cC bs s).2∧Fr [rb] w w':=by
 go_enter Tryz.func171,Tryz.ntmps171
 go_wp2_with (go_at_call 226;refine(JH h).mono ?_;rintro e w1 ⟨rfl,hR1,hF1⟩)
 go_ret
 exact⟨rfl,hR1,hF1⟩
end Go.Proofs.YtpdlmdlkecnpgaaGreatDoor
