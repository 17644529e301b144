/- Texts: LawK PutW5 PutW6 PutW7 PutW8 PutW9 StepA St St2 St3 St4 PutB IbinP IbR TbinL3 TbinR Zs PutV CutP. -/
import Derived.Test.YtpdlmdlkecnpgaaGreatDoorH0
import Derived.Test.YtpdlmdlkecnpgaaGreatDoorH3
import Derived.Test.YtpdlmdlkecnpgaaGreatDoorH5
import Derived.Deep.RegionHeld3
import Derived.RegionTactic
import Derived.Deep.DeepCutAuto
import Derived.Deep.MidRow
import Derived.Test.YtpdlmdlkecnpgaaGreatDoorH1
set_option linter.unusedSimpArgs false
set_option linter.unusedVariables false
namespace Go.Proofs.YtpdlmdlkecnpgaaGreatDoor
open Go.ChangeShapes Go.WideShapes Go.ChangeAt Go.RowKit
theorem Vj:Tryz.prog.globalNamed "geode/tbin.heaps" =some 0:=by kernel_rfl
theorem LI:(Tryz.prog.globals[0]?).map (·.type)=some 317:=by kernel_rfl
theorem SE:Tryz.prog.underlying 317=some (.array 12 57):=by kernel_rfl
theorem Rn:Tryz.prog.underlying 57=some (.int .i64):=by kernel_rfl
theorem Kw:Tryz.prog.cellsOf 57=1:=by kernel_rfl
open Go.RowKit
theorem lx (t:aF) (hk:t.heap.ok):(bZ t).length≤13:=by
 have:=mT t.heap hk.2.1 hk.2.2
 unfold bZ
 split
 ·simp
 ·split
  ·simp
  ·split
   ·simp;omega
   ·split
    ·simp;omega
    ·omega
set_option maxRecDepth 100000
set_option maxHeartbeats 1600000
theorem ob {w:World} (v:Value) (hg:Gl (Value.blk v) w) (xs:List UInt8) (f:ey) (ho:cX w v xs) (hk:f.val.heap.ok) (hx:xs.length+32≤70368744177664):
 Calls Tryz.prog 191 #[v,nI f] w fun e w'=>∃v',e= .returned v'∧cX w' v' (xs++bj f)∧Ap w v w' v':=by
 have hsz:=fun o=>World.size_alloc w o
 have hvl:=lx f.val hk
 obtain⟨fp,ft,fm⟩:=f
 unfold nI
 dsimp only at hk hvl⊢
 have hL:bB (w.alloc (.cells #[.int .i64 fp,.int .i64 ft.kind,.bool ft.null,.int .i64 ft.heap.kind,.int .i64 ft.heap.n,.bool fm] 208)) w.heap.size [.int .i64 fp,.int .i64 ft.kind,.bool ft.null,.int .i64 ft.heap.kind,.int .i64 ft.heap.n,.bool fm] 208:=bB.new _ _ _
 have hblk:w.heap.size∉Value.blk v:=fun hm=>by have:=(bf.blk_lt ho _ hm).1;omega
 have hoo:=fun o=>cX.alloc ho o
 have f1:=fun o=>Ap.fr0 (v:=v) ((Fr.refl [] w).alloc o)
 have hb1:xs.length+1≤140737488355328:=by omega
 have hx16:xs.length+16≤70368744177664:=by omega
 by_cases q8:fp=8
 ·have g8:(fp==8)=true:=by simpa using q8
  rcases fm.eq_false_or_eq_true with rfl|rfl
  ·have hp:bj ⟨fp,ft,true⟩= [120,1]:=by unfold bj;simp[q8]
   rw[hp]
   clear hp q8
   go_enter Tryz.func191,Tryz.ntmps191
   go_wp2_with first|((at_builtin;refine dF rfl (.tmp 15) (.tmp 16) _ rfl _ _ _ rfl (cX.alloc (hoo _) _) _ _ _ rfl (jo aB (hsz _) _ _ _ rfl) hb1 ?_;intro v3 w3 hown3 hf3 hb3);have ho3:=cX.app1 (c:=120) hown3;have hA3:=((f1 _).alloc _).trans (Ap.of hf3 hb3);have hL3:=(hL.alloc _).fr hf3 hblk;have hLC3:=hL3.cell;have hLF3:=hL3.frz;have hLT3:=hL3.lt;have hb2:(xs++ [(120:UInt8)]).length+1≤140737488355328:=by simp;omega)|(at_builtin;refine dF rfl (.tmp 25) (.tmp 26) _ rfl _ _ _ rfl (cX.alloc ho3 _) _ _ _ rfl (jo aB rfl _ _ _ rfl) hb2 ?_;intro v4 w4 hown4 hf4 hb4)
   go_ret
   have ho4:=cX.app1 (c:=1) hown4
   exact Uh
  ·have hp:bj ⟨fp,ft,false⟩= [120,0]:=by unfold bj;simp[q8]
   rw[hp]
   clear hp q8
   go_enter Tryz.func191,Tryz.ntmps191
   go_wp2_with first|((at_builtin;refine dF rfl (.tmp 15) (.tmp 16) _ rfl _ _ _ rfl (cX.alloc (hoo _) _) _ _ _ rfl (jo aB (hsz _) _ _ _ rfl) hb1 ?_;intro v3 w3 hown3 hf3 hb3);have ho3:=cX.app1 (c:=120) hown3;have hA3:=((f1 _).alloc _).trans (Ap.of hf3 hb3);have hL3:=(hL.alloc _).fr hf3 hblk;have hLC3:=hL3.cell;have hLF3:=hL3.frz;have hLT3:=hL3.lt;have hb2:(xs++ [(120:UInt8)]).length+1≤140737488355328:=by simp;omega)|(at_builtin;refine dF rfl (.tmp 28) (.tmp 29) _ rfl _ _ _ rfl (cX.alloc ho3 _) _ _ _ rfl (jo aB rfl _ _ _ rfl) hb2 ?_;intro v4 w4 hown4 hf4 hb4)
   go_ret
   have ho4:=cX.app1 (c:=0) hown4
   exact Uh
 ·have g8:(fp==8)=false:=by simpa using q8
  by_cases q16:fp=16
  ·have g16:(fp==16)=true:=by simpa using q16
   rcases fm.eq_false_or_eq_true with rfl|rfl
   ·have hp:bj ⟨fp,ft,true⟩= [119,1]:=by unfold bj;simp[q8,q16]
    rw[hp]
    clear hp q8 q16
    go_enter Tryz.func191,Tryz.ntmps191
    go_wp2_with first|((at_builtin;refine dF rfl (.tmp 20) (.tmp 21) _ rfl _ _ _ rfl (cX.alloc (hoo _) _) _ _ _ rfl (jo aB (hsz _) _ _ _ rfl) hb1 ?_;intro v3 w3 hown3 hf3 hb3);have ho3:=cX.app1 (c:=119) hown3;have hA3:=((f1 _).alloc _).trans (Ap.of hf3 hb3);have hL3:=(hL.alloc _).fr hf3 hblk;have hLC3:=hL3.cell;have hLF3:=hL3.frz;have hLT3:=hL3.lt;have hb2:(xs++ [(119:UInt8)]).length+1≤140737488355328:=by simp;omega)|(at_builtin;refine dF rfl (.tmp 25) (.tmp 26) _ rfl _ _ _ rfl (cX.alloc ho3 _) _ _ _ rfl (jo aB rfl _ _ _ rfl) hb2 ?_;intro v4 w4 hown4 hf4 hb4)
    go_ret
    have ho4:=cX.app1 (c:=1) hown4
    exact Uh
   ·have hp:bj ⟨fp,ft,false⟩= [119,0]:=by unfold bj;simp[q8,q16]
    rw[hp]
    clear hp q8 q16
    go_enter Tryz.func191,Tryz.ntmps191
    go_wp2_with first|((at_builtin;refine dF rfl (.tmp 20) (.tmp 21) _ rfl _ _ _ rfl (cX.alloc (hoo _) _) _ _ _ rfl (jo aB (hsz _) _ _ _ rfl) hb1 ?_;intro v3 w3 hown3 hf3 hb3);have ho3:=cX.app1 (c:=119) hown3;have hA3:=((f1 _).alloc _).trans (Ap.of hf3 hb3);have hL3:=(hL.alloc _).fr hf3 hblk;have hLC3:=hL3.cell;have hLF3:=hL3.frz;have hLT3:=hL3.lt;have hb2:(xs++ [(119:UInt8)]).length+1≤140737488355328:=by simp;omega)|(at_builtin;refine dF rfl (.tmp 28) (.tmp 29) _ rfl _ _ _ rfl (cX.alloc ho3 _) _ _ _ rfl (jo aB rfl _ _ _ rfl) hb2 ?_;intro v4 w4 hown4 hf4 hb4)
    go_ret
    have ho4:=cX.app1 (c:=0) hown4
    exact Uh
  ·have g16:(fp==16)=false:=by simpa using q16
   rcases fm.eq_false_or_eq_true with rfl|rfl
   ·have hp:bj ⟨fp,ft,true⟩=bZ ft++ [1]:=by unfold bj;simp[q8,q16]
    rw[hp]
    clear hp q8 q16
    go_enter Tryz.func191,Tryz.ntmps191
    go_wp2_with first|(go_at_call 133;refine(ny v (hg.ap (f1 _)) xs ft (hoo _) hk hx16).mono ?_;rintro e w3 ⟨v3,rfl,ho3,hA3'⟩;have hA3:=(f1 _).trans hA3';have hL3:=hL.fr hA3'.1 hblk;have hLC3:=hL3.cell;have hLF3:=hL3.frz;have hLT3:=hL3.lt;have hb2:(xs++bZ ft).length+1≤140737488355328:=by simp;omega)|(at_builtin;refine dF rfl (.tmp 25) (.tmp 26) _ rfl _ _ _ rfl (cX.alloc ho3 _) _ _ _ rfl (jo aB rfl _ _ _ rfl) hb2 ?_;intro v4 w4 hown4 hf4 hb4)
    go_ret
    have ho4:=cX.app1 (c:=1) hown4
    exact Uh
   ·have hp:bj ⟨fp,ft,false⟩=bZ ft++ [0]:=by unfold bj;simp[q8,q16]
    rw[hp]
    clear hp q8 q16
    go_enter Tryz.func191,Tryz.ntmps191
    go_wp2_with first|(go_at_call 133;refine(ny v (hg.ap (f1 _)) xs ft (hoo _) hk hx16).mono ?_;rintro e w3 ⟨v3,rfl,ho3,hA3'⟩;have hA3:=(f1 _).trans hA3';have hL3:=hL.fr hA3'.1 hblk;have hLC3:=hL3.cell;have hLF3:=hL3.frz;have hLT3:=hL3.lt;have hb2:(xs++bZ ft).length+1≤140737488355328:=by simp;omega)|(at_builtin;refine dF rfl (.tmp 28) (.tmp 29) _ rfl _ _ _ rfl (cX.alloc ho3 _) _ _ _ rfl (jo aB rfl _ _ _ rfl) hb2 ?_;intro v4 w4 hown4 hf4 hb4)
    go_ret
    have ho4:=cX.app1 (c:=0) hown4
    exact Uh
theorem Cn {α:Type} (f:α→List Value) (k:Nat) (hk:∀t,(f t).length=k):∀(ts:List α) (i:Nat) (t:α),ts[i]? =some t→∀r,r<k→(ts.flatMap f)[i*k+r]? =(f t)[r]? :=by
 exact X8
theorem gB {α:Type} (ts:List α) (i:Nat) (t:α) (h:ts[i]? =some t):ts.drop i=t::ts.drop (i+1):=by
 obtain⟨h1,h2⟩:=List.getElem?_eq_some_iff.1 h
 rw[List.drop_eq_getElem_cons h1,h2]
theorem Sl.elem {α:Type} {S:List Nat} {w:World} {k:Nat} {v:Value} {f:α→List Value} {ts:List α} (h:Sl S w k v ts.length (ts.flatMap f)) (hk:∀t,(f t).length=k) (i:Nat) (t:α) (hi:ts[i]? =some t):
 ∃b off cap,v= .slice (some ⟨b,off,none⟩) ts.length cap∧b<w.heap.size∧b∉S∧∀r,r<k→w.cell? ⟨b,off+(i*k+r),none⟩=(f t)[r]? :=by
 obtain⟨h1,h2,a,cap,rfl,h4,h5,hN,h6⟩:=h
 have hlt:i<ts.length:=(List.getElem?_eq_some_iff.1 hi).1
 rcases h6 with h6|⟨b,off,rfl,hn,hb,hc⟩
 ·omega
 ·refine⟨b,off,cap,rfl,hb,hn,fun r hr=> ?_⟩
  have h7:i*k+r<ts.length*k:=by
   have:=Nat.mul_le_mul_right k (show i+1≤ts.length from hlt)
   rw[Nat.succ_mul]at this
   omega
  rw[hc _ h7,Cn f k hk ts i t hi r hr]
theorem Gw (S:List Nat) (w:World) (v:Value) (ts:List aF) (h:Sl S w 4 v ts.length (ts.flatMap cj)) (hl:ts.length≤1099511627776):
 Calls Tryz.prog 116 #[v,.func (.func 117) #[] #[]] w fun e w'=>e= .returned (.bool (ts.all aj))∧Fr [] w w':=by
 exact X6
theorem MU (S:List Nat) (w:World) (v:Value) (ts:List aC) (h:Sl S w 2 v ts.length (ts.flatMap ju)) (hl:ts.length≤1099511627776):
 Calls Tryz.prog 114 #[v,.func (.func 115) #[] #[]] w fun e w'=>e= .returned (.bool (ts.all bQ))∧Fr [] w w':=by
 have hh:=h
 obtain⟨_,_,a,cap,rfl,_⟩:=h
 go_enter Tryz.func114,Tryz.ntmps114
 go_wp2
 go_loopw [9] (fun n wr=>∃(i:Nat),n= .int .i64 i∧i≤ts.length∧Fr [] w wr∧Hid (ts.all bQ=(ts.drop i).all bQ)) (fun n _=>ts.length-(intOf n).toNat)
 case atStart=>exact⟨0,rfl,by omega,Fr.refl _ _,Lib.hid rfl⟩
 case round=>
  obtain⟨i,rfl,hi,hF,hg⟩:=hrel
  by_cases hlt:i<ts.length
  ·obtain⟨t,ht⟩:∃t,ts[i]? =some t:=⟨ts[i],by simp[hlt]⟩
   obtain⟨b,off,cap2,hv,hb,hnS,hc⟩:=Sl.elem hh (fun _=>rfl) i t ht
   injection hv with hv1 hv2 hv3
   subst hv1 hv3
   have hbw:b<wr.heap.size:=Nat.lt_of_lt_of_le hb hF.size
   have hd:=gB ts i t ht
   have e0:=(hF.cell hb (by simp) _).trans (hc 0 (by decide))
   have e1:=(hF.cell hb (by simp) _).trans (hc 1 (by decide))
   simp only[Nat.add_zero,←Nat.add_assoc,ju,List.getElem?_cons_zero,List.getElem?_cons_succ]at e0 e1
   have f1:=fun o=>hF.alloc o
   cases hp:bQ t
   ·have hall:ts.all bQ=false:=by rw[hg.out,hd];simp[hp]
    have Hall:=Lib.hid hall
    clear hall
    go_wp2_with (go_at_call 115;refine(tB _ t).mono ?_;rintro e w2 ⟨rfl,hF2⟩;rw[hp])
    exact QD
   ·have hall:ts.all bQ=(ts.drop (i+1)).all bQ:=by rw[hg.out,hd];simp[hp]
    have Hall:=Lib.hid hall
    clear hall
    go_wp2_with (go_at_call 115;refine(tB _ t).mono ?_;rintro e w2 ⟨rfl,hF2⟩;rw[hp])
    exact Qi
  ·have hk:i=ts.length:=by omega
   subst hk
   have hall:ts.all bQ=true:=by rw[hg.out];simp
   exact K1
theorem Jd (S:List Nat) (w:World) (v:Value) (ts:List ey) (h:Sl S w 6 v ts.length (ts.flatMap fG)) (hl:ts.length≤1099511627776):
 Calls Tryz.prog 118 #[v,.func (.func 119) #[] #[]] w fun e w'=>e= .returned (.bool (ts.all bM))∧Fr [] w w':=by
 have hh:=h
 obtain⟨_,_,a,cap,rfl,_⟩:=h
 go_enter Tryz.func118,Tryz.ntmps118
 go_wp2
 go_loopw [9] (fun n wr=>∃(i:Nat),n= .int .i64 i∧i≤ts.length∧Fr [] w wr∧Hid (ts.all bM=(ts.drop i).all bM)) (fun n _=>ts.length-(intOf n).toNat)
 case atStart=>exact⟨0,rfl,by omega,Fr.refl _ _,Lib.hid rfl⟩
 case round=>
  obtain⟨i,rfl,hi,hF,hg⟩:=hrel
  by_cases hlt:i<ts.length
  ·obtain⟨t,ht⟩:∃t,ts[i]? =some t:=⟨ts[i],by simp[hlt]⟩
   obtain⟨b,off,cap2,hv,hb,hnS,hc⟩:=Sl.elem hh (fun _=>rfl) i t ht
   injection hv with hv1 hv2 hv3
   subst hv1 hv3
   have hbw:b<wr.heap.size:=Nat.lt_of_lt_of_le hb hF.size
   have hd:=gB ts i t ht
   have e0:=(hF.cell hb (by simp) _).trans (hc 0 (by decide))
   have e1:=(hF.cell hb (by simp) _).trans (hc 1 (by decide))
   have e2:=(hF.cell hb (by simp) _).trans (hc 2 (by decide))
   have e3:=(hF.cell hb (by simp) _).trans (hc 3 (by decide))
   have e4:=(hF.cell hb (by simp) _).trans (hc 4 (by decide))
   have e5:=(hF.cell hb (by simp) _).trans (hc 5 (by decide))
   simp only[Nat.add_zero,←Nat.add_assoc,fG,List.getElem?_cons_zero,List.getElem?_cons_succ]at e0 e1 e2 e3 e4 e5
   have f1:=fun o=>hF.alloc o
   cases hp:bM t
   ·have hall:ts.all bM=false:=by rw[hg.out,hd];simp[hp]
    have Hall:=Lib.hid hall
    clear hall
    go_wp2_with (go_at_call 119;refine(oG _ t).mono ?_;rintro e w2 ⟨rfl,hF2⟩;rw[hp])
    exact QD
   ·have hall:ts.all bM=(ts.drop (i+1)).all bM:=by rw[hg.out,hd];simp[hp]
    have Hall:=Lib.hid hall
    clear hall
    go_wp2_with (go_at_call 119;refine(oG _ t).mono ?_;rintro e w2 ⟨rfl,hF2⟩;rw[hp])
    exact Qi
  ·have hk:i=ts.length:=by omega
   subst hk
   have hall:ts.all bM=true:=by rw[hg.out];simp
   exact K1
theorem j8 {α:Type} (p:α→List UInt8) (c:Nat):∀(ts:List α),(∀t,t∈ts→(p t).length≤c)→(ts.flatMap p).length≤c*ts.length
 | [],_=>by simp
 |t::ts,h=>by
  have h1:=h t (by simp)
  have h2:=j8 p c ts (fun u hu=>h u (by simp[hu]))
  rw[List.flatMap_cons,List.length_append,List.length_cons,Nat.mul_succ]
  omega
theorem pr {α:Type} (ts:List α) (i:Nat) (t:α) (h:ts[i]? =some t):ts.take (i+1)=ts.take i++ [t]:=by
 rw[List.take_add_one,h]
 rfl
theorem vi (h:aC) (h1:h.n<9223372036854775808):(aZ h).length≤16:=by
 have:=bG h.n.toNat (by omega)
 unfold aZ
 omega
theorem nH (f:ey) (hk:f.val.heap.ok):(bj f).length≤16:=by
 have:=lx f.val hk
 unfold bj
 split
 ·simp
 ·split
  ·simp
  ·simp;omega
theorem lP {w:World} (v:Value) (hg:Gl (Value.blk v) w) (xs:List UInt8) (sv:Value) (ts:List aF) (h:Sl (Value.blk v) w 4 sv ts.length (ts.flatMap cj)) (hok:∀t,t∈ts→t.heap.ok)
 (ho:cX w v xs) (hx:xs.length+16*ts.length+64≤70368744177664):
 Calls Tryz.prog 189 #[v,sv,.func (.func 133) #[] #[]] w fun e w'=>∃v',e= .returned v'∧cX w' v' (xs++ae bZ ts)∧Ap w v w' v':=by
 have hh:=h
 obtain⟨_,_,a,cap,rfl,_⟩:=h
 have hN:ts.length<18446744073709551616:=by omega
 have hlen:=bG ts.length hN
 have hb1:xs.length+(aI ts.length).length≤140737488355328:=by omega
 have hpl:∀i,((ts.take i).flatMap bZ).length≤16*ts.length:=by
  intro i
  have h1:=j8 bZ 16 (ts.take i) (fun t ht=>Nat.le_trans (lx t (hok t (List.mem_of_mem_take ht))) (by omega))
  exact Xz
 go_enter Tryz.func189,Tryz.ntmps189
 go_wp2_with first|(go_at_call 85;refine(mZ ts.length _ hN).mono ?_;rintro e w2 ⟨v2,rfl,ho2,hN2,hF2⟩;have hs2:=ho2.sl (S':= []) (by simp);have hoo2:=bf.fr ho hF2 (by simp))|(at_builtin;refine dF rfl (.tmp 9) (.tmp 13) _ rfl _ _ _ rfl hoo2 _ _ _ rfl (hs2.src aB) hb1 ?_;intro v3 w3 hown3 hf3 hb3)
 have ho3:cX w3 v3 (xs++aI ts.length):=cX.app hown3
 have hA3:Ap w v w3 v3:=(Ap.fr0 hF2).trans (Ap.of hf3 hb3)
 go_loopw [0,17] (fun u n wr=>∃(i:Nat),n= .int .i64 i∧i≤ts.length∧cX wr u (xs++(aI ts.length++(ts.take i).flatMap bZ))∧Ap w v wr u) (fun _ n _=>ts.length-(intOf n).toNat)
 case atStart=>exact⟨0,rfl,by omega,by simpa using ho3,hA3⟩
 case round=>
  obtain⟨i,rfl,hi,hoi,hAi⟩:=hrel
  have hF:=hAi.1
  by_cases hlt:i<ts.length
  ·obtain⟨t,ht⟩:∃t,ts[i]? =some t:=⟨ts[i],by simp[hlt]⟩
   obtain⟨b,off,cap2,hv,hb,hnS,hc⟩:=Sl.elem hh (fun _=>rfl) i t ht
   injection hv with hv1 hv2 hv3
   subst hv1 hv3
   have hbw:b<wr.heap.size:=Nat.lt_of_lt_of_le hb hF.size
   have htm:t∈ts:=List.mem_of_getElem? ht
   have hpi:=hpl i
   have hx2:(xs++(aI ts.length++(ts.take i).flatMap bZ)).length+16≤70368744177664:=by rw[List.length_append,List.length_append];omega
   have e0:=(hF.cell hb hnS _).trans (hc 0 (by decide))
   have e1:=(hF.cell hb hnS _).trans (hc 1 (by decide))
   have e2:=(hF.cell hb hnS _).trans (hc 2 (by decide))
   have e3:=(hF.cell hb hnS _).trans (hc 3 (by decide))
   simp only[Nat.add_zero,←Nat.add_assoc,cj,List.getElem?_cons_zero,List.getElem?_cons_succ]at e0 e1 e2 e3
   have hoa:=fun o=>cX.alloc hoi o
   have hAa:=fun o=>hAi.alloc o
   have hokt:=hok t htm
   go_wp2_with (go_at_call 133;refine(ny _ (hg.ap (hAa _)) _ t (hoa _) hokt hx2).mono ?_;rintro e w4 ⟨v4,rfl,ho4,hA4⟩)
   exact WJ
  ·exact WP
theorem ql {w:World} (v:Value) (hg:Gl (Value.blk v) w) (xs:List UInt8) (sv:Value) (ts:List ey) (h:Sl (Value.blk v) w 6 sv ts.length (ts.flatMap fG)) (hok:∀t,t∈ts→t.val.heap.ok)
 (ho:cX w v xs) (hx:xs.length+16*ts.length+64≤70368744177664):
 Calls Tryz.prog 190 #[v,sv,.func (.func 191) #[] #[]] w fun e w'=>∃v',e= .returned v'∧cX w' v' (xs++ae bj ts)∧Ap w v w' v':=by
 have hh:=h
 obtain⟨_,_,a,cap,rfl,_⟩:=h
 have hN:ts.length<18446744073709551616:=by omega
 have hlen:=bG ts.length hN
 have hb1:xs.length+(aI ts.length).length≤140737488355328:=by omega
 have hpl:∀i,((ts.take i).flatMap bj).length≤16*ts.length:=by
  intro i
  have h1:=j8 bj 16 (ts.take i) (fun t ht=>nH t (hok t (List.mem_of_mem_take ht)))
  exact Xz
 go_enter Tryz.func190,Tryz.ntmps190
 go_wp2_with first|(go_at_call 85;refine(mZ ts.length _ hN).mono ?_;rintro e w2 ⟨v2,rfl,ho2,hN2,hF2⟩;have hs2:=ho2.sl (S':= []) (by simp);have hoo2:=bf.fr ho hF2 (by simp))|(at_builtin;refine dF rfl (.tmp 9) (.tmp 13) _ rfl _ _ _ rfl hoo2 _ _ _ rfl (hs2.src aB) hb1 ?_;intro v3 w3 hown3 hf3 hb3)
 have ho3:cX w3 v3 (xs++aI ts.length):=cX.app hown3
 have hA3:Ap w v w3 v3:=(Ap.fr0 hF2).trans (Ap.of hf3 hb3)
 go_loopw [0,17] (fun u n wr=>∃(i:Nat),n= .int .i64 i∧i≤ts.length∧cX wr u (xs++(aI ts.length++(ts.take i).flatMap bj))∧Ap w v wr u) (fun _ n _=>ts.length-(intOf n).toNat)
 case atStart=>exact⟨0,rfl,by omega,by simpa using ho3,hA3⟩
 case round=>
  obtain⟨i,rfl,hi,hoi,hAi⟩:=hrel
  have hF:=hAi.1
  by_cases hlt:i<ts.length
  ·obtain⟨t,ht⟩:∃t,ts[i]? =some t:=⟨ts[i],by simp[hlt]⟩
   obtain⟨b,off,cap2,hv,hb,hnS,hc⟩:=Sl.elem hh (fun _=>rfl) i t ht
   injection hv with hv1 hv2 hv3
   subst hv1 hv3
   have hbw:b<wr.heap.size:=Nat.lt_of_lt_of_le hb hF.size
   have htm:t∈ts:=List.mem_of_getElem? ht
   have hpi:=hpl i
   have hx2:(xs++(aI ts.length++(ts.take i).flatMap bj)).length+32≤70368744177664:=by rw[List.length_append,List.length_append];omega
   have e0:=(hF.cell hb hnS _).trans (hc 0 (by decide))
   have e1:=(hF.cell hb hnS _).trans (hc 1 (by decide))
   have e2:=(hF.cell hb hnS _).trans (hc 2 (by decide))
   have e3:=(hF.cell hb hnS _).trans (hc 3 (by decide))
   have e4:=(hF.cell hb hnS _).trans (hc 4 (by decide))
   have e5:=(hF.cell hb hnS _).trans (hc 5 (by decide))
   simp only[Nat.add_zero,←Nat.add_assoc,fG,List.getElem?_cons_zero,List.getElem?_cons_succ]at e0 e1 e2 e3 e4 e5
   have hoa:=fun o=>cX.alloc hoi o
   have hAa:=fun o=>hAi.alloc o
   have hokt:=hok t htm
   go_wp2_with (go_at_call 191;refine(ob _ (hg.ap (hAa _)) _ t (hoa _) hokt hx2).mono ?_;rintro e w4 ⟨v4,rfl,ho4,hA4⟩)
   exact WJ
  ·exact WP
theorem rE {w:World} (v:Value) (hg:Gl (Value.blk v) w) (xs:List UInt8) (sv:Value) (ts:List aC) (h:Sl (Value.blk v) w 2 sv ts.length (ts.flatMap ju)) (hok:∀t,t∈ts→0≤t.n∧t.n<9223372036854775808)
 (ho:cX w v xs) (hx:xs.length+16*ts.length+64≤70368744177664):
 Calls Tryz.prog 187 #[v,sv,.func (.func 188) #[] #[]] w fun e w'=>∃v',e= .returned v'∧cX w' v' (xs++ae aZ ts)∧Ap w v w' v':=by
 have hh:=h
 obtain⟨_,_,a,cap,rfl,_⟩:=h
 have hN:ts.length<18446744073709551616:=by omega
 have hlen:=bG ts.length hN
 have hb1:xs.length+(aI ts.length).length≤140737488355328:=by omega
 have hpl:∀i,((ts.take i).flatMap aZ).length≤16*ts.length:=by
  intro i
  have h1:=j8 aZ 16 (ts.take i) (fun t ht=>vi t (hok t (List.mem_of_mem_take ht)).2)
  exact Xz
 go_enter Tryz.func187,Tryz.ntmps187
 go_wp2_with first|(go_at_call 85;refine(mZ ts.length _ hN).mono ?_;rintro e w2 ⟨v2,rfl,ho2,hN2,hF2⟩;have hs2:=ho2.sl (S':= []) (by simp);have hoo2:=bf.fr ho hF2 (by simp))|(at_builtin;refine dF rfl (.tmp 9) (.tmp 13) _ rfl _ _ _ rfl hoo2 _ _ _ rfl (hs2.src aB) hb1 ?_;intro v3 w3 hown3 hf3 hb3)
 have ho3:cX w3 v3 (xs++aI ts.length):=cX.app hown3
 have hA3:Ap w v w3 v3:=(Ap.fr0 hF2).trans (Ap.of hf3 hb3)
 go_loopw [0,17] (fun u n wr=>∃(i:Nat),n= .int .i64 i∧i≤ts.length∧cX wr u (xs++(aI ts.length++(ts.take i).flatMap aZ))∧Ap w v wr u) (fun _ n _=>ts.length-(intOf n).toNat)
 case atStart=>exact⟨0,rfl,by omega,by simpa using ho3,hA3⟩
 case round=>
  obtain⟨i,rfl,hi,hoi,hAi⟩:=hrel
  have hF:=hAi.1
  by_cases hlt:i<ts.length
  ·obtain⟨t,ht⟩:∃t,ts[i]? =some t:=⟨ts[i],by simp[hlt]⟩
   obtain⟨b,off,cap2,hv,hb,hnS,hc⟩:=Sl.elem hh (fun _=>rfl) i t ht
   injection hv with hv1 hv2 hv3
   subst hv1 hv3
   have hbw:b<wr.heap.size:=Nat.lt_of_lt_of_le hb hF.size
   have htm:t∈ts:=List.mem_of_getElem? ht
   have hpi:=hpl i
   have hx2:(xs++(aI ts.length++(ts.take i).flatMap aZ)).length+16≤70368744177664:=by rw[List.length_append,List.length_append];omega
   have e0:=(hF.cell hb hnS _).trans (hc 0 (by decide))
   have e1:=(hF.cell hb hnS _).trans (hc 1 (by decide))
   simp only[Nat.add_zero,←Nat.add_assoc,ju,List.getElem?_cons_zero,List.getElem?_cons_succ]at e0 e1
   have hoa:=fun o=>cX.alloc hoi o
   have hAa:=fun o=>hAi.alloc o
   have hokt:=hok t htm
   go_wp2_with (go_at_call 188;refine(zS _ _ t (hoa _) hokt.1 hokt.2 hx2).mono ?_;rintro e w4 ⟨v4,rfl,ho4,hA4⟩)
   exact WJ
  ·exact WP
theorem FJ (n:Nat):(((n:Nat):Int)==0)=(n==0):=by
 by_cases h:n=0
 ·subst h;rfl
 ·have:(((n:Nat):Int)==0)=false:=by simp;omega
  rw[this];simp[h]
theorem Qa (n:Nat):(((n:Nat):Int)==1)=(n==1):=Am n
theorem NZ (n m:Nat):(((n:Nat):Int)+(m:Int)==0)=(n+m==0):=by
 rw[←FJ];simp
theorem iZ (b1 b2 b3 b4:Bool) (fb:Bool) (sup:List aC) (ck:Int) (ps rs:List aF) (fs:List ey) (h1:sup.all bQ=b1) (h2:ps.all aj=b2) (h3:rs.all aj=b3) (h4:fs.all bM=b4):
 bP ⟨fb,sup,⟨ck,ps,rs,fs⟩⟩=(b1&&(b2&&b3&&b4)&&(if ck==1 then fs.length==0 else if ck==2 then ps.length+rs.length==0 else if ck==3 then ps.length+rs.length==0&&fs.length==1 else false)):=by
 simp[bP,h1,h2,h3,h4]
set_option maxHeartbeats 3200000
theorem rP (S:List Nat) (w:World) (t:bu) (hv pv rv fv:Value) (h:kb S w t hv pv rv fv) (hl:t.supers.length≤1099511627776∧t.comp.params.length≤1099511627776∧t.comp.results.length≤1099511627776∧t.comp.fields.length≤1099511627776):
 Calls Tryz.prog 59 #[.agg #[.bool t.final_,hv,.int .i64 t.comp.kind,pv,rv,fv]] w fun e w'=>e= .returned (.bool (bP t))∧Fr [] w w':=by
 obtain⟨fb,sup,⟨ck,ps,rs,fs⟩⟩:=t
 obtain⟨l1,l2,l3,l4⟩:=hl
 obtain⟨hs1,hs2,hs3,hs4⟩:=h
 dsimp only at l1 l2 l3 l4 hs1 hs2 hs3 hs4⊢
 obtain⟨ha,hc,rfl⟩:=hs1.shape
 obtain⟨pa,pc,rfl⟩:=hs2.shape
 obtain⟨ra,rc,rfl⟩:=hs3.shape
 obtain⟨fa,fc,rfl⟩:=hs4.shape
 have fo:=((Fr.refl [] w).alloc (.cells #[.bool fb,.slice ha sup.length hc,.int .i64 ck,.slice pa ps.length pc,.slice ra rs.length rc,.slice fa fs.length fc] 136)).alloc (.cells #[.int .i64 ck,.slice pa ps.length pc,.slice ra rs.length rc,.slice fa fs.length fc] 134)
 have k1:=hs1.fr fo (by simp)
 have k2:=hs2.fr fo (by simp)
 have k3:=hs3.fr fo (by simp)
 have k4:=hs4.fr fo (by simp)
 have hM:∀o1,bB ((w.alloc o1).alloc (.cells #[.int .i64 ck,.slice pa ps.length pc,.slice ra rs.length rc,.slice fa fs.length fc] 134)) (w.heap.size+1) [.int .i64 ck,.slice pa ps.length pc,.slice ra rs.length rc,.slice fa fs.length fc] 134:=by
  intro o1
  have h1:=bB.new (w.alloc o1) [.int .i64 ck,.slice pa ps.length pc,.slice ra rs.length rc,.slice fa fs.length fc] 134
  rw[World.size_alloc]at h1
  exact h1
 go_enter Tryz.func59,Tryz.ntmps59
 go_wp2_with first|(go_at_call 114;(with_reducible refine(MU S _ _ sup k1 l1).mono ?_);rintro e w1 ⟨rfl,hF1⟩;generalize hb1:sup.all bQ=b1;have Hb1:=Lib.hid hb1;clear hb1;have hM1:=(hM (.cells #[.bool fb,.slice ha sup.length hc,.int .i64 ck,.slice pa ps.length pc,.slice ra rs.length rc,.slice fa fs.length fc] 136)).fr hF1 (by simp);have kk2:=k2.fr hF1 (by simp);have kk3:=k3.fr hF1 (by simp);have kk4:=k4.fr hF1 (by simp);have ff1:=fo.trans hF1;have hLC1:=hM1.cell;have hLF1:=hM1.frz;have hLT1:=hM1.lt)|(go_at_call 116;(with_reducible refine(Gw S _ _ ps kk2 l2).mono ?_);rintro e w2 ⟨rfl,hF2⟩;generalize hb2:ps.all aj=b2;have Hb2:=Lib.hid hb2;clear hb2;have hM2:=hM1.fr hF2 (by simp);have km3:=kk3.fr hF2 (by simp);have km4:=kk4.fr hF2 (by simp);have ff2:=ff1.trans hF2;have hLC2:=hM2.cell;have hLF2:=hM2.frz;have hLT2:=hM2.lt)|(go_at_call 116;(with_reducible refine(Gw S _ _ rs km3 l3).mono ?_);rintro e w3 ⟨rfl,hF3⟩;generalize hb3:rs.all aj=b3;have Hb3:=Lib.hid hb3;clear hb3;have hM3:=hM2.fr hF3 (by simp);have PX:=km4.fr hF3 (by simp);have ff3:=ff2.trans hF3;have hLC3:=hM3.cell;have hLF3:=hM3.frz;have hLT3:=hM3.lt)|(go_at_call 118;(with_reducible refine(Jd S _ _ fs PX l4).mono ?_);rintro e w4 ⟨rfl,hF4⟩;generalize hb4:fs.all bM=b4;have Hb4:=Lib.hid hb4;clear hb4;have hM4:=hM3.fr hF4 (by simp);have ff4:=ff3.trans hF4;have hLC4:=hM4.cell;have hLF4:=hM4.frz;have hLT4:=hM4.lt)
 all_goals
  go_ret
  refine⟨congrArg Ending.returned (congrArg Value.bool ?_),by first|exact ff4|exact ff3|exact ff2|exact ff1⟩
  first|rw[iZ b1 b2 b3 b4 _ _ _ _ _ _ Hb1.out Hb2.out Hb3.out Hb4.out]|rw[iZ b1 b2 b3 _ _ _ _ _ _ _ Hb1.out Hb2.out Hb3.out rfl]|rw[iZ b1 b2 _ _ _ _ _ _ _ _ Hb1.out Hb2.out rfl rfl]|rw[iZ b1 _ _ _ _ _ _ _ _ _ Hb1.out rfl rfl rfl]
  try simp only[FJ,Qa,NZ]
  try(have q:(ps.length+rs.length==0)=true:=by(simp only[beq_iff_eq];omega));try simp only[q]
  try(have q:(ps.length+rs.length==0)=false:=by(simp only[beq_eq_false_iff_ne];omega));try simp only[q]
  simp_all
theorem aC.ok_given {h:aC} (g:jd h=true):h.ok:=by
 simp only[jd,decide_eq_true_eq]at g
 unfold aC.ok
 omega
theorem aC.ok_indexed {h:aC} (g:bQ h=true):h.ok:=by
 simp only[bQ,decide_eq_true_eq]at g
 unfold aC.ok
 omega
theorem db {v:aF} (h:aj v=true):v.heap.ok:=by
 unfold aj at h
 split at h
 ·simp only[decide_eq_true_eq]at h
  rw[h]
  unfold aC.ok
  simp
 ·split at h
  ·simp only[Bool.or_eq_true]at h
   rcases h with h|h
   ·exact aC.ok_given h
   ·exact aC.ok_indexed h
  ·cases h
theorem eZ {w:World} {ops:Array Oper} {o:Oper} {a:Act} {K:Act→World→Prop} {Q:Exit→Act→World→Prop} {E:Prop} (hgd:o.guard=none) (s x:Operand) (tx:TypeId)
 (ho:o.op= .call {callee:= .builtin .append,args:= #[s,x],argTypes:= #[34,tx]})
 (v:Value) (n:Nat) (xs:List Value) (hs:a.eval s=v) (hown:bf [] w 5 1 v n xs) (xv:Value) (m:Nat) (news:List Value) (hx:a.eval x=xv) (hsrc:Src Tryz.prog 1 tx xv m news w)
 (hb:n+m≤140737488355328)
 (h:∀v' w',bf [] w' 5 1 v' (n+m) (xs++news)→Fr (Value.blk v) w w'→(Value.blk v'=Value.blk v∨Value.blk v'= [w.heap.size])→K (a.put o.dst v') w'):
 if Region.wanted o (yielded ops a.tmps)=true then Oper.wp Tryz.prog o a w K Q else E:=by
 have hw:Region.wanted o (yielded ops a.tmps)=true:=by simp[Region.wanted,hgd]
 rw[if_pos hw]
 obtain⟨i0,hi,hz0,hz1,hz2⟩:=info_parts FN
 obtain⟨v',w',h1,h2,h3,h4⟩:=F5 (P:=Tryz.prog) (S:= []) w 34 tx o.type 5 i0 _ 1 1 aB hi hz0 hz1 hz2 rfl (by decide) (by simp) hown hsrc (by omega) (by unfold maxLen;omega)
 unfold Oper.wp execOp
 simp only[ho,resolve,invoke,builtin,Sem.run_bind,Sem.run_pure,Result.andThen_ok,List.map_toArray,List.map_cons,List.map_nil,hs,hx,h1]
 exact h _ _ h2 h3 h4
theorem bf.drew {S:List Nat} {w:World} {e:TypeId} {k n:Nat} {v:Value} {xs:List Value} (h:bf S w e k v n xs):bf S w.drew e k v n xs:=h.fr (Fr.refl [] w).drew (by simp)
theorem cX.drew {w:World} {v:Value} {xs:List UInt8} (h:cX w v xs):cX w.drew v xs:=bf.drew h
theorem j6 {P:Program} {tx e':TypeId} {g:Nat} {w:World} (hk:P.underlying tx=some (.slice e')) (hg:w.heap.size=g) (u:Value) (e:TypeId) (c:Nat) (h1:u.oneCell'=true):Src P 1 tx (.slice (some ⟨g,0,none⟩) 1 c) 1 [u] (w.alloc (.cells #[u] e)).drew:=by
 subst hg
 exact OY hk (show(w.alloc (.cells #[u] e)).cell? ⟨w.heap.size,0,none⟩=some u by simp) h1
theorem Sl.ap {w w':World} {v v' sv:Value} {k n:Nat} {cs:List Value} (h:Sl (Value.blk v) w k sv n cs) (hA:Ap w v w' v'):Sl (Value.blk v') w' k sv n cs:=by
 obtain⟨h1,h2,a,cap,h3,h4,h5,hN,h6⟩:=h
 refine⟨h1,h2,a,cap,h3,h4,h5,hN,?_⟩
 rcases h6 with h6|⟨b,off,e,hn,hb,hc⟩
 ·exact .inl h6
 ·refine .inr ⟨b,off,e,fun hm=> ?_,Nat.lt_of_lt_of_le hb hA.1.size,fun j hj=> ?_⟩
  ·rcases hA.2 b hm with h|h
   ·exact hn h
   ·omega
  ·rw[hA.1.cell hb hn];exact hc j hj
theorem bB.ap {w w':World} {v v':Value} {b:Nat} {c:List Value} {T:TypeId} (h:bB w b c T) (hA:Ap w v w' v') (hn:b∉Value.blk v):bB w' b c T:=h.fr hA.1 hn
theorem Ap.not {w w':World} {v v':Value} (hA:Ap w v w' v') {b:Nat} (hb:b<w.heap.size) (hn:b∉Value.blk v):b∉Value.blk v':=fun hm=>(hA.2 b hm).elim hn (fun h=>by omega)
theorem cX.not {w:World} {v:Value} {xs:List UInt8} (h:cX w v xs):w.heap.size∉Value.blk v:=fun hm=>by have:=(bf.blk_lt h _ hm).1;omega
structure bu.ok (t:bu):Prop where
 sup:∀h,h∈t.supers→0≤h.n∧h.n<9223372036854775808
 par:∀x,x∈t.comp.params→x.heap.ok
 res:∀x,x∈t.comp.results→x.heap.ok
 fld:∀x,x∈t.comp.fields→x.val.heap.ok
def bu.len (t:bu):Nat:=t.supers.length+t.comp.params.length+t.comp.results.length+t.comp.fields.length
inductive bt where
 |loc (b:Nat) (cs:List Value) (T:TypeId)
 |own (e:TypeId) (k:Nat) (v:Value) (n:Nat) (xs:List Value)
def bt.blk:bt→List Nat
 | .loc b _ _=> [b]
 | .own _ _ v _ _=>Value.blk v
def bt.on (w:World):bt→Prop
 | .loc b cs T=>bB w b cs T
 | .own e k v n xs=>bf [] w e k v n xs
def bt.out (v:Value) (xs:List UInt8):bt:= .own 5 1 v xs.length (xs.map B)
theorem bt.on_lt {w:World}:∀{r:bt},r.on w→∀b,b∈r.blk→b<w.heap.size
 | .loc b cs T,h,c,hc=>by
  obtain rfl:c=b:=by simpa [bt.blk]using hc
  exact bB.lt h
 | .own e k v n xs,h,c,hc=>(bf.blk_lt h c hc).1
theorem bt.on_fr {w w':World} {S:List Nat} (hf:Fr S w w'):∀{r:bt},r.on w→(∀b,b∈r.blk→b∉S)→r.on w'
 | .loc b cs T,h,hn=>bB.fr h hf (hn b (by simp[bt.blk]))
 | .own e k v n xs,h,hn=>bf.fr h hf (fun b hb hm=>hn b hm hb)
structure St (S:List Nat) (w0 w:World) (G:List bt):Prop where
 fr:Fr S w0 w
 all:∀r,r∈G→r.on w
 new:∀r,r∈G→∀b,b∈r.blk→w0.heap.size≤b
 apart:G.Pairwise (fun r s=>∀b,b∈r.blk→b∉s.blk)
inductive bg {α:Type}:List α→α→List α→Prop
 |here {r:α} {G:List α}:bg (r::G) r G
 |there {s r:α} {G G':List α}:bg G r G'→bg (s::G) r (s::G')
inductive xM {α:Type}:List α→List α→Prop
 |all {G:List α}:xM G G
 |nil {G:List α}:xM G []
 |cons {r:α} {G G1 G':List α}:bg G r G1→xM G1 G'→xM G (r::G')
 |skip {r:α} {G G':List α}:xM G G'→xM (r::G) G'
theorem bg.mem {α:Type} {G G':List α} {r:α} (h:bg G r G'):∀s,s∈G↔s=r∨s∈G':=by
 induction h with
 |here=>intro s;simp
 |there h ih=>intro s;rw[List.mem_cons,ih,List.mem_cons];constructor<;>rintro(h|h|h)<;>simp[h]
theorem bg.apart {G G':List bt} {r:bt} (h:bg G r G') (ha:G.Pairwise (fun r s=>∀b,b∈r.blk→b∉s.blk)):
 (r::G').Pairwise (fun r s=>∀b,b∈r.blk→b∉s.blk):=by
 induction h with
 |here=>exact ha
 | @there s r G G' h ih=>
  rw[List.pairwise_cons]at ha
  have h2:=ih ha.2
  rw[List.pairwise_cons]at h2
  rw[List.pairwise_cons,List.pairwise_cons]
  refine⟨fun x hx b hb hb'=> ?_,fun x hx=>ha.1 x ((h.mem x).2 (.inr hx)),h2.2⟩
  rcases List.mem_cons.1 hx with rfl|hx
  ·exact ha.1 r ((h.mem r).2 (.inl rfl)) b hb' hb
  ·exact h2.1 x hx b hb hb'
section
variable {S : List Nat} {w0 w : World} {G G' : List bt}
theorem St.start (S:List Nat) (w:World):St S w w []:=⟨Fr.refl _ _,(fun _ h=>by cases h),(fun _ h=>by cases h),List.Pairwise.nil⟩
theorem St.pick (h:St S w0 w G) {r:bt} (p:bg G r G'):St S w0 w (r::G'):=
 ⟨h.fr,fun s hs=>h.all s ((p.mem s).2 (List.mem_cons.1 hs)),fun s hs=>h.new s ((p.mem s).2 (List.mem_cons.1 hs)),p.apart h.apart⟩
theorem St.tail {r:bt} (h:St S w0 w (r::G)):St S w0 w G:=
 ⟨h.fr,fun s hs=>h.all s (List.mem_cons_of_mem _ hs),fun s hs=>h.new s (List.mem_cons_of_mem _ hs),(List.pairwise_cons.1 h.apart).2⟩
theorem bg.of_mem {α:Type} {G G':List α} {r:α} (h:bg G r G') {s:α} (hs:s∈G'):s∈G:=(h.mem s).2 (.inr hs)
theorem xM.mem {α:Type} {G G':List α} (h:xM G G'):∀s,s∈G'→s∈G:=by
 induction h with
 |all=>exact fun _ h=>h
 |nil=>exact fun _ h=>by cases h
 |cons p _ ih=>exact fun s hs=>(List.mem_cons.1 hs).elim (fun e=>(p.mem s).2 (.inl e)) (fun hs=>p.of_mem (ih s hs))
 |skip _ ih=>exact fun s hs=>List.mem_cons_of_mem _ (ih s hs)
theorem xM.apart {G G':List bt} (h:xM G G') (ha:G.Pairwise (fun r s=>∀b,b∈r.blk→b∉s.blk)):G'.Pairwise (fun r s=>∀b,b∈r.blk→b∉s.blk):=by
 induction h with
 |all=>exact ha
 |nil=>exact List.Pairwise.nil
 |cons p q ih=>
  have h1:=List.pairwise_cons.1 (p.apart ha)
  exact List.pairwise_cons.2 ⟨fun s hs=>h1.1 s (q.mem s hs),ih h1.2⟩
 |skip _ ih=>exact ih (List.pairwise_cons.1 ha).2
theorem St.sel (h:St S w0 w G) (p:xM G G'):St S w0 w G':=
 ⟨h.fr,fun s hs=>h.all s (p.mem s hs),fun s hs=>h.new s (p.mem s hs),p.apart h.apart⟩
theorem St.lt (h:St S w0 w G) {r:bt} (hr:r∈G) {b:Nat} (hb:b∈r.blk):b<w.heap.size:=bt.on_lt (h.all r hr) b hb
theorem St.step (h:St S w0 w G) {S':List Nat} {w':World} (hf:Fr S' w w') (hS:∀b,b∈S'→b∈S∧b<w0.heap.size):St S w0 w' G:=
 ⟨h.fr.then hf (fun b hb=> .inl (hS b hb).1),fun r hr=>bt.on_fr hf (h.all r hr) (fun b hb hm=>by have:=h.new r hr b hb;have:=(hS b hm).2;omega),h.new,h.apart⟩
theorem St.step0 (h:St S w0 w G) {w':World} (hf:Fr [] w w'):St S w0 w' G:=h.step hf (by simp)
theorem St.drew (h:St S w0 w G):St S w0 w.drew G:=h.step0 ((Fr.refl _ _).drew)
theorem St.drewN (h:St S w0 w G) (n:Nat):St S w0 (w.drewN n) G:=h.step0 ((Fr.refl _ _).drewN n)
theorem St.alloc' (h:St S w0 w G) (o:Obj):St S w0 (w.alloc o) G:=h.step0 ((Fr.refl _ _).alloc o)
theorem St.put (h:St S w0 w G) {r:bt} (hr:r.on w) (hn:∀b,b∈r.blk→w0.heap.size≤b) (ha:∀b,b∈r.blk→∀s,s∈G→b∉s.blk):St S w0 w (r::G):=
 ⟨h.fr,fun s hs=>(List.mem_cons.1 hs).elim (fun e=>e▸hr) (h.all s),fun s hs=>(List.mem_cons.1 hs).elim (fun e=>e▸hn) (h.new s),
  List.pairwise_cons.2 ⟨fun s hs b hb=>ha b hb s hs,h.apart⟩⟩
theorem St.alloc (h:St S w0 w G) (cs:List Value) (T:TypeId):St S w0 (w.alloc (.cells cs.toArray T)) (.loc w.heap.size cs T::G):=by
 refine(h.alloc' _).put (bB.new w cs T) (fun b hb=> ?_) (fun b hb s hs hm=> ?_)
 ·obtain rfl:b=w.heap.size:=by simpa [bt.blk]using hb
  exact h.fr.size
 ·obtain rfl:b=w.heap.size:=by simpa [bt.blk]using hb
  exact Nat.lt_irrefl _ (h.lt hs hm)
theorem St.call (h:St S w0 w G) {S':List Nat} {w':World} {D:List bt} (k:St S' w w' D) (hS:∀b,b∈S'→b∈S∧b<w0.heap.size):St S w0 w' (D++G):=by
 have h1:=h.step k.fr hS
 refine⟨h1.fr,fun r hr=>(List.mem_append.1 hr).elim (k.all r) (h1.all r),fun r hr b hb=> ?_,?_⟩
 ·rcases List.mem_append.1 hr with hr|hr
  ·exact Nat.le_trans h.fr.size (k.new r hr b hb)
  ·exact h.new r hr b hb
 ·refine List.pairwise_append.2 ⟨k.apart,h.apart,fun r hr s hs b hb hm=> ?_⟩
  have h2:=k.new r hr b hb
  have h3:=h.lt hs hm
  omega
theorem St.turn {r:bt} (h:St S w0 w (r::G)) {S':List Nat} {w':World} {r':bt} (hf:Fr (r.blk++S') w w') (hS:∀b,b∈S'→b∈S∧b<w0.heap.size) (hr:r'.on w') (hb:∀b,b∈r'.blk→b∈r.blk∨w.heap.size≤b):
 St S w0 w' (r'::G):=by
 have ha:=List.pairwise_cons.1 h.apart
 have hn:=h.new r (by simp)
 have hsz:=h.fr.size
 have h0:St S w0 w' G:=by
  refine⟨h.fr.then hf (fun b hb=> ?_),fun s hs=>bt.on_fr hf (h.all s (by simp[hs])) (fun b hb hm=> ?_),fun s hs=>h.new s (by simp[hs]),ha.2⟩
  ·rcases List.mem_append.1 hb with hb|hb
   ·exact .inr (hn b hb)
   ·exact .inl (hS b hb).1
  ·rcases List.mem_append.1 hm with hm|hm
   ·exact ha.1 s hs b hm hb
   ·have:=h.new s (by simp[hs]) b hb
    have:=(hS b hm).2
    omega
 refine h0.put hr (fun b hb'=> ?_) (fun b hb' s hs hm=> ?_)
 ·rcases hb b hb' with h|h
  ·exact hn b h
  ·omega
 ·rcases hb b hb' with h1|h1
  ·exact ha.1 s hs b h1 hm
  ·have:=h.lt (r:=s) (by simp[hs]) hm
   omega
theorem St.app {e:TypeId} {k n n':Nat} {v v':Value} {xs xs':List Value} (h:St S w0 w (.own e k v n xs::G)) {w':World} (hf:Fr (Value.blk v) w w') (ho:bf [] w' e k v' n' xs') (hb:Value.blk v'=Value.blk v∨Value.blk v'= [w.heap.size]):
 St S w0 w' (.own e k v' n' xs'::G):=by
 refine h.turn (S':= []) (r':= .own e k v' n' xs') (by simpa [bt.blk]using hf) (by simp) ho (fun b hm=> ?_)
 rcases hb with hb|hb
 ·left;simpa [bt.blk,hb]using hm
 ·right
  have:b=w.heap.size:=by simpa [bt.blk,hb]using hm
  omega
theorem St.ap {v v':Value} {xs ys:List UInt8} (h:St S w0 w (bt.out v xs::G)) {w':World} (ho:cX w' v' ys) (ha:Ap w v w' v'):St S w0 w' (bt.out v' ys::G):=
 h.turn (S':= []) (r':=bt.out v' ys) (by simpa [bt.blk,bt.out]using ha.1) (by simp) ho (fun b hm=>ha.2 b hm)
theorem St.head {r:bt} (h:St S w0 w (r::G)):r.on w:=h.all r (by simp)
theorem St.set {b:Nat} {cs:List Value} {T:TypeId} (h:St S w0 w G) (p:bg G (.loc b cs T) G') (i:Nat) (u:Value):St S w0 (w.setCell ⟨b,i,none⟩ u) (.loc b (cs.set i u) T::G'):=
 (h.pick p).turn (S':= []) (r':= .loc b (cs.set i u) T) (by simpa [bt.blk]using (Fr.refl [b] w).setCell (p:=⟨b,i,none⟩) (by simp) u) (by simp) (bB.set ((h.pick p).head) i u) (fun c hc=> .inl hc)
theorem St.loc {b:Nat} {cs:List Value} {T:TypeId} (h:St S w0 w G) (p:bg G (.loc b cs T) G'):bB w b cs T:=(h.pick p).head
theorem St.own {e:TypeId} {k n:Nat} {v:Value} {xs:List Value} (h:St S w0 w G) (p:bg G (.own e k v n xs) G'):bf [] w e k v n xs:=(h.pick p).head
theorem St.outOf {v:Value} {xs:List UInt8} (h:St S w0 w G) (p:bg G (bt.out v xs) G'):cX w v xs:=(h.pick p).head
theorem St.sl {k n:Nat} {v:Value} {cs:List Value} (h:St S w0 w G) (hs:Sl S w0 k v n cs):Sl S w k v n cs:=hs.fr h.fr (fun _ _ h=>h)
theorem St.gl (h:St S w0 w G) (hs:Gl S w0):Gl S w:=hs.fr h.fr (fun _ _ h=>h)
end
def bt.fact (w:World):bt→Prop
 | .loc b cs _=>(∀o,w.cell? ⟨b,o,none⟩=cs[o]?)∧(∀o,w.frozen? ⟨b,o,none⟩=false)∧b<w.heap.size
 | .own .. =>True
def oh (w:World):List bt→Prop
 | []=>True
 |r::G=>r.fact w∧oh w G
theorem St.facts {S:List Nat} {w0 w:World}:∀{G:List bt},St S w0 w G→oh w G
 | [],_=>trivial
 | .loc b cs T::G,h=>by
  have hl:bB w b cs T:=h.all _ (List.mem_cons_self)
  exact⟨⟨hl.cell,hl.frz,hl.lt⟩,St.facts h.tail⟩
 | .own .. ::G,h=>⟨trivial,St.facts h.tail⟩
theorem St.old {S:List Nat} {w0 w:World} {G:List bt} (h:St S w0 w G):∀b o,b<w0.heap.size→b∉S→w.cell? ⟨b,o,none⟩=w0.cell? ⟨b,o,none⟩:=fun _ o hb hn=>h.fr.cell hb hn o
theorem St.call0 {S:List Nat} {w0 w w':World} {G D:List bt} (h:St S w0 w G) (k:St [] w w' D):St S w0 w' (D++G):=h.call k (by simp)
theorem St.fr0 {S:List Nat} {w0 w w':World} {G:List bt} (h:St S w0 w G) (k:Fr [] w w'):St S w0 w' G:=h.step0 k
theorem ay (w:World):w.drew.heap.size=w.heap.size:=rfl
theorem ar (w:World) (n:Nat):(w.drewN n).heap.size=w.heap.size:=rfl
theorem St.shape {S:List Nat} {w0 w:World} {G G':List bt} {e:TypeId} {k n:Nat} {v:Value} {xs:List Value} (h:St S w0 w G) (p:bg G (.own e k v n xs) G'):∃a c,v= .slice a n c:=by
 obtain⟨a,c,h,_,_⟩:=bf.shape (h.own p)
 exact⟨a,c,h⟩
inductive jv (G:List bt) (w:World):Value→List UInt8→Prop
 |own {v:Value} {Y:List UInt8} {G':List bt}:bg G (.own 5 1 v Y.length (Y.map B)) G'→jv G w v Y
 |lit {g c:Nat} {k:Int} {T:TypeId} {G':List bt}:bg G (.loc g [.int .u8 k] T) G'→(h:0≤k∧k<256)→jv G w (.slice (some ⟨g,0,none⟩) 1 c) [UInt8.ofNat k.toNat]
 |arg {v:Value} {Y:List UInt8}:Sl [] w 1 v Y.length (Y.map B)→jv G w v Y
theorem R4 {k:Int} (h:0≤k∧k<256):B (UInt8.ofNat k.toNat)= .int .u8 k:=by
 unfold B
 rw[UInt8.toNat_ofNat_of_lt' (by show k.toNat<256;omega)]
 congr 1
 omega
theorem jv.src {S:List Nat} {w0 w:World} {G:List bt} (h:St S w0 w G) {v:Value} {Y:List UInt8} (k:jv G w v Y):Src Tryz.prog 1 34 v Y.length (Y.map B) w:=by
 cases k with
 |own p=>exact(bf.sl (h.own p) (S':= []) (by simp)).src aB
 | @lit g c k T G' p hk=>
  have hl:=h.loc p
  have hc:w.cell? ⟨g,0,none⟩=some (.int .u8 k):=by rw[hl.cell];rfl
  show Src Tryz.prog 1 34 (.slice (some ⟨g,0,none⟩) 1 c) 1 [B (UInt8.ofNat k.toNat)] w
  rw[R4 hk]
  exact OY aB hc rfl
 |arg hs=>exact hs.src aB
inductive Ac (G:List bt):Value→List UInt8→List bt→Prop
 |own {v:Value} {X:List UInt8} {G':List bt}:bg G (.own 5 1 v X.length (X.map B)) G'→Ac G v X G'
 |lit {g:Nat} {k:Int} {G':List bt}:bg G (.loc g [.int .u8 k] 5) G'→(h:0≤k∧k<256)→Ac G (.slice (some ⟨g,0,none⟩) 1 1) [UInt8.ofNat k.toNat] G'
 |nil {c:Nat}:(h:c=0)→Ac G (.slice none 0 c) [] G
theorem St.dst {S:List Nat} {w0 w:World} {G G':List bt} (h:St S w0 w G) {v:Value} {X:List UInt8} (d:Ac G v X G'):St S w0 w (.own 5 1 v X.length (X.map B)::G'):=by
 cases d with
 |own p=>exact h.pick p
 | @lit g k _ p hk=>
  have h1:=h.pick p
  have hl:=h1.head
  have ha:=List.pairwise_cons.1 h1.apart
  refine h1.tail.put ?_ (fun b hb=>h1.new (.loc g [.int .u8 k] 5) List.mem_cons_self b (by simpa [bt.blk,Value.blk]using hb)) (fun b hb s hs=>ha.1 s hs b (by simpa [bt.blk,Value.blk]using hb))
  show bf [] w 5 1 (.slice (some ⟨g,0,none⟩) 1 1) 1 [B (UInt8.ofNat k.toNat)]
  rw[R4 hk]
  exact⟨rfl,by simp[Value.oneCell'],.inr ⟨g,1,#[.int .u8 k],rfl,by simp,nX.of hl,Nat.le_refl _,by decide,rfl,rfl⟩⟩
 |nil hc=>
  subst hc
  exact h.put (cX.nil _) (fun b hb=>by cases hb) (fun b hb=>by cases hb)
theorem ER {w:World} {ops:Array Oper} {rest:List Oper} {o:Oper} {a:Act} {Q:Exit→Act→World→Prop} {s x:Operand} {v xv:Value} (hgd:o.guard=none)
 (ho:o.op= .call {callee:= .builtin .append,args:= #[s,x],argTypes:= #[34,34]}) (hs:a.eval s=v) (hx:a.eval x=xv)
 (h:∃S w0 G G' X Y,St S w0 w G∧Ac G v X G'∧jv G w xv Y∧X.length+Y.length≤140737488355328∧
  ∀v' w',St S w0 w' (.own 5 1 v' (X++Y).length ((X++Y).map B)::G')→wpList Tryz.prog ops Q rest (a.put o.dst v') w'):
 wpList Tryz.prog ops Q (o::rest) a w:=by
 obtain⟨S,w0,G,G',X,Y,hst,hp,hsrc,hb,h⟩:=h
 refine dF hgd s x 34 ho v X.length (X.map B) hs ((hst.dst hp).head) xv Y.length (Y.map B) hx (hsrc.src hst) hb fun v' w' ho' hf hb'=> ?_
 exact W2
theorem F0 {w:World} {ops:Array Oper} {o:Oper} {a:Act} {K:Act→World→Prop} {Q:Exit→Act→World→Prop} {E:Prop} {s x:Operand} {v xv:Value} (hgd:o.guard=none)
 (ho:o.op= .call {callee:= .builtin .append,args:= #[s,x],argTypes:= #[34,34]}) (hs:a.eval s=v) (hx:a.eval x=xv)
 (h:∃S w0 G G' X Y,St S w0 w G∧Ac G v X G'∧jv G w xv Y∧X.length+Y.length≤140737488355328∧
  ∀v' w',St S w0 w' (.own 5 1 v' (X++Y).length ((X++Y).map B)::G')→K (a.put o.dst v') w'):
 if Region.wanted o (yielded ops a.tmps)=true then Oper.wp Tryz.prog o a w K Q else E:=by
 obtain⟨S,w0,G,G',X,Y,hst,hp,hsrc,hb,h⟩:=h
 refine eZ hgd s x 34 ho v X.length (X.map B) hs ((hst.dst hp).head) xv Y.length (Y.map B) hx (hsrc.src hst) hb fun v' w' ho' hf hb'=> ?_
 exact W2
theorem St.fq {S:List Nat} {w0 w:World} {G:List bt} (h:St S w0 w G) {F:Prop} (g:oh w G→F:=by(intro h;first|(simp only[oh,bt.fact,List.cons_append,List.nil_append,true_and,and_true]at h;exact h)|exact trivial)):F:=g h.facts
theorem cB {w w':World} {P:Prop} {S:List Nat} {w0:World} {G G':List bt} {F:Prop} (k:Fr [] w w') (c:St S w0 w' G'→F→P) (h:St S w0 w G:=by first|exact aA|exact aw)
 (g:St S w0 w' G→St S w0 w' G'∧F:=by(intro h;have q:=St.facts h;(try simp only[World.size_alloc,World.size_setCell,ay,ar]at h q);first|(simp only[oh,bt.fact,List.cons_append,List.nil_append,true_and,and_true]at q;exact⟨h,q⟩)|exact⟨h,trivial⟩)):P:=
 c (g (h.step0 k)).1 (g (h.step0 k)).2
theorem qa {w w':World} {P:Prop} {S:List Nat} {w0:World} {G G' D:List bt} {F:Prop} (k:St [] w w' D) (c:St S w0 w' G'→F→P) (h:St S w0 w G:=by first|exact aA|exact aw)
 (g:St S w0 w' (D++G)→St S w0 w' G'∧F:=by(intro h;have q:=St.facts h;(try simp only[World.size_alloc,World.size_setCell,ay,ar,List.cons_append,List.nil_append]at h q);first|(simp only[oh,bt.fact,List.cons_append,List.nil_append,true_and,and_true]at q;exact⟨h,q⟩)|exact⟨h,trivial⟩)):P:=
 c (g (h.call0 k)).1 (g (h.call0 k)).2
theorem wb {w:World} {ops:Array Oper} {rest:List Oper} {o:Oper} {a:Act} {Q:Exit→Act→World→Prop} {s x:Operand} {v xv:Value} {S:List Nat} {w0:World} {G G':List bt} {X Y:List UInt8} {F:Value→World→Prop}
 (k:∀v' w',St S w0 w' (.own 5 1 v' (X++Y).length ((X++Y).map B)::G')→F v' w'→wpList Tryz.prog ops Q rest (a.put o.dst v') w')
 (hgd:o.guard=none:=by rfl) (ho:o.op= .call {callee:= .builtin .append,args:= #[s,x],argTypes:= #[34,34]}:=by rfl) (hs:a.eval s=v:=by rfl) (hx:a.eval x=xv:=by rfl)
 (h1:St S w0 w G:=by first|exact aA|exact aw) (h2:Ac G v X G':=by first|exact R6|exact R1) (h3:jv G w xv Y:=by first|exact RV|exact RI) (h4:X.length+Y.length≤140737488355328:=by exact bS)
 (g:∀v' w',oh w' (.own 5 1 v' (X++Y).length ((X++Y).map B)::G')→F v' w':=by(intro v' w' h;first|(simp only[oh,bt.fact,List.cons_append,List.nil_append,true_and,and_true]at h;exact h)|exact trivial)):
 wpList Tryz.prog ops Q (o::rest) a w:=ER hgd ho hs hx ⟨S,w0,G,G',X,Y,h1,h2,h3,h4,fun v' w' h=>k v' w' h (g v' w' h.facts)⟩
theorem JK {w:World} {ops:Array Oper} {o:Oper} {a:Act} {K:Act→World→Prop} {Q:Exit→Act→World→Prop} {E:Prop} {s x:Operand} {v xv:Value} {S:List Nat} {w0:World} {G G':List bt} {X Y:List UInt8} {F:Value→World→Prop}
 (k:∀v' w',St S w0 w' (.own 5 1 v' (X++Y).length ((X++Y).map B)::G')→F v' w'→K (a.put o.dst v') w')
 (hgd:o.guard=none:=by rfl) (ho:o.op= .call {callee:= .builtin .append,args:= #[s,x],argTypes:= #[34,34]}:=by rfl) (hs:a.eval s=v:=by rfl) (hx:a.eval x=xv:=by rfl)
 (h1:St S w0 w G:=by first|exact aA|exact aw) (h2:Ac G v X G':=by first|exact R6|exact R1) (h3:jv G w xv Y:=by first|exact RV|exact RI) (h4:X.length+Y.length≤140737488355328:=by exact bS)
 (g:∀v' w',oh w' (.own 5 1 v' (X++Y).length ((X++Y).map B)::G')→F v' w':=by(intro v' w' h;first|(simp only[oh,bt.fact,List.cons_append,List.nil_append,true_and,and_true]at h;exact h)|exact trivial)):
 if Region.wanted o (yielded ops a.tmps)=true then Oper.wp Tryz.prog o a w K Q else E:=F0 hgd ho hs hx ⟨S,w0,G,G',X,Y,h1,h2,h3,h4,fun v' w' h=>k v' w' h (g v' w' h.facts)⟩
inductive nT (e:TypeId) (k:Nat) (G:List bt):Value→Nat→List Value→List bt→Prop
 |own {v:Value} {n:Nat} {xs:List Value} {G':List bt}:bg G (.own e k v n xs) G'→nT e k G v n xs G'
 |lit {g:Nat} {cs:List Value} {G':List bt}:bg G (.loc g cs e) G'→cs.length=k→(∀u∈cs,u.oneCell'=true)→nT e k G (.slice (some ⟨g,0,none⟩) 1 1) 1 cs G'
 |nil {c:Nat}:c=0→nT e k G (.slice none 0 c) 0 [] G
inductive oK (e:TypeId) (k:Nat) (G:List bt) (w:World):Value→Nat→List Value→Prop
 |own {v:Value} {n:Nat} {xs:List Value} {G':List bt}:bg G (.own e k v n xs) G'→oK e k G w v n xs
 |lit {g c:Nat} {cs:List Value} {T:TypeId} {G':List bt}:bg G (.loc g cs T) G'→cs.length=k→(∀u∈cs,u.oneCell'=true)→oK e k G w (.slice (some ⟨g,0,none⟩) 1 c) 1 cs
 |arg {v:Value} {n:Nat} {xs:List Value}:Sl [] w k v n xs→oK e k G w v n xs
theorem St.dstT {S:List Nat} {w0 w:World} {G G':List bt} {e:TypeId} {k n:Nat} {v:Value} {xs:List Value} (h:St S w0 w G) (d:nT e k G v n xs G'):St S w0 w (.own e k v n xs::G'):=by
 cases d with
 |own p=>exact h.pick p
 | @lit g cs _ p hk h1=>
  have h0:=h.pick p
  have hl:bB w g xs e:=h0.head
  have ha:=List.pairwise_cons.1 h0.apart
  refine h0.tail.put ?_ (fun b hb=>h0.new (.loc g xs e) List.mem_cons_self b (by simpa [bt.blk,Value.blk]using hb)) (fun b hb s hs=>ha.1 s hs b (by simpa [bt.blk,Value.blk]using hb))
  exact⟨by omega,h1,.inr ⟨g,1,xs.toArray,rfl,by simp,nX.of hl,Nat.le_refl _,by decide,by simp;omega,by rw[←hk];simp⟩⟩
 |nil hc=>
  subst hc
  exact h.put (bf.nil _ _ _ _) (fun b hb=>by cases hb) (fun b hb=>by cases hb)
theorem oK.src {P:Program} {S:List Nat} {w0 w:World} {G:List bt} {e e' tx:TypeId} {k n:Nat} {v:Value} {xs:List Value} (hk:P.underlying tx=some (.slice e')) (h:St S w0 w G) (d:oK e k G w v n xs):Src P k tx v n xs w:=by
 cases d with
 |own p=>exact(bf.sl (h.own p) (S':= []) (by simp)).src hk
 | @lit g c cs T _ p hl h1=>
  have hL:=h.loc p
  refine Src.ofSlice _ hk _ _ _ _ (by omega) (fun j u hu=> ?_) h1
  have hadd:(⟨g,0,none⟩:Addr).add j=⟨g,j,none⟩:=by unfold Addr.add;split<;>simp_all
  rw[hadd,hL.cell]
  exact hu
 |arg hs=>exact hs.src hk
theorem P4 {P:Program} {w:World} {ops:Array Oper} {rest:List Oper} {o:Oper} {a:Act} {Q:Exit→Act→World→Prop} {s x:Operand} {v xv:Value} {t tx e e':TypeId} {i:TypeInfo} {z:Value} {k bytes:Nat} (hgd:o.guard=none)
 (ho:o.op= .call {callee:= .builtin .append,args:= #[s,x],argTypes:= #[t,tx]}) (hs:a.eval s=v) (hx:a.eval x=xv)
 (ht:P.underlying t=some (.slice e)) (htx:P.underlying tx=some (.slice e')) (hi:P.info? e=some i) (hz:i.zero=some z) (hsize:i.size=k) (hby:i.bytes=bytes) (hzs:z.cells.size=k) (hk:0<k) (hbb:bytes≤256)
 (h:∃S w0 G G' n xs m news,St S w0 w G∧nT e k G v n xs G'∧oK e k G w xv m news∧n+m≤549755813888∧
  ∀v' w',St S w0 w' (.own e k v' (n+m) (xs++news)::G')→wpList P ops Q rest (a.put o.dst v') w'):
 wpList P ops Q (o::rest) a w:=by
 obtain⟨S,w0,G,G',n,xs,m,news,hst,hp,hsrc,hb,h⟩:=h
 have hd:=hst.dstT hp
 refine gI hgd s x t tx ho e i z k bytes ht hi hz hsize hby hzs hk [] (by simp) v n xs hs hd.head xv m news hx (hsrc.src htx hst) ?_ (by unfold maxLen;omega) fun v' w' ho' hf hb'=>h v' w' (hd.app hf ho' hb')
 calc (n+m)*bytes≤549755813888*256:=Nat.mul_le_mul hb hbb
  _≤ _:=by decide
theorem bf.take {S:List Nat} {w:World} {e:TypeId} {k n m:Nat} {a:Option Addr} {c:Nat} {xs:List Value} (h:bf S w e k (.slice a n c) n xs) (hm:m≤n):bf S w e k (.slice a m c) m (xs.take (m*k)):=by
 obtain⟨h1,h2,h3⟩:=h
 have hle:m*k≤n*k:=Nat.mul_le_mul_right k hm
 refine⟨by rw[List.length_take];omega,fun u hu=>h2 u (List.mem_of_mem_take hu),?_⟩
 rcases h3 with⟨h3,h4⟩|⟨g,cap,cur,h3,hg,hh,h4,h5,h6,h7⟩
 ·injection h3 with e1 e2 e3
  subst e1 e3
  obtain rfl:m=0:=by omega
  exact .inl ⟨rfl,rfl⟩
 ·injection h3 with e1 e2 e3
  subst e1 e3
  exact .inr ⟨g,c,cur,rfl,hg,hh,by omega,h5,h6,by rw[←h7,List.take_take];congr 1;omega⟩
theorem bf.setAt {S:List Nat} {w:World} {e:TypeId} {k n:Nat} {g c:Nat} {xs:List Value} (h:bf S w e k (.slice (some ⟨g,0,none⟩) n c) n xs) {j:Nat} (hj:j<n*k) {u:Value} (hu:u.oneCell'=true):
 bf S (w.setCell ⟨g,j,none⟩ u) e k (.slice (some ⟨g,0,none⟩) n c) n (xs.set j u):=by
 obtain⟨h1,h2,h3⟩:=h
 refine⟨by simpa using h1,fun x hx=> ?_,?_⟩
 ·rcases List.mem_or_eq_of_mem_set hx with hx|rfl
  ·exact h2 x hx
  ·exact hu
 ·rcases h3 with⟨h3,h4⟩|⟨g',cap,cur,h3,hg,hh,h4,h5,h6,h7⟩
  ·cases h3
  ·injection h3 with e1 e2 e3
   injection e1 with e1
   injection e1 with e1
   subst e1 e3
   refine .inr ⟨g,c,cur.setIfInBounds j u,rfl,hg,hh.set j u,h4,h5,by simpa using h6,?_⟩
   rw[Array.toList_setIfInBounds,List.take_set,h7]
theorem bB.range {w:World} {b:Nat} {cs:List Value} {T:TypeId} (h:bB w b cs T):w.rangeAt b 0 cs:=fun j v hv=>by
 rw[Nat.zero_add,h.cell]
 exact hv
theorem bB.there {w:World} {b:Nat} {cs:List Value} {T:TypeId} (h:bB w b cs T):w.there b 0 cs.length:=fun j hj=>by
 rw[Nat.zero_add,h.cell]
 exact⟨by simp[hj],h.frz j⟩
theorem bB.setAll {b:Nat} {T:TypeId}:∀(vs done old:List Value) (w:World),bB w b (done++old) T→vs.length=old.length→bB (w.setCells b done.length vs) b (done++vs) T
 | [],done,old,w,h,hl=>by
  have:old= []:=List.eq_nil_of_length_eq_zero (by simpa using hl.symm)
  subst this
  exact h
 |v::r,done,[],w,h,hl=>by simp at hl
 |v::r,done,u::old,w,h,hl=>by
  have h1:=bB.set h done.length v
  have e:(done++u::old).set done.length v=(done++ [v])++old:=by
   rw[List.set_append]
   simp
  rw[e]at h1
  have h2:=bB.setAll r (done++ [v]) old _ h1 (by simpa using hl)
  have e2:(done++ [v]).length=done.length+1:=by simp
  have e3:(done++ [v])++r=done++v::r:=by simp
  rw[e2,e3]at h2
  rw[World.setCells]
  exact h2
theorem Fr.setCells {b:Nat}:∀(vs:List Value) (o:Nat) (w:World),Fr [b] w (w.setCells b o vs)
 | [],_,w=>Fr.refl _ _
 |v::r,o,w=>by
  rw[World.setCells]
  exact((Fr.refl [b] w).setCell (p:=⟨b,o,none⟩) (by simp) v).trans (Fr.setCells r (o+1) _)
theorem St.setAll {S:List Nat} {w0 w:World} {G G':List bt} {b:Nat} {cs vs:List Value} {T:TypeId} (h:St S w0 w G) (p:bg G (.loc b cs T) G') (hl:vs.length=cs.length):St S w0 (w.setCells b 0 vs) (.loc b vs T::G'):=
 (h.pick p).turn (S':= []) (r':= .loc b vs T) (by simpa [bt.blk]using Fr.setCells vs 0 w) (by simp) (bB.setAll vs [] cs w (h.pick p).head hl) (fun c hc=> .inl hc)
inductive eD (G:List bt) (w:World) (b:Nat):Nat→List Value→Prop
 |loc {cs:List Value} {T:TypeId} {G':List bt}:bg G (.loc b cs T) G'→eD G w b 0 cs
 |elem {o:Nat} {cs:List Value}:w.rangeAt b o cs→eD G w b o cs
theorem eD.range {S:List Nat} {w0 w:World} {G:List bt} {b o:Nat} {cs:List Value} (h:St S w0 w G) (r:eD G w b o cs):w.rangeAt b o cs:=by
 cases r with
 |loc p=>exact(h.loc p).range
 |elem h=>exact h
section
variable {P : Program} {w : World} {ops : Array Oper} {rest : List Oper} {o : Oper} {a : Act} {Q : Exit → Act → World → Prop} {K : Act → World → Prop}
theorem bC {ty:TypeId} {x:Operand} {b n:Nat} {d:TypeDesc} (hgd:o.guard=none) (ho:o.op= .load ty x) (hx:a.eval x= .pointer (some ⟨b,n,none⟩)) (hu:P.underlying ty=some d) (hd:d.isRow=true)
 (h:∃S w0 G cs,St S w0 w G∧eD G w b n cs∧(P.info? ty).map (·.size)=some cs.length∧wpList P ops Q rest (a.put o.dst (.agg cs.toArray)) w):wpList P ops Q (o::rest) a w:=by
 obtain⟨S,w0,G,cs,hst,hr,hi,h⟩:=h
 exact wpList_load_mid hgd ty x ho b n hx cs d (hr.range hst) hu hd hi h
theorem mW {ty:TypeId} {x:Operand} {b n j:Nat} {d:TypeDesc} {c:Bool} (hgd:o.guard=some (j,true)) (hj:yielded ops a.tmps j=some c) (ho:o.op= .load ty x) (hx:a.eval x= .pointer (some ⟨b,n,none⟩)) (hu:P.underlying ty=some d) (hd:d.isRow=true)
 (h:c=true→∃S w0 G cs,St S w0 w G∧eD G w b n cs∧(P.info? ty).map (·.size)=some cs.length∧wpList P ops Q rest (a.put o.dst (.agg cs.toArray)) w) (h2:c=false→wpList P ops Q rest (a.put o.dst undef) w):wpList P ops Q (o::rest) a w:=by
 have hw:Region.wanted o (yielded ops a.tmps)=c:=by simp[Region.wanted,hgd,hj]
 cases c with
 |true=>
  obtain⟨S,w0,G,cs,hst,hr,hi,h⟩:=h rfl
  exact wpList_step fun K hK=>by
   rw[if_pos hw]
   exact wp_load_mid ty x ho b n hx cs d (hr.range hst) hu hd hi (hK _ _ h)
 |false=>exact wpList_skip hw (h2 rfl)
theorem cd {ty:TypeId} {x y:Operand} {b:Nat} {vs:List Value} (hgd:o.guard=none) (ho:o.op= .store ty x y) (hx:a.eval x= .pointer (some ⟨b,0,none⟩)) (hy:a.eval y= .agg vs.toArray)
 (h:∃S w0 G G' cs T,St S w0 w G∧bg G (.loc b cs T) G'∧vs.length=cs.length∧(P.info? ty).map (·.size)=some vs.length∧(∀v∈vs,v.oneCell'=true)∧∀w',St S w0 w' (.loc b vs T::G')→wpList P ops Q rest (a.put o.dst undef) w'):wpList P ops Q (o::rest) a w:=by
 obtain⟨S,w0,G,G',cs,T,hst,hp,hl,hi,h1,h⟩:=h
 refine wpList_store_mid hgd ty x y ho b 0 vs.toArray hx hy ?_ (by simpa using hi) (all_oneCell_toArray h1) ?_
 ·have:=(hst.loc hp).there
  simpa [hl]using this
 ·simpa using h _ (hst.setAll hp hl)
theorem Kn {ty:TypeId} {x y:Operand} {b:Nat} {vs:List Value} (ho:o.op= .store ty x y) (hx:a.eval x= .pointer (some ⟨b,0,none⟩)) (hy:a.eval y= .agg vs.toArray)
 (h:∃S w0 G G' cs T,St S w0 w G∧bg G (.loc b cs T) G'∧vs.length=cs.length∧(P.info? ty).map (·.size)=some vs.length∧(∀v∈vs,v.oneCell'=true)∧∀w',St S w0 w' (.loc b vs T::G')→K (a.put o.dst undef) w'):o.wp P a w K Q:=by
 obtain⟨S,w0,G,G',cs,T,hst,hp,hl,hi,h1,h⟩:=h
 refine wp_store_mid ty x y ho b 0 vs.toArray hx hy ?_ (by simpa using hi) (all_oneCell_toArray h1) ?_
 ·have:=(hst.loc hp).there
  simpa [hl]using this
 ·simpa using h _ (hst.setAll hp hl)
end
theorem eB:Tryz.prog.underlying 177=some ((Tryz.prog.underlying 177).get (by kernel_rfl)):=by kernel_rfl
theorem ff:(Tryz.prog.info? 177).map (·.size)=some 19:=by kernel_rfl
def ja (h:aC):Bool:=aj ⟨3,false,h⟩
def jt (h:aC):List UInt8:=if aj ⟨3,false,h⟩then d8 h else []
def es (t:aF):List UInt8:=if aj t then bZ t else []
def oj (ts:List aF):List UInt8:=if ts.all aj then ae bZ ts else []
theorem ng {h:aC} (p:aj ⟨3,false,h⟩=true):jt h=d8 h:=by unfold jt;rw[if_pos p]
theorem ig {t:aF} (p:aj t=true):es t=bZ t:=by unfold es;rw[if_pos p]
theorem tr {ts:List aF} (h:ts.all aj=true):oj ts=ae bZ ts:=by unfold oj;rw[if_pos h]
theorem MJ {ts:List aF} (h:ts.all aj=false):oj ts= []:=by unfold oj;rw[if_neg (by simp[h])]
def ef:List (Int×List UInt8):= [(0,[46,46,98,98,98,46]),(8,[105]),(10,[46,46,108,108,116,46,105,50,105,50,105,105]),(26,[46,46,118]),(31,[121,105,105,105,105,105,105,105]),(40,[109,109]),(44,[109,109,109,109,109,109,109,109,109,109,109,109]),(58,[109,109,109,109,109,105,105,51,54]),(69,[46,46,46,46,46,46,46,46,46,46,46,46,46,46,46,46,46,46,46,46,46,46]),(103,[46,46,46,46,46,46,46,46,46,46,46,46,46,46,46,46,46,46,46,46,46,46,46,46,46,46,46,46,46,46,46,46,46,46,46,46]),(167,[46]),(172,[46,46]),(192,[46,46,46,46,46]),(208,[104,46,105,46,46,108,108]),(64256,[105,105,50,50,50,50,105,105,50,50,50,105,105,105,105,46,105,50,50,50,104,104,104,104,99,99,46,46,46,46,46]),(64520,[50,105,50,105,50,105,50,105,105,105])]
def iz:List (Int×Int):= [(42,43),(56,57),(67,68),(91,102),(139,166),(168,171),(174,191),(64512,64519),(253,253)]
def gr:List (Int×List UInt8)→Int→Int→Int×UInt8
 | [],_,_=>(-1,0)
 |(f,s)::r,op,k=>if f≤op∧op-f<s.length then(k+(op-f),s.getD (op-f).toNat 0)else gr r op (k+s.length)
def jf:List UInt8:= [46,98,121,108,116,105,50,109,51,54,104,118,99]
def fj:List UInt8→UInt8→Int
 | [],_=> -1
 |b::l,c=>if b==c then 0 else if fj l c== -1 then-1 else fj l c+1
def ag (op:Int):Int:=if (gr ef op 0).1<0 then 0 else 1+fj jf (gr ef op 0).2
def iM (op:Int):Bool:=iz.any fun p=>decide (p.1≤op∧op≤p.2)
structure bJ where
 kind:Int
 val:aF
 n:Int
deriving DecidableEq,Inhabited
structure cQ where
 kind:Int
 tag:Int
 label:Int
deriving DecidableEq,Inhabited
structure aa where
 op:Int
 x:Int
 y:Int
 u:Nat
 heap:aC
 heap2:aC
 null:Bool
 null2:Bool
 types:List aF
 labels:List Int
 block:bJ
 catches:List cQ
deriving DecidableEq,Inhabited
def bJ.zero:bJ:=⟨0,aF.zero,0⟩
def aa.of (op:Int):aa:=⟨op,0,0,0,aC.zero,aC.zero,false,false,[],[],bJ.zero,[]⟩
def ev (n:Int):Bool:=decide (0≤n∧n≤4294967295)
def cY (b:bJ):Bool:=
 if b.kind=0 then decide (b=bJ.zero)
 else if b.kind=1 then aj b.val&&decide (b.n=0)
 else if b.kind=2 then decide (b.val=aF.zero)&&ev b.n
 else false
def dm (c:cQ):Bool:=
 if c.kind=0∨c.kind=1 then ev c.tag&&ev c.label
 else if c.kind=2∨c.kind=3 then decide (c.tag=0)&&ev c.label
 else false
def cu (i:aa):Bool×aa:=
 if ag i.op=4∨ag i.op=6 then(ev i.x,{i with x:=0})
 else if ag i.op=7 then(ev i.x&&ev i.y,{i with x:=0,y:=0})
 else if ag i.op=5 then(ev i.x&&i.labels.all ev,{i with x:=0,labels:= []})
 else if ag i.op=8 then(decide (0≤i.x)&&decide (i.x<64)&&ev i.y,{i with x:=0,y:=0,u:=0})
 else if ag i.op=9 then(decide (i.u<4294967296),{i with u:=0})
 else if ag i.op=10 then(true,{i with u:=0})
 else if ag i.op=11 then(ja i.heap,{i with heap:=aC.zero})
 else if ag i.op=12 then(i.types.all aj,{i with types:= []})
 else if ag i.op=2 then(cY i.block,{i with block:=bJ.zero})
 else if ag i.op=3 then(cY i.block&&i.catches.all dm,{i with block:=bJ.zero,catches:= []})
 else if ag i.op=13 then(ev i.x&&ja i.heap&&ja i.heap2,{i with x:=0,null:=false,null2:=false,heap:=aC.zero,heap2:=aC.zero})
 else(true,i)
def dx (i:aa):Bool:=if ag i.op=0 then false else(cu i).1&&decide ((cu i).2=aa.of i.op)
def kp (n:List Bool) (op:Int):Option (List Bool):=
 if op=2∨op=3∨op=31 then some (false::n)
 else if op=4 then some (true::n)
 else if op=5 then(match n with|true::r=>some (false::r)| _=>none)
 else if op=11 then(match n with| _::r=>some r| []=>none)
 else some n
def jZ:List Bool→List aa→Option (List Bool)
 |n,[]=>some n
 |n,i::l=>match kp n i.op with
  |some m=>jZ m l
  |none=>none
def jI (l:List aa):Bool:=jZ [] l==some []
def au (n:Int):List UInt8:=aI n.toNat
def xW (op:Int):List UInt8:=if op<256 then [UInt8.ofNat op.toNat]else UInt8.ofNat (op/256).toNat::au (op% 256)
def ke (a b:Bool):UInt8:=(if a then 1 else 0)+(if b then 2 else 0)
def dp (b:bJ):List UInt8:=if b.kind=1 then es b.val else if b.kind=2 then eN b.n else [64]
def dM (c:cQ):List UInt8:=UInt8.ofNat c.kind.toNat::((if c.kind<2 then au c.tag else [])++au c.label)
def j0 (n:Nat):Int:=if n<2147483648 then n else(n:Int)-4294967296
def aW (i:aa):List UInt8:=
 if ag i.op=5 then aI i.labels.length++i.labels.flatMap au++au i.x
 else if ag i.op=4∨ag i.op=6 then au i.x
 else if ag i.op=7 then au i.x++au i.y
 else if ag i.op=8 then(if i.y=0 then au i.x else au (i.x+64)++au i.y)++aI i.u
 else if ag i.op=9 then eN (j0 i.u)
 else if ag i.op=10 then eN (fC i.u)
 else if ag i.op=13 then [ke i.null i.null2]++au i.x++jt i.heap++jt i.heap2
 else if ag i.op=11 then jt i.heap
 else if ag i.op=12 then oj i.types
 else if ag i.op=2 then dp i.block
 else if ag i.op=3 then dp i.block++aI i.catches.length++i.catches.flatMap dM
 else []
def de (i:aa):List UInt8:=xW i.op++aW i
def al (l:List aa):List UInt8:=if l.all dx&&jI l then l.flatMap de++ [11]else []
def je (op:Int) (a:Nat) (s:ax):Int×ax:=
 (op,if iM op then s.fail 61 a else if ag op=0 then s.fail 60 a else s)
def bA (bs:List UInt8) (s:ax):Int×ax:=
 if (ai bs s).1=251∨(ai bs s).1=252 then
  if 255< (rU bs 32 (ai bs s).2).1 then(0,(rU bs 32 (ai bs s).2).2.fail 60 s.at_)
  else je ((ai bs s).1*256+(rU bs 32 (ai bs s).2).1) s.at_ (rU bs 32 (ai bs s).2).2
 else je (ai bs s).1 s.at_ (ai bs s).2
def aD (bs:List UInt8) (s:ax):Int×ax:=((rU bs 32 s).1,(rU bs 32 s).2)
def am {α:Type} (bs:List UInt8) (f:ax→α×ax) (s:ax):List α×ax:=av f (af bs s).1 (af bs s).2
def bV (bs:List UInt8) (most:Nat) (s:ax):Nat×ax:=((ai bs s).1,if most< (ai bs s).1 then(ai bs s).2.fail 60 s.at_ else(ai bs s).2)
def lR (bs:List UInt8) (s:ax):Int×ax:=((aD bs s).1,if 127< (aD bs s).1 then(aD bs s).2.fail 60 s.at_ else(aD bs s).2)
def gX (bs:List UInt8) (s:ax):(Int×Int)×ax:=
 if 64≤(lR bs s).1 then(((lR bs s).1-64,(aD bs (lR bs s).2).1),(aD bs (lR bs s).2).2)else(((lR bs s).1,0),(lR bs s).2)
def jh (bs:List UInt8) (s:ax):(Int×Int)×ax:=
 if (bV bs 3 s).1<2 then(((bV bs 3 s).1,(aD bs (bV bs 3 s).2).1),(aD bs (bV bs 3 s).2).2)else(((bV bs 3 s).1,0),(bV bs 3 s).2)
def cP (bs:List UInt8) (s:ax):cQ×ax:=
 (⟨(jh bs s).1.1,(jh bs s).1.2,(aD bs (jh bs s).2).1⟩,(aD bs (jh bs s).2).2)
def iH (n:Int):Nat:=(n% 128).toNat
def iU (bs:List UInt8) (c:Nat) (a:Nat) (s:ax):bJ×ax:=
 if c=64 then(bJ.zero,s)
 else if (bw [UInt8.ofNat c] ah).2.err=0 then(⟨1,(bw [UInt8.ofNat c] ah).1,0⟩,s)
 else if (bw [UInt8.ofNat c] ah).2.err=10 then(⟨1,⟨3,c==99,(co bs s).1⟩,0⟩,(co bs s).2)
 else(bJ.zero,s.fail (bw [UInt8.ofNat c] ah).2.err a)
def dT (bs:List UInt8) (s:ax):bJ×ax:=
 if (rS bs 33 s).2.err≠0 then(bJ.zero,(rS bs 33 s).2)
 else if 0≤(rS bs 33 s).1 then(⟨2,aF.zero,(rS bs 33 s).1⟩,(rS bs 33 s).2)
 else if 1< (rS bs 33 s).2.at_-s.at_ then(bJ.zero,(rS bs 33 s).2.fail 60 s.at_)
 else iU bs (iH (rS bs 33 s).1) s.at_ (rS bs 33 s).2
def cA (bs:List UInt8) (op:Int) (s:ax):aa×ax:=
 if ag op=4∨ag op=6 then({aa.of op with x:=(aD bs s).1},(aD bs s).2)
 else if ag op=7 then({aa.of op with x:=(aD bs s).1,y:=(aD bs (aD bs s).2).1},(aD bs (aD bs s).2).2)
 else if ag op=5 then({aa.of op with labels:=(am bs (aD bs) s).1,x:=(aD bs (am bs (aD bs) s).2).1},(aD bs (am bs (aD bs) s).2).2)
 else if ag op=8 then({aa.of op with x:=(gX bs s).1.1,y:=(gX bs s).1.2,u:=(rU bs 64 (gX bs s).2).1},(rU bs 64 (gX bs s).2).2)
 else if ag op=9 then({aa.of op with u:=((rS bs 32 s).1% 4294967296).toNat},(rS bs 32 s).2)
 else if ag op=10 then({aa.of op with u:=((rS bs 64 s).1% 18446744073709551616).toNat},(rS bs 64 s).2)
 else if ag op=11 then({aa.of op with heap:=(co bs s).1},(co bs s).2)
 else if ag op=12 then({aa.of op with types:=(eT bs s).1},(eT bs s).2)
 else if ag op=2 then({aa.of op with block:=(dT bs s).1},(dT bs s).2)
 else if ag op=3 then({aa.of op with block:=(dT bs s).1,catches:=(am bs (cP bs) (dT bs s).2).1},(am bs (cP bs) (dT bs s).2).2)
 else if ag op=13 then
  ({aa.of op with null:=(bV bs 3 s).1% 2==1,null2:=(bV bs 3 s).1/2% 2==1,x:=(aD bs (bV bs 3 s).2).1,heap:=(co bs (aD bs (bV bs 3 s).2).2).1,heap2:=(co bs (co bs (aD bs (bV bs 3 s).2).2).2).1},
    (co bs (co bs (aD bs (bV bs 3 s).2).2).2).2)
 else(aa.of op,s)
def aY (bs:List UInt8) (s:ax):aa×ax:=
 if (bA bs s).2.err≠0 then(aa.of (bA bs s).1,(bA bs s).2)else cA bs (bA bs s).1 (bA bs s).2
def dE (bs:List UInt8):Nat→List Bool→ax→Option (List aa)×ax
 |0,_,s=>(none,s)
 |k+1,n,s=>
  if (aY bs s).2.err≠0 then(none,(aY bs s).2)
  else if (aY bs s).1.op=11∧n= []then(some [],(aY bs s).2)
  else match kp n (aY bs s).1.op with
   |none=>(none,(aY bs s).2.fail 60 s.at_)
   |some m=>((dE bs k m (aY bs s).2).1.map ((aY bs s).1:: ·),(dE bs k m (aY bs s).2).2)
def bI (bs:List UInt8) (s:ax):List aa×ax:=
 ((dE bs (bs.length+1-s.at_) [] s).1.getD [],(dE bs (bs.length+1-s.at_) [] s).2)
def gK (n:Int):List Value:= [.int .i64 n]
def gZ (c:cQ):List Value:= [.int .i64 c.kind,.int .i64 c.tag,.int .i64 c.label]
def cp (i:aa) (tv lv cv:Value):List Value:=
 [.int .i64 i.op,.int .i64 i.x,.int .i64 i.y,.int .u64 (i.u:Int),.int .i64 i.heap.kind,.int .i64 i.heap.n,.int .i64 i.heap2.kind,.int .i64 i.heap2.n,.bool i.null,.bool i.null2,tv,lv,
  .int .i64 i.block.kind,.int .i64 i.block.val.kind,.bool i.block.val.null,.int .i64 i.block.val.heap.kind,.int .i64 i.block.val.heap.n,.int .i64 i.block.n,cv]
def gR (S:List Nat) (w:World) (i:aa) (tv lv cv:Value):Prop:=
 Sl S w 4 tv i.types.length (i.types.flatMap cj)∧Sl S w 1 lv i.labels.length (i.labels.flatMap gK)∧Sl S w 3 cv i.catches.length (i.catches.flatMap gZ)
def dP (S:List Nat) (w:World):List aa→List Value→Prop
 | [],cs=>cs= []
 |i::is,cs=>∃tv lv cv rest,cs=cp i tv lv cv++rest∧gR S w i tv lv cv∧dP S w is rest
theorem gR.fr {S S':List Nat} {w w':World} {i:aa} {tv lv cv:Value} (h:gR S w i tv lv cv) (hf:Fr S' w w') (hs:∀b,b<w.heap.size→b∈S'→b∈S):gR S w' i tv lv cv:=
 ⟨h.1.fr hf hs,h.2.1.fr hf hs,h.2.2.fr hf hs⟩
theorem gR.sub {S S':List Nat} {w:World} {i:aa} {tv lv cv:Value} (h:gR S w i tv lv cv) (hs:∀b,b<w.heap.size→b∈S'→b∈S):gR S' w i tv lv cv:=
 ⟨h.1.sub hs,h.2.1.sub hs,h.2.2.sub hs⟩
theorem dP.fr {S S':List Nat} {w w':World} (hf:Fr S' w w') (hs:∀b,b<w.heap.size→b∈S'→b∈S):∀{is:List aa} {cs:List Value},dP S w is cs→dP S w' is cs
 | [],_,h=>h
 | _:: _,_,⟨tv,lv,cv,rest,e,h1,h2⟩=>⟨tv,lv,cv,rest,e,h1.fr hf hs,dP.fr hf hs h2⟩
theorem dP.sub {S S':List Nat} {w:World} (hs:∀b,b<w.heap.size→b∈S'→b∈S):∀{is:List aa} {cs:List Value},dP S w is cs→dP S' w is cs
 | [],_,h=>h
 | _:: _,_,⟨tv,lv,cv,rest,e,h1,h2⟩=>⟨tv,lv,cv,rest,e,h1.sub hs,dP.sub hs h2⟩
theorem dP.app {S:List Nat} {w:World} {ks:List aa} {ds:List Value} (hk:dP S w ks ds):∀{is:List aa} {cs:List Value},dP S w is cs→dP S w (is++ks) (cs++ds)
 | [],_,h=>by
  have h: _= []:=h
  subst h
  exact hk
 | _:: _,_,⟨tv,lv,cv,rest,e,h1,h2⟩=>by
  subst e
  exact⟨tv,lv,cv,rest++ds,by simp,h1,dP.app hk h2⟩
theorem dP.one {S:List Nat} {w:World} {i:aa} {tv lv cv:Value} (h:gR S w i tv lv cv):dP S w [i] (cp i tv lv cv):=⟨tv,lv,cv,[],by simp,h,rfl⟩
theorem dP.len {S:List Nat} {w:World}:∀{is:List aa} {cs:List Value},dP S w is cs→cs.length=is.length*19
 | [],_,h=>by
  have h: _= []:=h
  subst h
  rfl
 | _:: _,_,⟨tv,lv,cv,rest,e,h1,h2⟩=>by
  subst e
  have:=dP.len h2
  simp only[List.length_append,List.length_cons,cp,List.length_nil]
  omega
theorem dP.get {S:List Nat} {w:World}:∀{is:List aa} {cs:List Value},dP S w is cs→∀(k:Nat) (i:aa),is[k]? =some i→
 ∃tv lv cv,gR S w i tv lv cv∧∀r,r<19→cs[k*19+r]? =(cp i tv lv cv)[r]?
 | [],_,_,k,i,ht=>by simp at ht
 |a::is,_,⟨tv,lv,cv,rest,e,h1,h2⟩,0,i,ht=>by
  subst e
  simp only[List.getElem?_cons_zero,Option.some.injEq]at ht
  subst ht
  refine⟨tv,lv,cv,h1,fun r hr=> ?_⟩
  rw[Nat.zero_mul,Nat.zero_add,List.getElem?_append_left (by simpa [cp]using hr)]
 |a::is,_,⟨tv,lv,cv,rest,e,h1,h2⟩,k+1,i,ht=>by
  subst e
  obtain⟨tv',lv',cv',h3,h4⟩:=dP.get h2 k i (by simpa using ht)
  refine⟨tv',lv',cv',h3,fun r hr=> ?_⟩
  rw[←h4 r hr,List.getElem?_append_right (by simp only[cp,List.length_cons,List.length_nil];omega)]
  congr 1
  simp only[cp,List.length_cons,List.length_nil]
  omega
theorem Sl.ins_elem {S:List Nat} {w:World} {v:Value} {is:List aa} {cs:List Value} (h:Sl S w 19 v is.length cs) (hs:dP S w is cs) (k:Nat) (i:aa) (hi:is[k]? =some i):
 ∃b off cap tv lv cv,v= .slice (some ⟨b,off,none⟩) is.length cap∧b<w.heap.size∧b∉S∧gR S w i tv lv cv∧∀r,r<19→w.cell? ⟨b,off+(k*19+r),none⟩=(cp i tv lv cv)[r]? :=by
 obtain⟨h1,h2,a,cap,rfl,h4,h5,hN,h6⟩:=h
 have hlt:k<is.length:=(List.getElem?_eq_some_iff.1 hi).1
 obtain⟨tv,lv,cv,h7,h8⟩:=hs.get k i hi
 rcases h6 with h6|⟨b,off,rfl,hn,hb,hc⟩
 ·omega
 ·refine⟨b,off,cap,tv,lv,cv,rfl,hb,hn,h7,fun r hr=> ?_⟩
  rw[hc _ (by omega)]
  exact h8 r hr
theorem St.ins {S:List Nat} {w0 w:World} {G:List bt} (h:St S w0 w G) {i:aa} {tv lv cv:Value} (hs:gR S w0 i tv lv cv):gR S w i tv lv cv:=hs.fr h.fr (fun _ _ h=>h)
theorem St.inss {S:List Nat} {w0 w:World} {G:List bt} (h:St S w0 w G) {is:List aa} {cs:List Value} (hs:dP S w0 is cs):dP S w is cs:=dP.fr h.fr (fun _ _ h=>h) hs
def Sh (h:aC) (k:Nat):Prop:=bQ h=true∧(aZ h).length≤k∧1≤k
theorem IV:bR=cM (fun bs=>rU bs 32) fun n=>(⟨13,n⟩:aC):=rfl
theorem Bx:cD bR Sh:=by
 rw[IV]
 refine gS (nS 32 (by decide) (by decide)) _ fun n k ⟨h1,h2⟩=>⟨?_,?_,?_⟩
 ·have h2:n<4294967296:=by simpa using h2
  simp[bQ];omega
 ·simpa [aZ]using h1
 ·have:=dQ n;omega
def Ev (x:Int×aF) (k:Nat):Prop:=
 (if x.1=0 then aj x.2 else if x.1=8∨x.1=16 then decide (x.2=⟨1,false,⟨0,0⟩⟩)else false)=true∧(if x.1=8 then [120]else if x.1=16 then [119]else bZ x.2:List UInt8).length≤k
theorem Ae:ci fY:=fun bs s h=>by
 unfold fY
 rw[nG bs h,if_neg (by decide),if_neg (by decide)]
 exact qV bs s h
theorem BI:cD fY Ev:=fun bs s he ha h0=>by
 unfold fY at h0⊢
 split at h0
 ·rename_i h1
  have:=fJ (s:=s) (bs:=bs) (by rw[h1];decide)
  simp only[if_pos h1]
  exact⟨1,rfl,by omega,by simp[Ev]⟩
 ·rename_i h1
  split at h0
  ·rename_i h2
   have:=fJ (s:=s) (bs:=bs) (by rw[h2];decide)
   simp only[if_neg h1,if_pos h2]
   exact⟨1,rfl,by omega,by simp[Ev]⟩
  ·rename_i h2
   simp only[if_neg h1,if_neg h2]
   obtain⟨k,e,l,p1,p2,_⟩:=pS bs s he ha h0
   exact⟨k,e,l,by simpa using p1,by simpa using p2⟩
def Bz (a c:Nat):bb Bool:=fun _ s=>(c==1,if 1<c then s.form a else s)
theorem tK:sW=aJ ai Bz:=rfl
theorem DQ (a c:Nat):cD (Bz a c) fun _ k=>k=0∧c≤1:=fun bs s he ha h0=>by
 unfold Bz at h0⊢
 split at h0
 ·rw[rr he]at h0;cases h0
 ·rename_i h1
  simp only[if_neg h1]
  exact⟨0,rfl,by omega,rfl,by omega⟩
theorem rm (a:Nat):ci (Bz a 0):=fun bs s h=>by simp[Bz]
theorem Fh:ci sW:=fun bs s h=>by
 rw[tK];unfold aJ
 have h1:=eF bs s h
 have h2:(ai bs s).1=0:=kO bs s (by rw[h1];exact h)
 rw[h1,h2];exact rm _ bs s h
theorem Ir:cD sW fun _ k=>k=1:=by
 rw[tK]
 refine(cD.bind iw eF (tE rm) (fun a x _ _=>DQ a x)).mono ?_
 rintro v k ⟨x,k1,k2,rfl,⟨rfl,_⟩,rfl,_⟩
 rfl
def Tt (f:ey) (k:Nat):Prop:=bM f=true∧(bj f).length≤k∧1≤k
def GP (_:Nat) (x:Int×aF):bb ey:=cM sW fun b=>⟨x.1,x.2,b⟩
theorem ug:bE=aJ fY GP:=rfl
theorem A2 (a:Nat) (x:Int×aF):cD (GP a x) fun f k=>f.pack=x.1∧f.val=x.2∧k=1:=
 gS Ir _ fun _ _ h=>⟨rfl,rfl,h⟩
theorem uk:cD bE Tt:=by
 rw[ug]
 refine(cD.bind BI Ae (fun _ _ _=>Fh) (fun a x _ _=>A2 a x)).mono ?_
 rintro f k ⟨x,k1,k2,rfl,⟨p1,p2⟩,e1,e2,rfl⟩
 refine⟨?_,?_,by omega⟩
 ·unfold bM;rw[e1,e2];exact p1
 ·unfold bj;rw[e1,e2];simp only[List.length_append,List.length_cons,List.length_nil];omega
def gW (c:iW):Bool:=
 (c.params.all aj&&c.results.all aj&&c.fields.all bM)&&
 (if c.kind=1 then c.fields.length==0
  else if c.kind=2 then c.params.length+c.results.length==0
  else if c.kind=3 then c.params.length+c.results.length==0&&c.fields.length==1
  else false)
def kQ (c:iW):List UInt8:=
 if c.kind=1 then 96::(ae bZ c.params++ae bZ c.results)
 else if c.kind=2 then 95::ae bj c.fields
 else 94::c.fields.head?.elim [] bj
def Ry (c:iW) (k:Nat):Prop:=gW c=true∧(kQ c).length≤k∧1≤k
def AV (_:Nat) (x:List aF):bb iW:=cM eT fun y=>⟨1,x,y,[]⟩
def kf (a c:Nat):bb iW:=
 if c=96 then aJ eT AV
 else if c=95 then cM (fx bE) fun l=>⟨2,[],[],l⟩
 else if c=94 then cM bE fun f=>⟨3,[],[],[f]⟩
 else fun _ s=>(iW.zero,s.form a)
theorem qD:et=aJ ai kf:=by
 funext bs s
 unfold et aJ kf
 generalize (ai bs s).1=c
 generalize (ai bs s).2=s'
 split
 ·rfl
 ·split
  ·rfl
  ·split<;>rfl
theorem CH (a:Nat) (x:List aF):cD (AV a x) fun c k=>c.kind=1∧c.params=x∧c.fields= []∧qo aj bZ c.results k:=
 gS qz _ fun _ _ h=>⟨rfl,rfl,rfl,h⟩
theorem EO:cD (aJ eT AV) fun c k=>c.kind=1∧c.fields= []∧∃k1 k2,k=k1+k2∧qo aj bZ c.params k1∧qo aj bZ c.results k2:=by
 refine(cD.bind qz pu (fun _ _ _=>pu) (fun a x _ _=>CH a x)).mono ?_
 rintro c k ⟨x,k1,k2,rfl,p1,e1,e2,e3,p2⟩
 subst e2
 exact⟨e1,e3,k1,k2,rfl,p1,p2⟩
theorem An:cD (fx bE) (qo bM bj):=jW uk fun _ _ h=>h
theorem CF (a c:Nat):cD (kf a c) fun x k=>gW x=true∧(kQ x).length≤1+k:=by
 unfold kf
 split
 ·refine EO.mono ?_
  rintro x k ⟨e1,e2,k1,k2,rfl,⟨p1,p2,_⟩,⟨q1,q2,_⟩⟩
  refine⟨by simp only[gW,p1,q1,e1,e2];rfl,?_⟩
  simp only[kQ,e1,if_true,List.length_cons,List.length_append]
  omega
 ·split
  ·refine gS An _ fun l k ⟨p1,p2,_⟩=>⟨by simp only[gW,p1];rfl,?_⟩
   simp[kQ];omega
  ·split
   ·refine gS uk _ fun f k ⟨p1,p2,_⟩=>⟨by simp[gW,p1],?_⟩
    simp[kQ];omega
   ·exact og.back (fun bs s he=>by show(s.form a).err≠0;rw[rr he];decide) _
theorem qn (a:Nat):ci (kf a 0):=fun bs s h=>by simp[kf,wD h]
theorem tR:ci et:=fun bs s h=>by
 rw[qD];unfold aJ
 have h1:=eF bs s h
 have h2:(ai bs s).1=0:=kO bs s (by rw[h1];exact h)
 rw[h1,h2];exact qn _ bs s h
theorem DX:cD et Ry:=by
 rw[qD]
 refine(cD.bind iw eF (tE qn) (fun a x _ _=>CF a x)).mono ?_
 rintro v k ⟨x,k1,k2,rfl,⟨rfl,_⟩,h1,h2⟩
 exact⟨h1,h2,by omega⟩
def uE (f:Bool) (l:List aC):List UInt8:=
 if f=false then 80::ae aZ l else if 0<l.length then 79::ae aZ l else []
def VW (x:Bool×List aC) (k:Nat):Prop:=x.2.all bQ=true∧(uE x.1 x.2).length≤k
theorem AA:cD (fx bR) (qo bQ aZ):=jW Bx fun _ _ h=>h
theorem tV:ci iG:=fun bs s h=>by simp[iG,nG bs h]
theorem EH:cD iG VW:=fun bs s he ha h0=>by
 unfold iG at h0⊢
 split at h0
 ·rename_i h1
  have hp:=fJ (s:=s) (bs:=bs) (by omega)
  simp only[if_pos h1]
  obtain⟨k,e,l,p1,p2,_⟩:=AA bs (s.adv 1) he (by simp;omega) h0
  have e':(bX bs (bR bs) s.next).2=(s.adv 1).adv k:=e
  simp at l
  refine⟨1+k,by rw[e',dt],by omega,p1,?_⟩
  have p2:(ae aZ (bX bs (bR bs) s.next).1).length≤k:=p2
  simp only[uE]
  split
  ·simp only[List.length_cons];omega
  ·split
   ·simp only[List.length_cons];omega
   ·simp
 ·rename_i h1
  simp only[if_neg h1]
  exact⟨0,rfl,by omega,rfl,by simp[uE]⟩
def W1 (x:bu) (k:Nat):Prop:=bP x=true∧(dg x).length≤k∧1≤k
def NL (_:Nat) (x:Bool×List aC):bb bu:=cM et fun c=>⟨x.1,x.2,c⟩
theorem C5:mH dc (aJ iG NL):=fun bs s=>⟨rfl,fun h=>by
 have h:(et bs (iG bs s).2).2.err=0:=h
 simp[dc,ax.told,h,aJ,NL,cM]⟩
theorem C9 (a:Nat) (x:Bool×List aC):cD (NL a x) fun t k=>t.final_=x.1∧t.supers=x.2∧Ry t.comp k:=
 gS DX _ fun _ _ h=>⟨rfl,rfl,h⟩
theorem tW (s:bu):bP s=(s.supers.all bQ&&gW s.comp):=by simp[bP,gW,Bool.and_assoc]
theorem Az (s:bu):dg s=uE s.final_ s.supers++kQ s.comp:=rfl
theorem EP:ci dc:=fun bs s h=>by
 show(et bs (iG bs s).2).2=s
 rw[tV bs s h,tR bs s h]
theorem za:cD dc W1:=by
 refine C5.back ((cD.bind EH tV (fun _ _ _=>tR) (fun a x _ _=>C9 a x)).mono ?_)
 rintro t k ⟨x,k1,k2,rfl,⟨p1,p2⟩,e1,e2,q1,q2,q3⟩
 refine⟨?_,?_,by omega⟩
 ·rw[tW,e2,p1,q1];rfl
 ·rw[Az,e1,e2,List.length_append];omega
def o8 (l:List bu):List UInt8:=match l with
 | []=> []
 | [s]=>dg s
 |l=>78::ae dg l
theorem uS (l:List bu):qO l=if l.all bP then o8 l else []:=rfl
def Xe (l:List bu) (k:Nat):Prop:=l.all bP=true∧(o8 l).length≤k∧1≤k
theorem ws:cD (fx dc) (qo bP dg):=jW za fun _ _ h=>h
theorem Dd (s:bu):(dg s).length< (ae dg [s]).length:=by simp[ae];have:=dQ 1;omega
theorem Ky:cD gy Xe:=fun bs s he ha h0=>by
 unfold gy at h0⊢
 split at h0
 ·rename_i h1
  have hp:=fJ (s:=s) (bs:=bs) (by omega)
  simp only[if_pos h1]
  obtain⟨k,e,l,p1,p2,p3⟩:=ws bs (s.adv 1) he (by simp;omega) h0
  have e':(bX bs (dc bs) s.next).2=(s.adv 1).adv k:=e
  simp at l
  refine⟨1+k,by rw[e',dt],by omega,p1,?_,by omega⟩
  have p2:(ae dg (bX bs (dc bs) s.next).1).length≤k:=p2
  generalize (bX bs (dc bs) s.next).1=x at p2
  match x,p2 with
  | [],_=>simp[o8]
  | [t],p2=>have:=Dd t;simp only[o8];omega
  |a::b::r,p2=>simp only[o8,List.length_cons]at p2⊢;omega
 ·rename_i h1
  simp only[if_neg h1]
  obtain⟨k,e,l,p1,p2,p3⟩:=za bs s he ha h0
  have h0':(dc bs s).2.err=0:=h0
  refine⟨k,e,l,?_⟩
  simp only[ax.told,if_pos h0']
  exact⟨by simpa using p1,by simpa [o8]using p2,p3⟩
structure At (bs:List UInt8) (s:ax) (l:List UInt8):Prop where
 ok:s.err=0
 le:s.at_≤bs.length
 eq:bs.drop s.at_=l
theorem At.adv {bs:List UInt8} {s:ax} {b l:List UInt8} (h:At bs s (b++l)):At bs (s.adv b.length) l:=by
 have h3:=congrArg List.length h.eq
 simp at h3
 have:=h.le
 refine⟨h.ok,by simp;omega,?_⟩
 simp only[adv_at,←List.drop_drop]
 rw[h.eq];simp
theorem At.head {bs:List UInt8} {s:ax} {c:UInt8} {l:List UInt8} (h:At bs s (c::l)):s.at_<bs.length∧bs.getD s.at_ 0=c:=by
 have h3:=congrArg List.length h.eq
 simp at h3
 have hl:s.at_<bs.length:=by omega
 refine⟨hl,?_⟩
 have:=congrArg (fun l=>l.getD 0 0) h.eq
 simpa [List.getD,List.getElem?_drop]using this
def RT {α:Type} (F:bb α) (b:List UInt8) (x:α):Prop:=∀bs s l,At bs s (b++l)→F bs s=(x,s.adv b.length)
theorem ep (c:UInt8):RT ai [c] c.toNat:=fun bs s l h=>by
 have:=At.head (c:=c) (l:=l) (by simpa using h)
 unfold ai
 rw[if_pos ⟨h.ok,this.1⟩,this.2];rfl
theorem gG {bs:List UInt8} {s:ax} {c:UInt8} {l:List UInt8} (h:At bs s (c::l)):bF bs s=c.toNat:=by
 have:=At.head h
 unfold bF
 rw[if_pos ⟨h.ok,this.1⟩,this.2]
theorem vm (bits n:Nat) (h1:1≤bits) (hb:bits≤64) (hn:n<2^bits):RT (fun bs=>rU bs bits) (aI n) n:=fun bs s l h=>by
 have hr:ak bs s.at_ bits false=(n,s.at_+(aI n).length,0):=by
  rw[eH h.le,h.eq,EY bits hb n n (Nat.le_refl n) l s.at_ 0 0 (by omega) (by simp) (by simpa using hn)]
  simp
 simp[rU,h.ok,hr,ax.adv]
theorem Ca (bits:Nat) (n:Int) (h1:1≤bits) (hb:bits≤64) (hlo: -(2^(bits-1))≤n) (hhi:n<2^(bits-1)):RT (fun bs=>rS bs bits) (eN n) n:=fun bs s l h=>by
 obtain⟨v,h2,h3⟩:=EU bits hb n.natAbs n (Nat.le_refl _) l s.at_ 0 0 (by omega) (by simp) (by simp) (by simpa using hlo) (by simpa using hhi)
 have hr:ak bs s.at_ bits true=(v,s.at_+(eN n).length,0):=by
  rw[eH h.le,h.eq,h2]
 simp at h3
 simp[rS,h.ok,hr,ax.adv,h3]
theorem RT.bind {α β:Type} {F:bb α} {G:Nat→α→bb β} {b1 b2:List UInt8} {x:α} {y:β} (hF:RT F b1 x) (hG:∀a,RT (G a x) b2 y):RT (aJ F G) (b1++b2) y:=fun bs s l h=>by
 have h:At bs s (b1++(b2++l)):=by simpa using h
 unfold aJ
 rw[hF bs s _ h,hG s.at_ bs _ l h.adv,dt,List.length_append]
theorem RT.map {α β:Type} {F:bb α} {b:List UInt8} {x:α} (h:RT F b x) (m:α→β):RT (cM F m) b (m x):=fun bs s l ha=>by
 unfold cM;rw[h bs s l ha]
theorem RT.ret {α:Type} (x:α):RT (kc x) [] x:=fun _ _ _ _=>rfl
theorem RT.alike {α:Type} {F G:bb α} {b:List UInt8} {x:α} (h:mH F G) (hG:RT G b x):RT F b x:=fun bs s l ha=>by
 have h1:=h bs s
 have h2:=hG bs s l ha
 refine Prod.ext ?_ ?_
 ·rw[h1.2 (by rw[h2];exact ha.ok),h2]
 ·rw[h1.1,h2]
theorem mY (h:aC) (hp:dz h=true):RT co (d8 h) h:=fun bs s l ha=>by
 simp only[dz,Bool.or_eq_true,jd,bQ,decide_eq_true_eq]at hp
 obtain⟨k,n⟩:=h
 simp only at hp
 rcases hp with⟨h1,h2,rfl⟩|⟨rfl,h2,h3⟩
 ·have hb:∃c:UInt8,nc k= [c]∧cz c.toNat=k:=by
   have:k=1∨k=2∨k=3∨k=4∨k=5∨k=6∨k=7∨k=8∨k=9∨k=10∨k=11∨k=12:=by omega
   rcases this with rfl|rfl|rfl|rfl|rfl|rfl|rfl|rfl|rfl|rfl|rfl|rfl
   ·exact⟨110,by decide,by decide⟩
   ·exact⟨109,by decide,by decide⟩
   ·exact⟨108,by decide,by decide⟩
   ·exact⟨107,by decide,by decide⟩
   ·exact⟨106,by decide,by decide⟩
   ·exact⟨113,by decide,by decide⟩
   ·exact⟨112,by decide,by decide⟩
   ·exact⟨115,by decide,by decide⟩
   ·exact⟨111,by decide,by decide⟩
   ·exact⟨114,by decide,by decide⟩
   ·exact⟨105,by decide,by decide⟩
   ·exact⟨116,by decide,by decide⟩
  obtain⟨c,e1,e2⟩:=hb
  simp only[d8]at ha⊢
  rw[if_neg (by omega),e1]at ha⊢
  have hpk:=gG (c:=c) (l:=l) (by simpa using ha)
  unfold co
  rw[hpk,e2,if_neg (by omega)]
  rfl
 ·simp only[d8,if_true]at ha⊢
  have hS:=Ca 33 n (by decide) (by decide) (by omega) (by omega) bs s l ha
  simp only at hS
  have hg:cz (bF bs s)=0:=by
   obtain⟨c,r,e,hc⟩:∃(c:UInt8) (r:List UInt8),eN n=c::r∧cz c.toNat=0:=by
    by_cases hs:n<64
    ·refine⟨_,[],eI n (by omega) hs,?_⟩
     rw[fh _ (by omega)]
     unfold cz;rw[if_pos (by omega)]
    ·refine⟨_,_,na n (by omega),?_⟩
     rw[fh _ (by omega)]
     unfold cz;rw[if_pos (by omega)]
   rw[e]at ha
   rw[gG (c:=c) (l:=r++l) (by simpa using ha)];exact hc
  unfold co
  rw[if_pos hg,hS]
  simp[ax.told,ha.ok,show ¬n<0 by omega]
theorem nU (v:aF) (hp:aj v=true):RT bw (bZ v) v:=by
 obtain⟨k,nl,h⟩:=v
 simp only[aj]at hp
 rw[ni]
 simp only[bZ]
 split at hp
 ·rename_i hk
  simp at hp
  obtain⟨rfl,rfl⟩:=hp
  rcases hk with rfl|rfl
  ·exact RT.bind (b1:= [127]) (b2:= []) (ep 127) fun a=>by simp only[kq];exact RT.ret _
  ·exact RT.bind (b1:= [126]) (b2:= []) (ep 126) fun a=>by simp only[kq];exact RT.ret _
 ·rename_i hk
  split at hp
  ·rename_i h3
   subst h3
   have hp:dz h=true:=hp
   rw[if_neg (by decide),if_neg (by decide)]
   cases nl with
   |false=>
    rw[if_pos rfl]
    refine RT.bind (b1:= [100]) (b2:=d8 h) (ep 100) fun a=> ?_
    have:kq a (100:UInt8).toNat=Bl co aF.zero fun h=>⟨3,false,h⟩:=by simp[kq]
    rw[this]
    exact RT.alike (mu _ _ _) ((mY h hp).map _)
   |true=>
    rw[if_neg (by decide)]
    by_cases hx:h.kind=13
    ·rw[if_pos hx]
     refine RT.bind (b1:= [99]) (b2:=d8 h) (ep 99) fun a=> ?_
     have:kq a (99:UInt8).toNat=Bl co aF.zero fun h=>⟨3,true,h⟩:=by simp[kq]
     rw[this]
     exact RT.alike (mu _ _ _) ((mY h hp).map _)
    ·rw[if_neg hx]
     obtain⟨k,n⟩:=h
     simp only at hx
     simp only[dz,Bool.or_eq_true,jd,bQ,decide_eq_true_eq]at hp
     rcases hp with⟨h1,h2,rfl⟩|⟨rfl,_⟩
     ·have hb:∃c:UInt8,nc k= [c]∧cz c.toNat=k∧105≤c.toNat∧c.toNat≤116:=by
       have:k=1∨k=2∨k=3∨k=4∨k=5∨k=6∨k=7∨k=8∨k=9∨k=10∨k=11∨k=12:=by omega
       rcases this with rfl|rfl|rfl|rfl|rfl|rfl|rfl|rfl|rfl|rfl|rfl|rfl
       ·exact⟨110,by decide,by decide,by decide,by decide⟩
       ·exact⟨109,by decide,by decide,by decide,by decide⟩
       ·exact⟨108,by decide,by decide,by decide,by decide⟩
       ·exact⟨107,by decide,by decide,by decide,by decide⟩
       ·exact⟨106,by decide,by decide,by decide,by decide⟩
       ·exact⟨113,by decide,by decide,by decide,by decide⟩
       ·exact⟨112,by decide,by decide,by decide,by decide⟩
       ·exact⟨115,by decide,by decide,by decide,by decide⟩
       ·exact⟨111,by decide,by decide,by decide,by decide⟩
       ·exact⟨114,by decide,by decide,by decide,by decide⟩
       ·exact⟨105,by decide,by decide,by decide,by decide⟩
       ·exact⟨116,by decide,by decide,by decide,by decide⟩
      obtain⟨c,e1,e2,e3,e4⟩:=hb
      simp only[d8]
      rw[if_neg hx,e1]
      refine RT.bind (b1:= [c]) (b2:= []) (ep c) fun a=> ?_
      unfold kq
      rw[if_neg (by omega),if_neg (by omega),if_neg (by omega),if_neg (by omega),if_neg (by omega),e2]
      exact RT.ret _
     ·exact absurd rfl hx
  ·cases hp
theorem CI {α:Type} {F:bb α} {put:α→List UInt8}:∀(l:List α),(∀x,x∈l→RT F (put x) x)→RT (fun bs s=>av (F bs) l.length s) (l.flatMap put) l:=by
 intro l
 induction l with
 |nil=>intro _ bs s r h;rfl
 |cons x l ih=>
  intro hx bs s r h
  have h:At bs s (put x++(l.flatMap put++r)):=by simpa using h
  have h1:=hx x (by simp) bs s _ h
  have h2:=ih (fun y hy=>hx y (by simp[hy])) bs _ r h.adv
  simp only at h2
  simp only[List.length_cons,av,if_pos h.ok,h1,h2,dt]
  simp
theorem fZ {α:Type} (put:α→List UInt8) (l:List α) (h:∀x,x∈l→1≤(put x).length):l.length≤(l.flatMap put).length:=by
 induction l with
 |nil=>simp
 |cons x l ih=>
  have:=ih (fun y hy=>h y (by simp[hy]))
  have:=h x (by simp)
  simp only[List.flatMap_cons,List.length_append,List.length_cons];omega
theorem kK {α:Type} {F:bb α} {put:α→List UInt8} (l:List α) (hn:l.length<4294967296) (h:∀x,x∈l→RT F (put x) x∧1≤(put x).length):RT (fx F) (ae put l) l:=fun bs s r ha=>by
 have hge:=fZ put l (fun x hx=>(h x hx).2)
 unfold ae at ha⊢
 have ha:At bs s (aI l.length++(l.flatMap put++r)):=by simpa using ha
 have h1:=vm 32 l.length (by decide) (by decide) (by simpa using hn) bs s _ ha
 simp only at h1
 have h2:=CI l (fun x hx=>(h x hx).1) bs _ r ha.adv
 simp only at h2
 have h3:af bs s=(l.length,s.adv (aI l.length).length):=by
  have hl:=congrArg List.length ha.adv.eq
  simp only[List.length_drop,List.length_append,adv_at]at hl
  unfold af
  rw[h1,if_neg]
  simp only[adv_at]
  omega
 unfold fx bX
 rw[h3]
 simp only[h2,dt,ax.told,if_pos (show(s.adv ((aI l.length).length+(l.flatMap put).length)).err=0 from ha.ok),List.length_append]
theorem JN (h:aC) (hp:dz h=true):1≤(d8 h).length:=by
 unfold d8
 split
 ·exact rg _
 ·rename_i hx
  simp only[dz,Bool.or_eq_true,jd,bQ,decide_eq_true_eq]at hp
  have:h.kind=1∨h.kind=2∨h.kind=3∨h.kind=4∨h.kind=5∨h.kind=6∨h.kind=7∨h.kind=8∨h.kind=9∨h.kind=10∨h.kind=11∨h.kind=12:=by omega
  rcases this with e|e|e|e|e|e|e|e|e|e|e|e<;>rw[e]<;>decide
theorem iR (v:aF) (hp:aj v=true):1≤(bZ v).length:=by
 unfold bZ
 split
 ·simp
 ·split
  ·simp
  ·split
   ·simp
   ·split
    ·simp
    ·rename_i h1 h2 _ _
     unfold aj at hp
     rw[if_neg (by omega)]at hp
     split at hp
     ·exact JN _ hp
     ·cases hp
theorem vF (l:List aF) (hn:l.length<4294967296) (hp:l.all aj=true):RT eT (ae bZ l) l:=
 kK l hn fun x hx=>by
  have:=List.all_eq_true.1 hp x hx
  exact⟨nU x this,iR x this⟩
theorem J3 (h:aC) (hp:bQ h=true):RT bR (aZ h) h:=by
 simp only[bQ,decide_eq_true_eq]at hp
 obtain⟨k,n⟩:=h
 simp only at hp
 obtain⟨rfl,h1,h2⟩:=hp
 have:=(vm 32 n.toNat (by decide) (by decide) (by omega)).map (fun n=>(⟨13,n⟩:aC))
 rw[Int.toNat_of_nonneg h1]at this
 exact this
theorem P5 (b:Bool):RT sW [if b then 1 else 0] b:=by
 rw[tK]
 cases b
 ·exact RT.bind (b1:= [0]) (b2:= []) (ep 0) fun a=>by intro bs s l h;rfl
 ·exact RT.bind (b1:= [1]) (b2:= []) (ep 1) fun a=>by intro bs s l h;rfl
theorem J0 (p:Int) (v:aF) (h:(if p=0 then aj v else if p=8∨p=16 then decide (v=⟨1,false,⟨0,0⟩⟩)else false)=true):
 RT fY (if p=8 then [120]else if p=16 then [119]else bZ v) (p,v):=fun bs s l ha=>by
 split at h
 ·rename_i h0
  subst h0
  rw[if_neg (by decide),if_neg (by decide)]at ha⊢
  have hb:∃(c:UInt8) (r:List UInt8),bZ v=c::r∧c.toNat≠120∧c.toNat≠119:=by
   have h1:=nU v h bs s l ha
   have h2:=iR v h
   obtain⟨c,r,e⟩:=List.exists_cons_of_length_pos h2
   refine⟨c,r,e,?_⟩
   rw[e]at ha
   have h3:=ep c bs s (r++l) (by simpa using ha)
   rw[ni]at h1
   unfold aJ at h1
   rw[h3]at h1
   constructor<;>
   ·intro hc
    rw[hc]at h1
    have h4:=congrArg (fun x=>x.2.err) h1
    simp[kq,cz,ax.form,ax.refuse,ax.fail,ha.ok]at h4
  obtain⟨c,r,e,c1,c2⟩:=hb
  have hpk:bF bs s=c.toNat:=by
   rw[e]at ha
   exact gG (c:=c) (l:=r++l) (by simpa using ha)
  unfold fY
  rw[hpk,if_neg c1,if_neg c2,nU v h bs s l ha]
 ·rename_i h0
  split at h
  ·rename_i h1
   have hv:v=⟨1,false,⟨0,0⟩⟩:=by simpa using h
   subst hv
   rcases h1 with rfl|rfl
   ·rw[if_pos rfl]at ha⊢
    have hpk:=gG (c:=120) (l:=l) (by simpa using ha)
    unfold fY
    rw[hpk];rfl
   ·rw[if_neg (by decide),if_pos rfl]at ha⊢
    have hpk:=gG (c:=119) (l:=l) (by simpa using ha)
    unfold fY
    rw[hpk];rfl
  ·cases h
theorem yc (f:ey) (hp:bM f=true):RT bE (bj f) f:=by
 rw[ug]
 exact RT.bind (J0 f.pack f.val hp) fun a=>(P5 f.mut_).map _
theorem nB (f:ey):1≤(bj f).length:=by simp[bj]
theorem Mu (c:iW) (hp:gW c=true) (h1:c.params.length<4294967296) (h2:c.results.length<4294967296) (h3:c.fields.length<4294967296):RT et (kQ c) c:=by
 obtain⟨k,ps,rs,fs⟩:=c
 simp only[gW,Bool.and_eq_true]at hp
 obtain⟨⟨⟨p1,p2⟩,p3⟩,p4⟩:=hp
 rw[qD]
 simp only[kQ]
 split at p4
 ·rename_i hk
  subst hk
  have:fs= []:=by simpa using p4
  subst this
  rw[if_pos rfl]
  refine RT.bind (b1:= [96]) (b2:=ae bZ ps++ae bZ rs) (ep 96) fun a=> ?_
  have:kf a (96:UInt8).toNat=aJ eT AV:=by simp[kf]
  rw[this]
  exact RT.bind (vF ps h1 p1) fun a=>(vF rs h2 p2).map _
 ·rename_i hk
  split at p4
  ·rename_i hk2
   subst hk2
   have hpr:ps= []∧rs= []:=by simpa using p4
   obtain⟨rfl,rfl⟩:=hpr
   rw[if_neg (by decide),if_pos rfl]
   refine RT.bind (b1:= [95]) (b2:=ae bj fs) (ep 95) fun a=> ?_
   have:kf a (95:UInt8).toNat=cM (fx bE) fun l=>⟨2,[],[],l⟩:=by simp[kf]
   rw[this]
   exact(kK fs h3 fun x hx=>⟨yc x (List.all_eq_true.1 p3 x hx),nB x⟩).map _
  ·rename_i hk2
   split at p4
   ·rename_i hk3
    subst hk3
    simp only[Bool.and_eq_true,beq_iff_eq]at p4
    have hpr:ps= []∧rs= []:=by simpa using p4.1
    obtain⟨rfl,rfl⟩:=hpr
    obtain⟨f,rfl⟩:=List.length_eq_one_iff.1 p4.2
    rw[if_neg (by decide),if_neg (by decide)]
    refine RT.bind (b1:= [94]) (b2:=bj f) (ep 94) fun a=> ?_
    have:kf a (94:UInt8).toNat=cM bE fun f=>⟨3,[],[],[f]⟩:=by simp[kf]
    rw[this]
    exact(yc f (by simpa using p3)).map _
   ·cases p4
theorem wL (c:iW):∃(b:UInt8) (r:List UInt8),kQ c=b::r∧b.toNat≠80∧b.toNat≠79∧b.toNat≠78:=by
 unfold kQ
 split
 ·exact⟨96,_,rfl,by decide,by decide,by decide⟩
 ·split
  ·exact⟨95,_,rfl,by decide,by decide,by decide⟩
  ·exact⟨94,_,rfl,by decide,by decide,by decide⟩
structure vo (s:bu):Prop where
 supers:s.supers.length<4294967296
 params:s.comp.params.length<4294967296
 results:s.comp.results.length<4294967296
 fields:s.comp.fields.length<4294967296
theorem DP (l:List aC) (hn:l.length<4294967296) (hp:l.all bQ=true):RT (fx bR) (ae aZ l) l:=
 kK l hn fun x hx=>⟨J3 x (List.all_eq_true.1 hp x hx),dQ _⟩
theorem pA (s:bu):∃(b:UInt8) (r:List UInt8),dg s=b::r∧b.toNat≠78:=by
 rw[Az]
 unfold uE
 split
 ·exact⟨80,_,rfl,by decide⟩
 ·split
  ·exact⟨79,_,rfl,by decide⟩
  ·obtain⟨b,r,e,_,_,h⟩:=wL s.comp
   exact⟨b,r,by simpa using e,h⟩
theorem GG (t:bu) (hp:bP t=true) (hs:vo t):RT dc (dg t) t:=fun bs s l ha=>by
 rw[tW,Bool.and_eq_true]at hp
 rw[Az]at ha⊢
 have hc:=Mu t.comp hp.2 hs.params hs.results hs.fields
 obtain⟨b,r,e,n1,n2,_⟩:=wL t.comp
 have hH:iG bs s=((t.final_,t.supers),s.adv (uE t.final_ t.supers).length):=by
  unfold uE at ha⊢
  unfold iG
  split at ha
  ·rename_i hf
   rw[if_pos hf]
   have hpk:=gG (c:=80) (l:=ae aZ t.supers++(kQ t.comp++l)) (by simpa using ha)
   have ha1:At bs (s.adv 1) (ae aZ t.supers++(kQ t.comp++l)):=At.adv (b:= [80]) (by simpa using ha)
   exact XI
  ·rename_i hf
   rw[if_neg hf]
   have hf:t.final_=true:=by simpa using hf
   split at ha
   ·rename_i hn
    rw[if_pos hn]
    have hpk:=gG (c:=79) (l:=ae aZ t.supers++(kQ t.comp++l)) (by simpa using ha)
    have ha1:At bs (s.adv 1) (ae aZ t.supers++(kQ t.comp++l)):=At.adv (b:= [79]) (by simpa using ha)
    exact XI
   ·rename_i hn
    rw[if_neg hn]
    have hse:t.supers= []:=by simpa using hn
    rw[e]at ha
    have hpk:=gG (c:=b) (l:=r++l) (by simpa using ha)
    rw[hpk,if_neg (by omega),hf,hse]
    rfl
 have ha2:At bs (s.adv (uE t.final_ t.supers).length) (kQ t.comp++l):=At.adv (by simpa using ha)
 unfold dc
 rw[hH]
 simp only
 rw[hc bs _ l ha2]
 simp[ax.told,ha.ok,dt]
theorem sJ (a b:bu) (l:List bu):o8 (a::b::l)=78::ae dg (a::b::l):=rfl
theorem Rr (l:List bu) (hp:l.all bP=true) (hn:l≠ []) (hl:l.length<4294967296) (hs:∀t,t∈l→vo t):RT gy (o8 l) l:=fun bs s r ha=>by
 match l,hn with
 | [t],_=>
  simp only[o8]at ha⊢
  obtain⟨b,q,e,n1⟩:=pA t
  have hpk:bF bs s=b.toNat:=by
   rw[e]at ha
   exact gG (c:=b) (l:=q++r) (by simpa using ha)
  unfold gy
  rw[hpk,if_neg n1,GG t (by simpa using hp) (hs t (by simp)) bs s r ha]
  simp[ax.told,ha.ok]
 |x::y::q,_=>
  rw[sJ]at ha⊢
  have hpk:=gG (c:=78) (l:=ae dg (x::y::q)++r) (by simpa using ha)
  have ha1:At bs (s.adv 1) (ae dg (x::y::q)++r):=At.adv (b:= [78]) (by simpa using ha)
  have h1:=kK (F:=dc) (put:=dg) (x::y::q) hl (fun t ht=>⟨GG t (List.all_eq_true.1 hp t ht) (hs t ht),by
   obtain⟨b,q,e,_⟩:=pA t;rw[e];simp⟩) bs _ r ha1
  have h1:bX bs (dc bs) s.next=(x::y::q,(s.adv 1).adv (ae dg (x::y::q)).length):=h1
  unfold gy
  rw[hpk,if_pos (by decide),h1,dt]
  simp[Nat.add_comm]
theorem OP {w w':World} {b n:Nat} {d:List Value} (h:w.rangeAt b n d) (hf:Fr [] w w') (hb:b<w.heap.size):w'.rangeAt b n d:=fun r v hv=>by
 rw[hf.cell hb (by simp)]
 exact h r v hv
theorem zu {p:Prop} (h:p:=by first|with_reducible exact eB|with_reducible exact yS|with_reducible exact yQ|with_reducible exact LB|with_reducible exact GM|with_reducible exact Qc|with_reducible exact xq|with_reducible exact v8|with_reducible exact zI|with_reducible exact sk|with_reducible exact AY|with_reducible exact mr|with_reducible exact kH|with_reducible exact pM|with_reducible exact u9|with_reducible exact AK|with_reducible exact ce|with_reducible exact Eg|with_reducible exact mU):p:=h
theorem zq {p:Prop} (h:p:=by first|with_reducible exact ff|with_reducible exact vQ|with_reducible exact vC|with_reducible exact KO|with_reducible exact Bt|with_reducible exact L7|with_reducible exact zg|with_reducible exact zb|with_reducible exact sd|with_reducible exact nj|with_reducible exact u0|with_reducible exact jX|with_reducible exact jO|with_reducible exact jz|with_reducible exact yd|with_reducible exact wH|with_reducible exact br|with_reducible exact ur|with_reducible exact kF):p:=h
theorem zz {p:Prop} (h:p:=by first|exact zq|(rw[hcl];exact zq)|(rw[hcl1];exact zq)|(rw[hcl2];exact zq)):p:=h
theorem Yo {p:Prop} (h:p:=by(try simp only[World.size_alloc,World.size_setCell,ay,ar]);first|(apply eD.elem;with_reducible exact hRow1)|(apply eD.elem;with_reducible exact hRow2 ())|(apply eD.loc;(exact aK);done)|(apply eD.elem;exact hRow)):p:=h
theorem Vb {P:Program} {w:World} {ops:Array Oper} {rest:List Oper} {o:Oper} {a:Act} {Q:Exit→Act→World→Prop} {ty:TypeId} {x:Operand} {b n:Nat} {d:TypeDesc} {S:List Nat} {w0:World} {G:List bt} {cs:List Value}
 (k:wpList P ops Q rest (a.put o.dst (.agg cs.toArray)) w) (hgd:o.guard=none:=by rfl) (ho:o.op= .load ty x:=by rfl) (hx:a.eval x= .pointer (some ⟨b,n,none⟩):=by rfl) (hu:P.underlying ty=some d:=by exact zu) (hd:d.isRow=true:=by rfl)
 (h1:St S w0 w G:=by exact aA) (h2:eD G w b n cs:=by exact Yo) (h3:(P.info? ty).map (·.size)=some cs.length:=by exact zz):wpList P ops Q (o::rest) a w:=
 bC hgd ho hx hu hd ⟨S,w0,G,cs,h1,h2,h3,k⟩
theorem Ym {p:Prop} (h:p:=by first|exact hcl|exact hcl1|exact hcl2):p:=h
theorem Yl {p:Prop} (h:p:=by first|exact hOne|exact hOne1|exact hOne2):p:=h
theorem N0 {P:Program} {w:World} {ops:Array Oper} {rest:List Oper} {o:Oper} {a:Act} {Q:Exit→Act→World→Prop} {ty:TypeId} {x y:Operand} {b:Nat} {vs cs:List Value} {T:TypeId} {S:List Nat} {w0:World} {G G':List bt} {F:World→Prop}
 (k:∀w',St S w0 w' (.loc b vs T::G')→F w'→wpList P ops Q rest (a.put o.dst undef) w') (hgd:o.guard=none:=by rfl) (ho:o.op= .store ty x y:=by rfl) (hx:a.eval x= .pointer (some ⟨b,0,none⟩):=by rfl) (hy:a.eval y= .agg vs.toArray:=by rfl)
 (h1:St S w0 w G:=by exact aA) (h2:bg G (.loc b cs T) G':=by exact aK) (h3:vs.length=cs.length:=by exact Ym) (h4:(P.info? ty).map (·.size)=some vs.length:=by exact zz) (h5:∀v∈vs,v.oneCell'=true:=by exact Yl)
 (g:∀w',oh w' (.loc b vs T::G')→F w':=by(intro w' h;first|(simp only[oh,bt.fact,List.cons_append,List.nil_append,true_and,and_true]at h;exact h)|exact trivial)):wpList P ops Q (o::rest) a w:=
 cd hgd ho hx hy ⟨S,w0,G,G',cs,T,h1,h2,h3,h4,h5,fun w' h=>k w' h (g w' h.facts)⟩
theorem St.ofOut {w w':World} {v:Value} {xs:List UInt8} (h:cX w' v xs) (hn:jS w v) (hf:Fr [] w w'):St [] w w' [.own 5 1 (v) (xs).length ((xs).map B)]:=
 ((St.start [] w).step0 hf).put (r:= .own 5 1 (v) (xs).length ((xs).map B)) h (fun b hb=>hn b hb) (fun _ _ _ h=>by cases h)
theorem Gl.st {S:List Nat} {w0 w:World} {G:List bt} (hg:Gl S w0) (h:St S w0 w G):Gl S w:=h.gl hg
theorem CO {w:World} (hg:Gl [] w) (v:Value) (ts:List aF) (h:Sl [] w 4 v ts.length (ts.flatMap cj)) (hok:∀t,t∈ts→t.heap.ok) (hl:ts.length≤1048576):
 Calls Tryz.prog 246 #[v] w fun e w'=>∃v',e= .returned v'∧St [] w w' [.own 5 1 (v') (oj ts).length ((oj ts).map B)]:=by
 have hh:=h
 obtain⟨_,_,a,cap,rfl,_⟩:=h
 have hS0:=St.start [] w
 have Hok:=Lib.hid hok
 clear hok
 have hmf:∀(fn:Fn) (first cap:Array Value) (w:World),(Instr.makeFunc fn first cap).run Tryz.prog w= .ok (.func fn first cap) w:=fun _ _ _ _=>rfl
 go_enter Tryz.func246,Tryz.ntmps246
 go_wp2
 go_loopw [7] (fun n wr=>∃(i:Nat),n= .int .i64 i∧i≤ts.length∧St [] w wr []∧Hid ((ts.take i).all aj=true)) (fun n _=>ts.length-(intOf n).toNat)
 case atStart=>exact⟨0,rfl,by omega,hS0,Lib.hid rfl⟩
 case round=>
  obtain⟨i,rfl,hi,hS,hall⟩:=hrel
  by_cases hlt:i<ts.length
  ·obtain⟨x,hx⟩:∃t,ts[i]? =some t:=⟨ts[i],by simp[hlt]⟩
   obtain⟨b1,o1,p1,hv1,hb1,_,hd1⟩:=Sl.elem (hS.sl hh) (fun _=>rfl) i x hx
   injection hv1 with e1 _ e1c
   subst e1 e1c
   have f10:=hd1 0 (by decide)
   have f11:=hd1 1 (by decide)
   have f12:=hd1 2 (by decide)
   have f13:=hd1 3 (by decide)
   clear hd1
   simp only[Nat.add_zero,←Nat.add_assoc,cj,List.getElem?_cons_zero,List.getElem?_cons_succ]at f10 f11 f12 f13
   have i1:(i:Int)< (ts.length:Int):=by omega
   have Hx:=Lib.hid hx
   clear hx
   go_wp2_with (go_at_call 117;refine(cK _ x).mono ?_;rintro e w1 ⟨rfl,hF1⟩;generalize hb1:aj x=b1;have Hb1:=Lib.hid hb1;clear hb1)
   ·have hne:ts.all aj=false:=by
     apply Bool.eq_false_iff.2
     intro hc
     have:=List.all_eq_true.1 hc x (List.mem_of_getElem? Hx.out)
     rw[Hb1.out]at this
     simp_all
    go_ret
    refine⟨_,rfl,?_⟩
    rw[MJ hne]
    exact St.ofOut (cX.nil _) (jS.nil _) ((hS.fr.alloc _).trans hF1)
   ·go_roundw
    case rel=>
     refine⟨i+1,by go_num,by omega,(hS.alloc' _).step0 hF1,Lib.hid ?_⟩
     rw[pr ts i x Hx.out,List.all_append,hall.out]
     have:=Hb1.out
     simp_all
    case measure=>simp[intOf];omega
  ·have hk:i=ts.length:=by omega
   subst hk
   have hallP:ts.all aj=true:=by simpa using hall.out
   have HP:=Lib.hid hallP
   clear hallP hall
   have i1:¬(ts.length:Int)< (ts.length:Int):=by omega
   have hg1:=hS.gl hg
   have hs1:=hS.sl hh
   have hx:([]:List UInt8).length+16*ts.length+64≤70368744177664:=by simp;omega
   go_wp2_with (go_at_call 189;refine(lP (.slice none 0 0) hg1 [] _ ts hs1 Hok.out (cX.nil _) hx).mono ?_;rintro e w4 ⟨v4,rfl,ho4,hA4⟩)
   go_ret
   refine⟨v4,rfl,?_⟩
   rw[tr HP.out]
   refine St.ofOut ho4 (fun b hb=> ?_) (hS.fr.trans hA4.1)
   rcases hA4.2 b hb with hb|hb
   ·cases hb
   ·exact Nat.le_trans hS.fr.size hb
end Go.Proofs.YtpdlmdlkecnpgaaGreatDoor
