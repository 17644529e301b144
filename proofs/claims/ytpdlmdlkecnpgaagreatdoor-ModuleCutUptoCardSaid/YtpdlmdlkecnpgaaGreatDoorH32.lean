/- Texts: MdCo MdDa. -/
import Derived.Test.YtpdlmdlkecnpgaaGreatDoorH0
import Derived.Test.YtpdlmdlkecnpgaaGreatDoorH29
import Derived.Test.YtpdlmdlkecnpgaaGreatDoorH30
set_option linter.unusedSimpArgs false
set_option linter.unusedVariables false
namespace Go.Proofs.YtpdlmdlkecnpgaaGreatDoor
open Go.RowKit
theorem bf.there {S:List Nat} {w:World} {e:TypeId} {k n c g:Nat} {a:Option Addr} {xs:List Value} (h:bf S w e k (.slice a n c) n xs) (ha:a=some ⟨g,0,none⟩) {j:Nat} (hj:j<n*k):∃u,xs[j]? =some u∧w.cell? ⟨g,j,none⟩=some u∧w.frozen? ⟨g,j,none⟩=false:=by
 subst ha
 obtain⟨h1,h2,h3⟩:=h
 rcases h3 with⟨h3,h4⟩|⟨g',cap,cur,h3,hg,hh,h4,h5,h6,h7⟩
 ·cases h3
 ·injection h3 with e1 e2 e3
  injection e1 with e1
  injection e1 with e1
  subst e1 e3
  refine⟨xs[j]'(by omega),by simp,?_,hh.frozen (by rw[h6];exact Nat.lt_of_lt_of_le hj (Nat.mul_le_mul_right _ h4))⟩
  rw[hh.cell j]
  have h8:=congrArg (fun l=>l[j]?) h7
  simp only[List.getElem?_take,if_pos hj,Array.getElem?_toList]at h8
  rw[h8]
  simp
theorem DU (n:Int):wrap64 n=SR n:=by unfold wrap64 SR;rfl
theorem De (k:Nat) (bs:List UInt8) (s:ax):(bo k bs s).1≤k:=by
 unfold bo
 split
 ·simp
 ·rename_i h
  have:((af bs s).1:Int)=k:=Classical.byContradiction fun h2=>h ⟨by omega,h2⟩
  omega
theorem JW (n:Nat) (bs:List UInt8) (s:ax):(dD n bs s).1.length≤bs.length:=by
 unfold dD
 split
 ·split
  ·simp
  ·rw[List.length_take,List.length_drop];omega
 ·simp
theorem yu {bs:List UInt8} {fs:List dh} {j:Nat} {t:ax} (h:j=0∨t.err≠0∧fs≠ []):bh bs fs j t=((fs,false),t):=by
 rcases h with rfl|⟨h1,h2⟩
 ·cases fs<;>rfl
 ·cases j with
  |zero=>cases fs<;>rfl
  |succ j=>
   cases fs with
   |nil=>exact absurd rfl h2
   |cons f fs=>simp[bh,h1]
theorem Df {bs:List UInt8} {f:dh} {fs:List dh} {j:Nat} {t:ax} (he:t.err=0):bh bs (f::fs) (j+1) t=
 (({f with locals:=(dC bs t).1.1,body:=(dC bs t).1.2}::(bh bs fs j (dC bs t).2).1.1,bD (dC bs t).1.2||(bh bs fs j (dC bs t).2).1.2),(bh bs fs j (dC bs t).2).2):=by
 rw[bh,if_pos he]
theorem iB {S X:List Nat} {w w':World} (h:cq S w) (hf:Fr X w w') (hX:∀b,b∈X→b∈S):cq S w':=h.fr hf fun b _ hb=>hX b hb
theorem Mk {S:List Nat} {w w':World} {r:Nat} (h:cq S w) (hf:Fr [] w w') (hr:w.heap.size≤r):cq (r::S) w':=by
 have h1:=h.gl.lt
 have h2:=h.rlt
 have h3:=h.klt
 refine(h.sub (S':=r::S) fun b hlt hb=> ?_).fr (S':= []) hf (by simp)
 rcases List.mem_cons.1 hb with rfl|hb
 ·omega
 ·exact hb
theorem Al {w w':World} {r g j:Nat} {u:Value} (hf:Fr [r] w w') (hu:w.cell? ⟨g,j,none⟩=some u) (hn:g<w.heap.size∧g≠r):w'.cell? ⟨g,j,none⟩=some u:=by
 rw[hf.cell hn.1 (by simpa using hn.2)]
 exact hu
set_option maxRecDepth 100000
set_option maxHeartbeats 6400000
theorem KL {w0 w:World} {lb rb:Nat} {V:LV} {L:bT} {bv:Value} {bs:List UInt8} (hL:vB w0 w lb rb V L) (h:Rd (V.S rb lb) w rb bv bs ah) (hg:cq (V.S rb lb) w) (hsm:bs.length≤274877906944) (hmf:L.m.funcs.length≤549755813888):
 Calls Tryz.prog 168 #[.pointer (some ⟨lb,0,none⟩),.pointer (some ⟨rb,0,none⟩)] w (fQ w0 V.xo lb rb bv bs
  ({L with codes:=true,m:={L.m with funcs:=(bh bs L.m.funcs (bo L.m.funcs.length bs ah).1 (bo L.m.funcs.length bs ah).2).1.1},needs:=L.needs||(bh bs L.m.funcs (bo L.m.funcs.length bs ah).1 (bo L.m.funcs.length bs ah).2).1.2},
    (bh bs L.m.funcs (bo L.m.funcs.length bs ah).1 (bo L.m.funcs.length bs ah).2).2)):=by
 have hn:=De L.m.funcs.length bs ah
 have hrb1:∀b,b∈ [rb]→b∈ [rb]:=fun _ h=>h
 obtain⟨fa,fc,hfv⟩:∃a c,V.fu= .slice a L.m.funcs.length c:=by
  obtain⟨a,c,h1,_⟩:=hL.own.shape
  exact⟨a,c,h1⟩
 have hc0:=hL.loc.cell
 have hz0:=hL.loc.frz
 simp only[om,hfv]at hc0
 have hLA:=hL.g.set (V':=V) (L':={L with codes:=true}) (i:=12) (v:= .bool true) (P:=fun _=>True) (cE.pure trivial) rfl rfl rfl rfl rfl (fun w hw _=>hw)
 have hRA:Rd (V.Z [rb] lb) (w.setCell ⟨lb,12,none⟩ (.bool true)) rb bv bs ah:=hL.rd h 12 _
 have hgA:cq (V.Z [rb] lb) (w.setCell ⟨lb,12,none⟩ (.bool true)):=iB (X:= [lb]) hg ((Fr.refl [lb] w).setCell (p:=⟨lb,12,none⟩) (by simp) _) (by simp[LV.Z])
 go_enter Tryz.func168,Tryz.ntmps168
 go_wp2_with (go_at_call 221;refine(zp _ hRA).mono ?_;rintro e wB ⟨rfl,hRB,hFB⟩;have hLB:=hLA.step hFB hrb1;have hgB:=iB hgA hFB (by simp[LV.Z]))
 generalize hq:bo L.m.funcs.length bs ah=q at hn hRB⊢
 obtain⟨n,s1⟩:=q
 simp only at hn hRB⊢
 clear hLA hRA hgA hc0 hz0 hq
 go_loopw [24] (fun i wr=>∃(k:Nat) (done rest:List dh) (nd:Bool) (t:ax) (fcs:List Value),i= .int .i64 k∧done.length=k∧k≤n∧(done++rest).length=L.m.funcs.length∧
  ow w0 wr lb [rb] {V with fcs:=fcs} {L with codes:=true,m:={L.m with funcs:=done++rest},needs:=L.needs||nd}∧Rd (V.Z [rb] lb) wr rb bv bs t∧cq (V.Z [rb] lb) wr∧
  Hid (bh bs L.m.funcs n s1=((done++(bh bs rest (n-k) t).1.1,nd||(bh bs rest (n-k) t).1.2),(bh bs rest (n-k) t).2))) (fun i _=>n-(intOf i).toNat)
 case atStart=>exact⟨0,[],L.m.funcs,false,s1,V.fcs,rfl,rfl,Nat.zero_le _,rfl,by simpa using hLB,hRB,hgB,Lib.hid (by simp)⟩
 case round=>
  obtain⟨k,done,rest,nd,t,fcs,rfl,hdk,hkn,hlen0,hL,hR,hgr,hI⟩:=hrel
  clear hLB hRB hgB hFB
  have hfin:∀w',ow w0 w' lb [rb] {V with fcs:=fcs} {L with codes:=true,m:={L.m with funcs:=done++rest},needs:=L.needs||nd}→Rd (V.Z [rb] lb) w' rb bv bs t→bh bs rest (n-k) t=((rest,false),t)→
   fQ w0 V.xo lb rb bv bs ({L with codes:=true,m:={L.m with funcs:=(bh bs L.m.funcs n s1).1.1},needs:=L.needs||(bh bs L.m.funcs n s1).1.2},(bh bs L.m.funcs n s1).2) (.returned (.tuple #[])) w':=by
   intro w' h1 h2 h3
   rw[hI.out,h3]
   simp only[Bool.or_false]
   exact⟨rfl,{V with fcs:=fcs},rfl,h1.t,h2⟩
  subst hdk
  by_cases hk:done.length=n
  ·have HF:=Lib.hid (hfin _ hL hR (yu (.inl (by omega))))
   subst hk
   clear hfin
   go_wp2
   go_end0
   exact HF.out
  ·have hkl:done.length<n:=by omega
   obtain⟨f,rest',rfl⟩:∃f r,rest=f::r:=by
    cases rest with
    |nil=>simp at hlen0;omega
    |cons f r=>exact⟨f,r,rfl⟩
   by_cases he:t.err=0
   ·have q1:(t.err !=0)=false:=by simp[he]
    obtain⟨j,hj⟩:∃j,n-done.length=j+1:=⟨n-done.length-1,by omega⟩
    have hle2:=hR.le
    have hCnt:=cn bs t
    have hlen:(af bs t).1≤1099511627776:=by omega
    have htl:=JW (af bs t).1 bs (af bs t).2
    have hlt40:(dD (af bs t).1 bs (af bs t).2).1.length≤1099511627776:=by omega
    have hlt38:(dD (af bs t).1 bs (af bs t).2).1.length≤274877906944:=by omega
    have hown:bf [] wr 55 3 V.fu (done++f::rest').length fcs:=hL.own
    obtain⟨g,hfa⟩:∃g,fa=some ⟨g,0,none⟩:=by
     rw[hfv]at hown
     obtain⟨_,_,h3⟩:=hown
     rcases h3 with⟨h3,h4⟩|⟨g,cap,cur,h3,_⟩
     ·simp at h4
     ·injection h3 with e1
      exact⟨g,e1⟩
    subst hfa
    have hblk:Value.blk V.fu= [g]:=by rw[hfv];rfl
    have hgr1:=hL.apr rb (by simp)
    have hgnr:g≠rb:=fun e=>hgr1.2.2 (by show rb∈Value.blk V.fu;rw[hblk,e];simp)
    have hidx:(done.length:Int)<L.m.funcs.length:=by omega
    have hcd:dC bs t=((gb (dD (af bs t).1 bs (af bs t).2).1).1,if (gb (dD (af bs t).1 bs (af bs t).2).1).2.err=0 then(dD (af bs t).1 bs (af bs t).2).2
     else(dD (af bs t).1 bs (af bs t).2).2.fail (gb (dD (af bs t).1 bs (af bs t).2).1).2.err (SR ((af bs t).2.at_+(gb (dD (af bs t).1 bs (af bs t).2).1).2.errAt))):=rfl
    have hI2:Hid (bh bs L.m.funcs n s1=((done++{f with locals:=(dC bs t).1.1,body:=(dC bs t).1.2}::(bh bs rest' j (dC bs t).2).1.1,nd||(bD (dC bs t).1.2||(bh bs rest' j (dC bs t).2).1.2)),(bh bs rest' j (dC bs t).2).2)):=
     Lib.hid (by rw[hI.out,hj,Df he])
    have Hcd:=Lib.hid hcd
    clear hcd hI hfin he
    go_wp2_with first|(go_at_call 222;refine(dI hR).mono ?_;rintro e w1 ⟨rfl,hR1,hF1⟩;have hL1:=hL.step hF1 hrb1;have hc1:=hL1.loc.cell;simp only[om,hfv]at hc1)|(go_at_call 199;refine(cZ hR1).mono ?_;rintro e w2 ⟨rfl,hR2,hF2⟩)|(go_at_call 175;refine(d5 hR2).mono ?_;rintro e w' ⟨rfl,rfl⟩)|(go_at_call 172;refine(uV _ hlen hR2).mono ?_;rintro e w3 ⟨a3,c3,rfl,hP3,hR3,hF3⟩)|(go_at_call 104;refine(zw hP3.now hR3.gl hR3.lt hlt40).mono ?_;rintro e w4 ⟨ib,iv,rfl,hI4,hib,hF4⟩)|fail
    have hL4:=((hL1.step hF2 hrb1).step hF3 hrb1).more hF4 hib
    have hI4':Rd (V.Z [ib,rb] lb) w4 ib iv _ ah:=hI4
    have hZ2:∀b,b∈ [ib]→b∈V.Z [ib,rb] lb:=by simp[LV.Z]
    have hZg:∀b,b∈ [g]→b∈V.Z [ib,rb] lb:=by simp[LV.Z,hblk]
    have hg4:cq (V.Z [ib,rb] lb) w4:=Mk (iB (iB (iB hgr hF1 (by simp[LV.Z])) hF2 (by simp[LV.Z])) hF3 (by simp[LV.Z])) hF4 hib
    have hig:ib≠g:=by
     have h1:=hR3.lt g (by simp[LV.Z,hblk])
     omega
    have hir:ib≠rb:=by
     have h1:=hR3.lt rb (by simp[LV.Z])
     omega
    generalize (dD (af bs t).1 bs (af bs t).2).1=tb at hI4 hI4' hlt38 hlt40 Hcd hP3 htl
    refine(Kp hI4' hlt38).mono ?_
    rintro e w5 ⟨a5,c5,rfl,hP5,hI5,hF5⟩
    have hL5:=hL4.step hF5 (by simp)
    have ho5:bf [] w5 55 3 V.fu (done++f::rest').length fcs:=hL5.own
    rw[hfv,hlen0]at ho5
    obtain⟨u5,_,hu5,hz5⟩:=ho5.there rfl (j:=done.length*3+1) (by omega)
    have hL6:=hL5.setF (g:=g) (c:=fc) (j:=done.length*3+1) (u:= .slice a5 (bL tb ah).1.length c5) (m:={L.m with funcs:=done++{f with locals:=(bL tb ah).1}::rest'}) (by rw[←hlen0]at hfv;exact hfv) (by show _< (done++f::rest').length*3;omega) rfl hP5 rfl (by simp) (fun w h1 h2=>Cr h1 h2)
    have hf6:Fr [g] w5 (w5.setCell ⟨g,done.length*3+1,none⟩ (.slice a5 (bL tb ah).1.length c5)):=(Fr.refl [g] w5).setCell (p:=⟨g,done.length*3+1,none⟩) (by simp) _
    have hI6:Rd (V.Z [ib,rb] lb) _ ib iv tb (bL tb ah).2:=hI5.fr hf6 (fun b _ hb=>hZg b hb) (by simpa using hig)
    have hg6:=iB (iB hg4 hF5 hZ2) hf6 hZg
    go_wp2_with fail
    refine(nL hI6 hg6 hlt38).mono ?_
    rintro e w7 ⟨a7,c7,rfl,hP7,hI7,hF7⟩
    have hL7:=hL6.step hF7 (by simp)
    have ho7:bf [] w7 55 3 V.fu (done++{f with locals:=(bL tb ah).1}::rest').length _:=hL7.own
    have hlen7:(done++{f with locals:=(bL tb ah).1}::rest').length=L.m.funcs.length:=by rw[←hlen0];simp
    rw[hfv,hlen7]at ho7
    obtain⟨u7,_,hu7,hz7⟩:=ho7.there rfl (j:=done.length*3+2) (by omega)
    have hL8:=hL7.setF (g:=g) (c:=fc) (j:=done.length*3+2) (u:= .slice a7 (bI tb (bL tb ah).2).1.length c7) (m:={L.m with funcs:=done++{f with locals:=(bL tb ah).1,body:=(bI tb (bL tb ah).2).1}::rest'}) (by rw[←hlen7]at hfv;exact hfv) (by show _< (done++{f with locals:=(bL tb ah).1}::rest').length*3;omega) rfl hP7 rfl (by simp) (fun w h1 h2=>J1 h1 h2)
    have hf8:Fr [g] w7 (w7.setCell ⟨g,done.length*3+2,none⟩ (.slice a7 (bI tb (bL tb ah).2).1.length c7)):=(Fr.refl [g] w7).setCell (p:=⟨g,done.length*3+2,none⟩) (by simp) _
    have hI8:Rd (V.Z [ib,rb] lb) _ ib iv tb (bI tb (bL tb ah).2).2:=hI7.fr hf8 (fun b _ hb=>hZg b hb) (by simpa using hig)
    have hB8:(w7.setCell ⟨g,done.length*3+2,none⟩ (.slice a7 (bI tb (bL tb ah).2).1.length c7)).cell? ⟨g,done.length*3+2,none⟩=some (.slice a7 (bI tb (bL tb ah).2).1.length c7):=by
     exact World.cell?_setCell_same _ _ _ hu7
    have hrow8:cE (V.Z [ib,rb] lb) _ (eo (.slice a7 (bI tb (bL tb ah).2).1.length c7) (bI tb (bL tb ah).2).1):=hP7.go hf8 (fun b _ hb=>hZg b hb) (fun _ _ hb=>hb)
    go_wp2_with fail
    refine(zc hI8).mono ?_
    rintro e w9 ⟨rfl,hI9,hF9⟩
    have hL9:=(hL8.step hF9 (by simp)).less
    have hf39:Fr [ib,g] w3 w9:=(((((hF4.mono (by simp)).trans (hF5.mono (by simp))).trans (hf6.mono (by simp))).trans (hF7.mono (by simp))).trans (hf8.mono (by simp))).trans (hF9.mono (by simp))
    have hR9:Rd (V.Z [rb] lb) w9 rb bv bs _:=hR3.fr hf39 (fun b hlt hb=>by
     simp at hb
     rcases hb with rfl|rfl
     ·omega
     ·simp[LV.Z,hblk]) (by simp;exact⟨fun e=>hir e.symm,fun e=>hgnr e.symm⟩)
    have hg9:cq (V.Z [rb] lb) w9:=(iB (iB (iB hg6 hF7 hZ2) hf8 hZg) hF9 hZ2).sub (fun b _ hb=>by simp only[LV.Z,List.cons_append,List.nil_append,List.mem_cons]at hb⊢;exact .inr hb)
    have hB9:=Al hF9 hB8 ⟨by
     have h1:=hf8.size
     have h2:=ho7.blk_lt g (by simp[Value.blk])
     omega,fun e=>hig e.symm⟩
    have hrow9:cE (V.Z [rb] lb) w9 (eo (.slice a7 (bI tb (bL tb ah).2).1.length c7) (bI tb (bL tb ah).2).1):=
     hrow8.go hF9 (fun b _ hb=>hZ2 b hb) (fun b _ hb=>by simp only[LV.Z,List.cons_append,List.nil_append,List.mem_cons]at hb⊢;exact .inr hb)
    have hgw9:g<w9.heap.size∧g≠rb:=⟨by
     have h1:=hf8.size
     have h2:=ho7.blk_lt g (by simp[Value.blk])
     have h3:=hF9.size
     omega,hgnr⟩
    have hci:gb tb=(((bL tb ah).1,(bI tb (bL tb ah).2).1),jF tb (bI tb (bL tb ah).2).2):=rfl
    rw[hci]at Hcd
    simp only at Hcd
    clear hL4 hI4 hI4' hL5 ho5 hu5 hz5 hL6 hI6 hg6 hL7 ho7 hu7 hz7 hL8 hI8 hB8 hrow8 hI9 hf39 hf6 hf8 hF5 hF7 hF9 hP5 hP7 hI5 hI7 hg4 hR3 hP3 hF3 hF4 hR2 hF2 hR1 hF1 hL1 hc1
    generalize (bL tb ah).1=ls at Hcd hL9
    generalize jF tb (bI tb (bL tb ah).2).2=fs at Hcd⊢
    generalize (bI tb (bL tb ah).2).1=bd at Hcd hL9 hB9 hrow9⊢
    generalize (dD (af bs t).1 bs (af bs t).2).2=s3 at hR9 Hcd
    generalize hnb:(L.needs||nd)=nb at hL9
    have hX10:∀b,b<w9.heap.size→b∈ [rb]→b∈V.Z [rb] lb:=fun b _ hb=>by simp at hb;subst hb;simp[LV.Z]
    have hc9:=hL9.loc.cell
    have hz9:=hL9.loc.frz
    simp only[om,hfv]at hc9
    have hfinal:∀(doneL:Nat) (x:Bool) (w':World) (s':ax) (fcs':List Value),doneL=done.length→x=(nb||bD bd)→s'=(if fs.err=0 then s3 else s3.fail fs.err (SR ((af bs t).2.at_+fs.errAt)))→
     ow w0 w' lb [rb] {V with fcs:=fcs'} {L with codes:=true,m:={L.m with funcs:=done++{f with locals:=ls,body:=bd}::rest'},needs:=x}→Rd (V.Z [rb] lb) w' rb bv bs s'→cq (V.Z [rb] lb) w'→
     ∃(k:Nat) (done rest:List dh) (nd:Bool) (t:ax) (fcs:List Value),Value.int .i64 (((doneL:Nat):Int)+1)= .int .i64 k∧done.length=k∧k≤n∧(done++rest).length=L.m.funcs.length∧
      ow w0 w' lb [rb] {V with fcs:=fcs} {L with codes:=true,m:={L.m with funcs:=done++rest},needs:=L.needs||nd}∧Rd (V.Z [rb] lb) w' rb bv bs t∧cq (V.Z [rb] lb) w'∧
      Hid (bh bs L.m.funcs n s1=((done++(bh bs rest (n-k) t).1.1,nd||(bh bs rest (n-k) t).1.2),(bh bs rest (n-k) t).2)):=by
     intro doneL x w' s' fcs' hdl hx hs' h1 h2 h3
     refine⟨done.length+1,done++ [{f with locals:=ls,body:=bd}],rest',nd||bD bd,s',fcs',by rw[hdl];rfl,by simp,by omega,by rw[←hlen0];simp,?_,h2,h3,Lib.hid ?_⟩
     ·have e1:(done++ [({f with locals:=ls,body:=bd}:dh)])++rest'=done++{f with locals:=ls,body:=bd}::rest':=by simp
      rw[e1,←Bool.or_assoc,hnb,←hx]
      exact h1
     ·have e2:n-(done.length+1)=j:=by omega
      have e3:(dC bs t).1=(ls,bd):=by rw[Hcd.out]
      have e4:(dC bs t).2=s':=by rw[Hcd.out,hs']
      rw[e2,hI2.out,e3,e4]
      simp[Bool.or_assoc]
    have HF:=Lib.hid hfinal
    clear hfinal Hcd
    have hgc:=hB9
    by_cases hie:fs.err=0
    ·have q2:(fs.err !=0)=false:=by simp[hie]
     have Hie:=Lib.hid hie
     clear hie
     have hset:=fun(x:Bool)=>hL9.set (i:=14) (v:= .bool x) (P:=fun _=>True) (V':={V with fcs:= _}) (L':={L with codes:=true,m:={L.m with funcs:=done++{f with locals:=ls,body:=bd}::rest'},needs:=x}) (cE.pure trivial) rfl rfl rfl rfl rfl (fun w hw _=>hw)
     have hfl:=fun(x:Bool)=>(Fr.refl [lb] w9).setCell (p:=⟨lb,14,none⟩) (by simp) (.bool x)
     have hRl:=fun(x:Bool)=>hR9.fr (hfl x) (fun b _ hb=>by simp at hb;subst hb;simp[LV.Z]) (by simpa using hgr1.2.1)
     have hgl:=fun(x:Bool)=>iB hg9 (hfl x) (fun b hb=>by simp at hb;subst hb;simp[LV.Z])
     cases nb
     ·go_wp2_with (go_at_call 35;refine(uj hrow9.now).mono ?_;rintro e w' ⟨rfl,hw⟩;rw[hw])
      go_roundw
      case rel=>exact HF.out done.length (bD bd) _ s3 _ rfl (by simp) (by rw[if_pos Hie.out]) (hset _) (hRl _) (hgl _)
      case measure=>simp[intOf];omega
     ·go_wp2
      go_roundw
      case rel=>exact HF.out done.length true _ s3 _ rfl (by simp) (by rw[if_pos Hie.out]) (hset _) (hRl _) (hgl _)
      case measure=>simp[intOf];omega
    ·have q2:(fs.err !=0)=true:=by simp[hie]
     have Hie:=Lib.hid hie
     clear hie
     have hset:=fun(x:Bool) w10 (hL10:ow w0 w10 lb [rb] {V with fcs:=(fcs.set (done.length*3+1) (.slice a5 ls.length c5)).set (done.length*3+2) (.slice a7 bd.length c7)} {L with codes:=true,m:={L.m with funcs:=done++{f with locals:=ls,body:=bd}::rest'},needs:=nb})=>
      hL10.set (i:=14) (v:= .bool x) (P:=fun _=>True) (V':={V with fcs:= _}) (L':={L with codes:=true,m:={L.m with funcs:=done++{f with locals:=ls,body:=bd}::rest'},needs:=x}) (cE.pure trivial) rfl rfl rfl rfl rfl (fun w hw _=>hw)
     have hfl:=fun(x:Bool) w10=>(Fr.refl [lb] w10).setCell (p:=⟨lb,14,none⟩) (by simp) (.bool x)
     have hRl:=fun(x:Bool) w10 s' (hR10:Rd (V.Z [rb] lb) w10 rb bv bs s')=>hR10.fr (hfl x w10) (fun b _ hb=>by simp at hb;subst hb;simp[LV.Z]) (by simpa using hgr1.2.1)
     have hgl:=fun(x:Bool) w10 (hF10:Fr [rb] w9 w10)=>iB (iB hg9 hF10 (by simp[LV.Z])) (hfl x w10) (fun b hb=>by simp at hb;subst hb;simp[LV.Z])
     cases nb
     ·go_wp2_with first|(go_at_call 174;refine(dY hR9 _ _).mono ?_;rintro e w10 ⟨rfl,hR10,hF10⟩;have hL10:=hL9.step hF10 hrb1;have hc10:=hL10.loc.cell;have hz10:=hL10.loc.frz;have hg10:=Al hF10 hB9 hgw9;simp only[om,hfv]at hc10)|(go_at_call 35;refine(uj (hrow9 _ _ hF10 hX10)).mono ?_;rintro e w' ⟨rfl,hw⟩;rw[hw])
      go_roundw
      case rel=>exact HF.out done.length (bD bd) _ _ _ rfl (by simp) (by rw[if_neg Hie.out,DU]) (hset _ _ hL10) (hRl _ _ _ hR10) (hgl _ _ hF10)
      case measure=>simp[intOf];omega
     ·go_wp2_with first|(go_at_call 174;refine(dY hR9 _ _).mono ?_;rintro e w10 ⟨rfl,hR10,hF10⟩;have hL10:=hL9.step hF10 hrb1;have hc10:=hL10.loc.cell;have hz10:=hL10.loc.frz;have hg10:=Al hF10 hB9 hgw9;simp only[om,hfv]at hc10)
      go_roundw
      case rel=>exact HF.out done.length true _ _ _ rfl (by simp) (by rw[if_neg Hie.out,DU]) (hset _ _ hL10) (hRl _ _ _ hR10) (hgl _ _ hF10)
      case measure=>simp[intOf];omega
   ·have q1:(t.err !=0)=true:=by simp[he]
    have HF:=Lib.hid fun w' h1 h2=>hfin w' h1 h2 (yu (.inr ⟨he,by simp⟩))
    clear hfin he
    go_wp2_with (go_at_call 222;refine(dI hR).mono ?_;rintro e w1 ⟨rfl,hR1,hF1⟩)
    go_end0
    exact HF.out _ (hL.step hF1 hrb1) hR1
theorem xR (k:Int) (bs:List UInt8) (s:ax):(bo k bs s).1≤bs.length:=by
 unfold bo
 split
 ·simp
 ·exact cn bs s
theorem Jj {w0 w:World} {lb rb:Nat} {V:LV} {L:bT} {bv:Value} {bs:List UInt8} (hL:vB w0 w lb rb V L) (h:Rd (V.S rb lb) w rb bv bs ah) (hg:cq (V.S rb lb) w) (hsm:bs.length≤274877906944):
 Calls Tryz.prog 169 #[.pointer (some ⟨lb,0,none⟩),.pointer (some ⟨rb,0,none⟩)] w (fQ w0 V.xo lb rb bv bs
  ({L with datas:=true,m:={L.m with datas:=(av (mI bs) (bo L.count bs ah).1 (bo L.count bs ah).2).1}},(av (mI bs) (bo L.count bs ah).1 (bo L.count bs ah).2).2)):=by
 have hn:=xR L.count bs ah
 have hn2:(bo L.count bs ah).1≤549755813887:=by omega
 have hc0:=hL.loc.cell
 have hz0:=hL.loc.frz
 simp only[om]at hc0
 have hLA:=hL.g.set (V':=V) (L':={L with datas:=true}) (i:=13) (v:= .bool true) (P:=fun _=>True) (cE.pure trivial) rfl rfl rfl rfl rfl (fun w hw _=>hw)
 have hRA:Rd (V.Z [rb] lb) (w.setCell ⟨lb,13,none⟩ (.bool true)) rb bv bs ah:=hL.rd h 13 _
 have hgA:cq (V.Z [rb] lb) (w.setCell ⟨lb,13,none⟩ (.bool true)):=iB (X:= [lb]) hg ((Fr.refl [lb] w).setCell (p:=⟨lb,13,none⟩) (by simp) _) (by simp[LV.Z])
 have hrb1:∀b,b∈ [rb]→b∈V.Z [rb] lb:=by simp[LV.Z]
 go_enter Tryz.func169,Tryz.ntmps169
 go_wp2_with first|(go_at_call 221;refine(zp _ hRA).mono ?_;rintro e wB ⟨rfl,hRB,hFB⟩;have hLB:=hLA.step hFB (fun _ h=>h);have hgB:=iB hgA hFB hrb1)|(go_at_call 224;refine(Ju _ hn2 hRB hgB hsm).mono ?_;rintro e wC ⟨v,cs,rfl,hK⟩;have hO:bf [] _ _ _ _ _ _:=hK.r.st.head;obtain⟨a1,c1,rfl,_,_⟩:=bf.shape hO;have hlC:=hLB.loc.fr hK.fr (fun hm=>(hLB.apr lb hm).2.1 rfl);have hcC:=hlC.cell;have hzC:=hlC.frz;simp only[om]at hcC)
 go_end0
 have hz:=hLB.t.field hRB hK 10 {V with da:= .slice a1 (av (mI bs) (bo L.count bs ah).1 (bo L.count bs ah).2).1.length c1} {L with datas:=true,m:={L.m with datas:=(av (mI bs) (bo L.count bs ah).1 (bo L.count bs ah).2).1}} rfl rfl rfl rfl rfl (fun w hw hv=>by
  obtain⟨p0,p1,p2,p3,p4,p5,p6,p7,p8,p9⟩:=hw
  exact⟨p0,p1,p2,p3,p4,p5,p6,p7,p8,hv⟩)
 exact⟨rfl,_,by rfl,hz.1,hz.2⟩
def pY (id lb lc cb:Nat):Value:=
 if id=1 then .func (.func 137) #[] #[.pointer (some ⟨lc,0,none⟩)]else
 if id=2 then .func (.func 140) #[] #[.pointer (some ⟨lc,0,none⟩)]else
 if id=3 then .func (.func 143) #[] #[.pointer (some ⟨lc,0,none⟩)]else
 if id=4 then .func (.func 146) #[] #[.pointer (some ⟨cb,0,none⟩),.pointer (some ⟨lc,0,none⟩)]else
 if id=5 then .func (.func 150) #[] #[.pointer (some ⟨lc,0,none⟩)]else
 if id=13 then .func (.func 153) #[] #[.pointer (some ⟨lc,0,none⟩)]else
 if id=6 then .func (.func 156) #[] #[.pointer (some ⟨lc,0,none⟩)]else
 if id=7 then .func (.func 159) #[] #[.pointer (some ⟨lc,0,none⟩)]else
 if id=8 then .func (.func 162) #[] #[.pointer (some ⟨lc,0,none⟩)]else
 if id=9 then .func (.func 164) #[] #[.pointer (some ⟨lc,0,none⟩)]else
 if id=12 then .func (.func 167) #[] #[.pointer (some ⟨lc,0,none⟩)]else
 if id=10 then .func (.func 168) #[.pointer (some ⟨lb,0,none⟩)] #[]else
 if id=11 then .func (.func 169) #[.pointer (some ⟨lb,0,none⟩)] #[]else .func (.func 170) #[] #[]
theorem KE {w:World} {lb:Nat} {cv:Value} (hcv:cv.oneCell'=true):Calls Tryz.prog 105 #[.pointer (some ⟨lb,0,none⟩),.int .u8 1,cv] w fun e w'=>
 e= .returned (pY 1 lb w.heap.size (w.heap.size+1))∧w'=(w.alloc (.cells #[.pointer (some ⟨lb,0,none⟩)] 185)).alloc (.cells #[cv] 34):=by
 exact y9
theorem I9 {w:World} {lb:Nat} {cv:Value} (hcv:cv.oneCell'=true):Calls Tryz.prog 105 #[.pointer (some ⟨lb,0,none⟩),.int .u8 2,cv] w fun e w'=>
 e= .returned (pY 2 lb w.heap.size (w.heap.size+1))∧w'=(w.alloc (.cells #[.pointer (some ⟨lb,0,none⟩)] 185)).alloc (.cells #[cv] 34):=by
 exact y9
theorem Ik {w:World} {lb:Nat} {cv:Value} (hcv:cv.oneCell'=true):Calls Tryz.prog 105 #[.pointer (some ⟨lb,0,none⟩),.int .u8 3,cv] w fun e w'=>
 e= .returned (pY 3 lb w.heap.size (w.heap.size+1))∧w'=(w.alloc (.cells #[.pointer (some ⟨lb,0,none⟩)] 185)).alloc (.cells #[cv] 34):=by
 exact y9
theorem KN {w:World} {lb:Nat} {cv:Value} (hcv:cv.oneCell'=true):Calls Tryz.prog 105 #[.pointer (some ⟨lb,0,none⟩),.int .u8 4,cv] w fun e w'=>
 e= .returned (pY 4 lb w.heap.size (w.heap.size+1))∧w'=(w.alloc (.cells #[.pointer (some ⟨lb,0,none⟩)] 185)).alloc (.cells #[cv] 34):=by
 exact y9
theorem K2 {w:World} {lb:Nat} {cv:Value} (hcv:cv.oneCell'=true):Calls Tryz.prog 105 #[.pointer (some ⟨lb,0,none⟩),.int .u8 5,cv] w fun e w'=>
 e= .returned (pY 5 lb w.heap.size (w.heap.size+1))∧w'=(w.alloc (.cells #[.pointer (some ⟨lb,0,none⟩)] 185)).alloc (.cells #[cv] 34):=by
 exact y9
theorem DW {w:World} {lb:Nat} {cv:Value} (hcv:cv.oneCell'=true):Calls Tryz.prog 105 #[.pointer (some ⟨lb,0,none⟩),.int .u8 13,cv] w fun e w'=>
 e= .returned (pY 13 lb w.heap.size (w.heap.size+1))∧w'=(w.alloc (.cells #[.pointer (some ⟨lb,0,none⟩)] 185)).alloc (.cells #[cv] 34):=by
 exact y9
theorem I3 {w:World} {lb:Nat} {cv:Value} (hcv:cv.oneCell'=true):Calls Tryz.prog 105 #[.pointer (some ⟨lb,0,none⟩),.int .u8 6,cv] w fun e w'=>
 e= .returned (pY 6 lb w.heap.size (w.heap.size+1))∧w'=(w.alloc (.cells #[.pointer (some ⟨lb,0,none⟩)] 185)).alloc (.cells #[cv] 34):=by
 exact y9
theorem Hu {w:World} {lb:Nat} {cv:Value} (hcv:cv.oneCell'=true):Calls Tryz.prog 105 #[.pointer (some ⟨lb,0,none⟩),.int .u8 7,cv] w fun e w'=>
 e= .returned (pY 7 lb w.heap.size (w.heap.size+1))∧w'=(w.alloc (.cells #[.pointer (some ⟨lb,0,none⟩)] 185)).alloc (.cells #[cv] 34):=by
 exact y9
theorem JI {w:World} {lb:Nat} {cv:Value} (hcv:cv.oneCell'=true):Calls Tryz.prog 105 #[.pointer (some ⟨lb,0,none⟩),.int .u8 8,cv] w fun e w'=>
 e= .returned (pY 8 lb w.heap.size (w.heap.size+1))∧w'=(w.alloc (.cells #[.pointer (some ⟨lb,0,none⟩)] 185)).alloc (.cells #[cv] 34):=by
 exact y9
theorem JZ {w:World} {lb:Nat} {cv:Value} (hcv:cv.oneCell'=true):Calls Tryz.prog 105 #[.pointer (some ⟨lb,0,none⟩),.int .u8 9,cv] w fun e w'=>
 e= .returned (pY 9 lb w.heap.size (w.heap.size+1))∧w'=(w.alloc (.cells #[.pointer (some ⟨lb,0,none⟩)] 185)).alloc (.cells #[cv] 34):=by
 exact y9
theorem D8 {w:World} {lb:Nat} {cv:Value} (hcv:cv.oneCell'=true):Calls Tryz.prog 105 #[.pointer (some ⟨lb,0,none⟩),.int .u8 12,cv] w fun e w'=>
 e= .returned (pY 12 lb w.heap.size (w.heap.size+1))∧w'=(w.alloc (.cells #[.pointer (some ⟨lb,0,none⟩)] 185)).alloc (.cells #[cv] 34):=by
 exact y9
theorem Er {w:World} {lb:Nat} {cv:Value} (hcv:cv.oneCell'=true):Calls Tryz.prog 105 #[.pointer (some ⟨lb,0,none⟩),.int .u8 10,cv] w fun e w'=>
 e= .returned (pY 10 lb w.heap.size (w.heap.size+1))∧w'=(w.alloc (.cells #[.pointer (some ⟨lb,0,none⟩)] 185)).alloc (.cells #[cv] 34):=by
 exact y9
theorem ED {w:World} {lb:Nat} {cv:Value} (hcv:cv.oneCell'=true):Calls Tryz.prog 105 #[.pointer (some ⟨lb,0,none⟩),.int .u8 11,cv] w fun e w'=>
 e= .returned (pY 11 lb w.heap.size (w.heap.size+1))∧w'=(w.alloc (.cells #[.pointer (some ⟨lb,0,none⟩)] 185)).alloc (.cells #[cv] 34):=by
 exact y9
theorem GV {w:World} {lb:Nat} {cv:Value} (hcv:cv.oneCell'=true):Calls Tryz.prog 105 #[.pointer (some ⟨lb,0,none⟩),.int .u8 0,cv] w fun e w'=>
 e= .returned (pY 0 lb w.heap.size (w.heap.size+1))∧w'=(w.alloc (.cells #[.pointer (some ⟨lb,0,none⟩)] 185)).alloc (.cells #[cv] 34):=by
 exact y9
end Go.Proofs.YtpdlmdlkecnpgaaGreatDoor
