/- Texts: MdRe. -/
import Derived.Test.YtpdlmdlkecnpgaaGreatDoorH0
import Derived.Test.YtpdlmdlkecnpgaaGreatDoorH33
set_option linter.unusedSimpArgs false
set_option linter.unusedVariables false
namespace Go.Proofs.YtpdlmdlkecnpgaaGreatDoor
open Go.RowKit
theorem ow.gl7 {w0 w:World} {lb:Nat} {rs:List Nat} {V:LV} {L:bT} (h:ow w0 w lb rs V L) (hg:cq V.xs w0):cq (V.Z rs lb) w:=by
 refine(hg.sub (S':=V.Z rs lb) fun b hlt hb=> ?_).fr (S':= []) h.fr (by simp)
 simp only[LV.Z,List.mem_append,List.mem_cons]at hb
 rcases hb with hb|rfl|hb|hb
 ·have:=(h.apr b hb).1;omega
 ·have:=h.newl;omega
 ·have:=h.newf b hb;omega
 ·exact hb
theorem uM {S:List Nat} {w:World} {b off cap nx v:Nat} {bs:List UInt8} (h:Sl S w 1 (.slice (some ⟨b,off,none⟩) bs.length cap) bs.length (bs.map B)) (hl:nx+v≤bs.length):
 (cap=nx→Sl S w 1 (.slice (some ⟨b,off,none⟩) v 0) ((bs.drop nx).take v).length (((bs.drop nx).take v).map B))∧(¬cap=nx→Sl S w 1 (.slice (some ⟨b,off+nx,none⟩) v (cap-nx)) ((bs.drop nx).take v).length (((bs.drop nx).take v).map B)):=by
 obtain⟨_,_,a',cap',e,h4,h5,_⟩:=id h
 injection e with _ _ e3
 subst e3
 exact⟨fun hc=>Sl.mid0 h (by omega),fun hc=>Sl.mid h hl (by omega) (by omega)⟩
theorem bB.stay {S:List Nat} {w:World} {b:Nat} {cs:List Value} {T:TypeId} (h:bB w b cs T) (hn:b∉S):cE S w (fun w=>bB w b cs T):=fun _ _ hf hs=>h.fr hf (fun hm=>hn (hs b h.lt hm))
theorem Q1 {α:Type} {P:ax→α×ax} (bs:List UInt8) (s:ax):(am bs P s).1.length≤bs.length:=Nat.le_trans (xp _ _) (cn bs s)
theorem yq (bs:List UInt8):∀(fs:List dh) (n:Nat) (s:ax),(bh bs fs n s).1.1.length=fs.length
 |fs,0,s=>by cases fs<;>rfl
 | [],_+1,s=>rfl
 |f::fs,n+1,s=>by
  unfold bh
  split
  ·simp[yq bs fs n]
  ·rfl
theorem jy {N:Nat} {c:Prop} [Decidable c] {x y:bT×ax} (hx:x.1.m.funcs.length≤N) (hy:y.1.m.funcs.length≤N):(if c then x else y).1.m.funcs.length≤N:=by
 split<;>assumption
theorem No {N id:Nat} {bs:List UInt8} {L:bT} (h:L.m.funcs.length≤N) (hb:bs.length≤N):(eC id bs L).1.m.funcs.length≤N:=by
 unfold eC
 refine jy h (jy h (jy (Nat.le_trans (Q1 bs _) hb) (jy h (jy h (jy h (jy h (jy h (jy h (jy h (jy h (jy ?_ (jy h h))))))))))))
 show(bh bs L.m.funcs _ _).1.1.length≤N
 rw[yq]
 exact h
theorem Dn {bs:List UInt8} (h:bs.take 8=aP):eE bs=fM bs (bs.length+1) (-1) 8 cg:=by unfold eE;rw[if_pos h]
theorem Uu {S:List Nat} {w4 w5:World} {lb:Nat} {cv:Value} {tb:List UInt8} (hS4:∀b,b∈S→b<w4.heap.size) (hw:w5=(w4.alloc (.cells #[.pointer (some ⟨lb,0,none⟩)] 185)).alloc (.cells #[cv] 34)) (hsl:Sl S w5 1 cv tb.length (tb.map B)):
 cE S w5 (fun w=>w.cell? ⟨w4.heap.size,0,none⟩=some (.pointer (some ⟨lb,0,none⟩)))∧cE S w5 (PY (w4.heap.size+1) cv tb):=by
 have h1:bB w5 w4.heap.size [.pointer (some ⟨lb,0,none⟩)] 185:=by
  rw[hw]
  exact(bB.new w4 [.pointer (some ⟨lb,0,none⟩)] _).alloc _
 have h2:bB w5 (w4.heap.size+1) [cv] 34:=by
  rw[hw]
  have:=bB.new (w4.alloc (.cells #[.pointer (some ⟨lb,0,none⟩)] 185)) [cv] 34
  simpa using this
 refine⟨(h1.stay fun hm=>by have:=hS4 _ hm;omega).imp fun w hw=>hw.cell 0,((h2.stay fun hm=>by have:=hS4 _ hm;omega).and hsl.stay).imp fun w hw=>⟨hw.1.cell 0,hw.2⟩⟩
set_option maxRecDepth 100000
set_option maxHeartbeats 6400000
theorem wl {w0 w:World} {lb:Nat} {V:LV} {bv:Value} {bs:List UInt8} (hL:ow w0 w lb [] V cg) (hb:Sl V.xs w0 1 bv bs.length (bs.map B)) (hg:cq V.xs w0) (hsm:bs.length≤274877906944):
 Calls Tryz.prog 39 #[.pointer (some ⟨lb,0,none⟩),bv] w fun e w'=>e= .returned (.tuple #[.int .i64 (eE bs).2.1,.int .i64 (eE bs).2.2])∧∃V',V'.xo=V.xo∧ow w0 w' lb [] V' (eE bs).1:=by
 have hlen40:bs.length≤1099511627776:=by omega
 have hbw:∀w',Fr [] w0 w'→Sl [] w' 1 bv bs.length (bs.map B):=fun w' hf=>(hb.sub (S':= []) (by simp)).fr hf (by simp)
 by_cases h8:bs.length<8
 ·have e0:eE bs=(cg,80,0):=by
   unfold eE
   rw[if_neg]
   intro h
   have:=congrArg List.length h
   simp[aP]at this
   omega
  have q8:(bs.length:Int)<8:=by omega
  obtain⟨a,c,rfl⟩:=hb.shape
  rw[e0]
  clear e0 h8
  go_enter Tryz.func39,Tryz.ntmps39
  go_wp2
  go_ret2
  exact⟨rfl,V,rfl,hL⟩
 ·obtain⟨b,off,cap,hbv,hcap⟩:∃b off cap,bv= .slice (some ⟨b,off,none⟩) bs.length cap∧bs.length≤cap∧cap≤maxLen:=by
   exact UU
  subst hbv
  have hmx:=hcap.2
  unfold maxLen at hmx
  have q8:¬(bs.length:Int)<8:=by omega
  have hmc:(convert 34 9 (.slice (some ⟨b,off,none⟩) 8 cap)).run Tryz.prog w= .ok (.string ⟨(bs.take 8).toArray⟩) w:=by
   have h1:=Sl.conv ((uM (hbw w hL.fr) (nx:=0) (v:=8) (by omega)).2 (by omega))
   simpa [iI]using h1
  by_cases hM:bs.take 8=aP
  ·rw[Dn hM]
   have qM:(List.take 8 bs== [0,97,115,109,1,0,0,0])=true:=by simpa [aP]using hM
   have hi2:(bs.length:Int)≤cap:=by omega
   clear hM
   obtain⟨xs0,hx0⟩:∃x,V.xo=x:=⟨_,rfl⟩
   have hbE:Sl xs0.1 w0 1 (.slice (some ⟨b,off,none⟩) bs.length cap) bs.length (bs.map B):=by rw[←hx0];exact hb
   have hgE:cq xs0.1 w0:=by rw[←hx0];exact hg
   clear hb hg
   rw[hx0]
   go_enter Tryz.func39,Tryz.ntmps39
   go_wp2
   go_loopw [6,7] (fun la a wr=>∃(last:Int) (at_:Nat) (L:bT) (V':LV) (f:Nat),la= .int .i64 last∧a= .int .i64 at_∧V'.xo=xs0∧ow w0 wr lb [] V' L∧at_≤bs.length∧ -1≤last∧last≤12∧L.m.funcs.length≤bs.length∧bs.length<at_+f∧Hid (fM bs (bs.length+1) (-1) 8 cg=fM bs f last at_ L)) (fun _ a _=>bs.length-(intOf a).toNat)
   case atStart=>exact⟨-1,8,cg,V,bs.length+1,rfl,rfl,hx0,hL,by omega,by omega,by omega,by simp[cg,aV.none],by omega,Lib.hid rfl⟩
   case round=>
    obtain⟨last,at_,L,V,f,rfl,rfl,hVx,hL,hat,hl1,hl2,hfl,hf,hI⟩:=hrel
    have hb:Sl V.xs w0 1 (.slice (some ⟨b,off,none⟩) bs.length cap) bs.length (bs.map B):=by unfold LV.xs;rw[hVx];exact hbE
    have hg:cq V.xs w0:=by unfold LV.xs;rw[hVx];exact hgE
    obtain⟨f,rfl⟩:∃k,f=k+1:=⟨f-1,by omega⟩
    by_cases hlt:at_<bs.length
    ·have hbr:=hbw wr hL.fr
     have hcid:∀w',Fr [] w0 w'→w'.cell? ⟨b,off+at_,none⟩=some (.int .u8 (((bs.getD at_ 0).toNat:Nat):Int)):=fun w' hf=>by
      obtain⟨_,_,a',c',e,_,_,_,h6⟩:=hbw w' hf
      injection e with e1 _ _
      subst e1
      rcases h6 with h6|⟨b',off',e4,_,_,hc⟩
      ·omega
      ·injection e4 with e4
       injection e4 with e5 e6
       subst e5 e6
       rw[hc _ (by omega)]
       simp[B,hlt]
     obtain⟨id,hidv⟩:∃id,(bs.getD at_ 0).toNat=id:=⟨_,rfl⟩
     have hid256:(bs.getD at_ 0).toNat<256:=UInt8.toNat_lt _
     have h0iff:bs.getD at_ 0=0↔(bs.getD at_ 0).toNat=0:=⟨fun h=>by rw[h];rfl,fun h=>UInt8.toNat_inj.1 (by rw[h];rfl)⟩
     rw[hidv]at h0iff hid256
     simp only[hidv]at hcid
     have hid:=hcid wr hL.fr
     have hix:fj [1,2,3,4,5,13,6,7,8,9,12,10,11] (UInt8.ofNat id)=(match cr id with|none=>(-1:Int)|some p=>(p:Int)):=CQ _ (List.mem_range.2 hid256)
     have hIX:∀X:Int,(match cr id with|none=>(-1:Int)|some p=>(p:Int))=X→Calls Tryz.prog 102 #[.string ⟨#[1,2,3,4,5,13,6,7,8,9,12,10,11]⟩,.int .u8 (id:Int)] wr fun e w'=>e= .returned (.int .i64 X)∧w'=wr:=fun X hX=>by
      refine(qj _ _ _).mono ?_
      rintro e w' ⟨rfl,hw⟩
      rw[←hX,←hix]
      exact⟨rfl,hw⟩
     have hatI:(at_:Int)<bs.length:=by omega
     by_cases hz:id=0
     case' pos=>
      have q0:((id:Int) !=0)=false:=by rw[hz];rfl
      obtain⟨l2,hl2e⟩:∃l2,l2=last:=⟨_,rfl⟩
      have hsel:(bs.getD at_ 0=0∧l2=last)∨(bs.getD at_ 0≠0∧∃p,cr (bs.getD at_ 0).toNat=some p∧last< (p:Int)∧l2=p):= .inl ⟨h0iff.2 hz,hl2e⟩
      have hidk:id=0∨cr id≠none:= .inl hz
      have hl3: -1≤l2∧l2≤12:=by omega
      rw[←hl2e]
      have HV:=Lib.hid hidv
      clear hIX hix hz hidv h0iff
      go_wp2_with fail
     case' neg=>
      have q0:((id:Int) !=0)=true:=bne_iff_ne.2 (by omega)
      cases hp:cr id
      case none=>
       have hIX:=hIX (-1) (by rw[hp])
       have HE:=Lib.hid (hI.out.trans (Kq hlt (fun h=>hz (h0iff.1 h)) (by rw[hidv];exact hp)))
       exact Vg
      rename_i p
      have hIX:=hIX p (by rw[hp])
      by_cases hpl:(p:Int)≤last
      case pos=>
       have HE:=Lib.hid (hI.out.trans (Fg hlt (fun h=>hz (h0iff.1 h)) (by rw[hidv];exact hp) hpl))
       exact Vg
      obtain⟨l2,hl2e⟩:∃l2:Int,l2=p:=⟨_,rfl⟩
      have hsel:(bs.getD at_ 0=0∧l2=last)∨(bs.getD at_ 0≠0∧∃p,cr (bs.getD at_ 0).toNat=some p∧last< (p:Int)∧l2=p):= .inr ⟨fun h=>hz (h0iff.1 h),p,by rw[hidv];exact hp,by omega,hl2e⟩
      have hidk:id=0∨cr id≠none:= .inr (by rw[hp];simp)
      have hpl2:=MM _ _ hp
      have hl3: -1≤l2∧l2≤12:=by omega
      rw[←hl2e]at hIX hpl
      have HV:=Lib.hid hidv
      clear hix hz hp hpl2 hidv h0iff
      go_wp2_with (go_at_call 102;refine hIX.mono ?_;rintro e w' ⟨rfl,hw⟩;rw[hw])
     all_goals
      have hv:=rH bs (at_+1)
      have hle:=kX (bs:=bs) (at_:=at_+1) (nb:=32) (sg:=false) (by omega)
      have hgt:=vg (bs:=bs) (at_:=at_+1) (nb:=32) (sg:=false) (by omega)
      have hcon:=wm [] _ bs (at_+1) 32 wr hbr hlen40 (by omega) (by decide) (by decide)
      have hgo:=fun v nx er hq=>Rj (f:=f) (L:=L) (v:=v) (nx:=nx) (er:=er) hlt hq hsel
      generalize ak bs (at_+1) 32 false=q at hv hle hgt hcon hgo
      obtain⟨v,nx,er⟩:=q
      replace hgo:=hgo v nx er rfl
      simp only at hv hle hgt hcon
      have HG:=Lib.hid (hI.out.trans hgo)
      clear hI hgo hsel
      have ecast:((at_+1:Nat):Int)=(at_:Int)+1:=by omega
      rw[ecast]at hcon
      have HC:=Lib.hid hcon
      clear hcon
      go_wp2_with fail
      refine HC.out.mono ?_
      rintro e w' ⟨rfl,rfl⟩
      by_cases h1:er=0
      case neg=>
       have q1:((er:Int) !=0)=true:=bne_iff_ne.2 (by omega)
       have HG1:=Lib.hid (HG.out.trans (if_pos h1))
       clear HG h1
       go_wp2
       go_ret2
       rw[HG1.out]
       exact⟨rfl,V,hVx,hL⟩
      have HG1:=Lib.hid (HG.out.trans (if_neg (fun h=>h h1)))
      subst h1
      replace hle:=hle rfl
      replace hgt:=hgt rfl
      clear HG HC
      have hw:IntKind.u64.wrap ((bs.length:Int)-(nx:Nat))=((bs.length-nx:Nat):Int):=by rw[IntKind.wrap_u64];omega
      by_cases h2:bs.length-nx<v
      case pos=>
       have HG2:=Lib.hid (HG1.out.trans (if_pos h2))
       clear HG1
       go_wp2
       all_goals first|(exfalso;omega)|skip
       go_ret2
       rw[HG2.out]
       exact⟨rfl,V,hVx,hL⟩
      have HG2:=Lib.hid (HG1.out.trans (if_neg h2))
      clear HG1
      have hnv:nx+v≤bs.length:=by omega
      have hltS:∀b,b∈V.Z [] lb→b<wr.heap.size:=fun b hb=>by
       simp only[LV.Z,List.nil_append,List.mem_cons,List.mem_append]at hb
       rcases hb with rfl|hb|hb
       ·exact hL.loc.lt
       ·exact(hL.own.blk_lt b hb).1
       ·exact hL.xl.lt hb
      have hltT:((bs.drop nx).take v).length≤bs.length:=by rw[List.length_take,List.length_drop];omega
      have hlt40:((bs.drop nx).take v).length≤1099511627776:=by omega
      have hglr:=(hL.gl7 hg).gl
      have hSany:∀(S:List Nat) (w':World),(∀b,b∈S→w0.heap.size≤b∨b∈V.xs)→Fr [] w0 w'→Sl S w' 1 (.slice (some ⟨b,off,none⟩) bs.length cap) bs.length (bs.map B):=fun S w' hS hf=>
       (hb.sub (S':=S) (fun b hlt hm=>(hS b hm).elim (fun h=>by omega) (fun h=>h))).fr hf (by simp)
      have hsl:=uM hbr hnv
      have hbn:∀b',b'∈Value.blk (Value.slice (some ⟨b,off,none⟩) bs.length cap)→b'<w0.heap.size:=fun b' hb'=>by
       obtain⟨_,_,a',c',e,_,_,_,h6⟩:=hb
       injection e with e1 _ _
       subst e1
       rcases h6 with h6|⟨b2,off2,e4,_,hlt2,_⟩
       ·omega
       ·injection e4 with e4
        injection e4 with e5 _
        simp[Value.blk]at hb'
        omega
      generalize hcv:(if cap=nx then Value.slice (some ⟨b,off,none⟩) v 0 else Value.slice (some ⟨b,off+nx,none⟩) v (cap-nx))=cv
      have hcs:∀(S:List Nat) (w':World),(∀b,b∈S→w0.heap.size≤b∨b∈V.xs)→Fr [] w0 w'→Sl S w' 1 cv ((bs.drop nx).take v).length (((bs.drop nx).take v).map B):=fun S w' hS hf=>by
       rw[←hcv]
       split
       ·rename_i hc
        exact(uM (hSany S w' hS hf) hnv).1 hc
       ·rename_i hc
        exact(uM (hSany S w' hS hf) hnv).2 hc
      have hone:cv.oneCell'=true:=by
       rw[←hcv]
       split<;>rfl
      have hcs0:=hcs [] wr (by simp) hL.fr
      have HCS:=Lib.hid hcs
      clear hcs hsl hSany
      by_cases hcn:cap=nx
      case' pos=>
       rw[if_pos hcn]at hcv
       replace hcn:=hcn.symm
      case' neg=>
       rw[if_neg hcn]at hcv
      all_goals
       subst hcv
       go_wp2_with first|(go_at_call 104;refine(zw (S:=V.Z [] lb) hcs0 hglr hltS hlt40).mono ?_;rintro e w4 ⟨ib,iv,rfl,hI4,hib,hF4⟩;have hid4:=hcid _ (hL.fr.trans hF4))|fail
       generalize htb:(bs.drop nx).take v=tb at hI4 hlt40 hltT HG2 HCS hcs0
       refine(Bi id hidk hone).mono ?_
       rintro e w5 ⟨he,hw5⟩
       have hL4:=hL.more hF4 hib
       have hf5:Fr [] w4 w5:=by rw[hw5];exact((Fr.refl [] w4).alloc _).alloc _
       have hL5:=(hL4.step hf5 (by simp)).t
       have hI5:=hI4.fr hf5 (by simp) (by simp)
       have hS4:∀b,b∈V.S ib lb→b<w4.heap.size:=hI4.lt
       have hS0:∀b,b∈V.S ib lb→w0.heap.size≤b∨b∈V.xs:=fun b hb=>by
        simp only[LV.S,List.mem_cons,List.mem_append]at hb
        rcases hb with rfl|rfl|hb|hb
        ·exact .inl hL5.newr
        ·exact .inl hL5.newl
        ·exact .inl (hL5.newf b hb)
        ·exact .inr hb
       obtain⟨hlc,hct⟩:=Uu hS4 hw5 (HCS.out (V.S ib lb) _ hS0 hL5.fr)
       obtain⟨F,fi,ca,hsv,hent,hcall⟩:=Rq id hidk hL5 hI5 (hL5.g.gl7 hg) (by omega) (by omega) hlc hct
       rw[hsv]at he
       subst he
       clear hw5 hlc hct hsv hf5
       go_wp2_with fail
       refine hcall.mono ?_
       rintro e w6 ⟨rfl,V6,hx6,hL6,hR6⟩
       go_wp2_with fail
       have hR6':=hR6
       refine(zc hR6).mono ?_
       rintro e w7 ⟨rfl,hR7,hF7⟩
       have hL7:=(hL6.g.step hF7 (fun _ h=>h)).less
       rw[HV.out]at HG2
       have hfn:=No (id:=id) (bs:=tb) (L:=L) hfl hltT
       generalize (eC id tb L).1=L6 at hL7 HG2 hfn
       generalize jF tb (eC id tb L).2=fs at HG2⊢
       by_cases h3:fs.err=0
       case pos=>
        have HG3:=Lib.hid (HG2.out.trans (if_neg (fun h=>h h3)))
        have q3:(fs.err !=0)=false:=by simp[h3]
        clear HG2 h3
        go_wp2
        go_roundw
        case rel=>exact⟨l2,nx+v,L6,V6,f,by first|rfl|(rw[hl2e]),by go_num,hx6.trans hVx,hL7,hnv,hl3.1,hl3.2,hfn,by omega,HG3⟩
        case measure=>simp[intOf];omega
       have HG3:=Lib.hid (HG2.out.trans (if_pos h3))
       have q3:(fs.err !=0)=true:=bne_iff_ne.2 h3
       clear HG2 h3
       go_wp2
       go_ret2
       rw[HG3.out]
       exact⟨by rw[←DU];first|rfl|(rw[hcn];rfl),V6,hx6.trans hVx,hL7⟩
    ·have hle:bs.length≤at_:=by omega
     obtain rfl:at_=bs.length:=by omega
     have HE:=Lib.hid (hI.out.trans (Me (Nat.le_refl _)))
     obtain⟨fa,fc,hfv,_⟩:=hL.own.shape
     clear hI
     have hwt:∀x,x=eP L→Calls Tryz.prog 107 #[.pointer (some ⟨lb,0,none⟩)] wr fun e w'=>e= .returned (.bool x)∧w'=wr:=fun x hx=>by rw[hx];exact C6 hL.loc ⟨fa,fc,hfv⟩
     cases hw:eP L
     ·rw[hw]at HE
      have hwt:=hwt false hw.symm
      exact Wv
     ·rw[hw]at HE
      have hwt:=hwt true hw.symm
      exact Wv
  ·have e0:eE bs=(cg,80,0):=by unfold eE;rw[if_neg hM]
   have qM:(List.take 8 bs== [0,97,115,109,1,0,0,0])=false:=by simpa [aP]using hM
   rw[e0]
   clear e0 hM
   go_enter Tryz.func39,Tryz.ntmps39
   go_wp2
   go_ret2
   exact⟨rfl,V,rfl,hL⟩
end Go.Proofs.YtpdlmdlkecnpgaaGreatDoor
