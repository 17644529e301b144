/- Texts: IbIn. -/
import Derived.Test.YtpdlmdlkecnpgaaGreatDoorH0
import Derived.Test.YtpdlmdlkecnpgaaGreatDoorH9
import Derived.Test.YtpdlmdlkecnpgaaGreatDoorH10
import Derived.Test.YtpdlmdlkecnpgaaGreatDoorH8
set_option linter.unusedSimpArgs false
set_option linter.unusedVariables false
namespace Go.Proofs.YtpdlmdlkecnpgaaGreatDoor
open Go.RowKit
theorem eU (bs:List UInt8) (s:ax):0≤(bA bs s).1∧(bA bs s).1<65536:=by
 have hb:=kV bs s
 unfold bA
 split
 ·split
  ·simp
  ·simp only[je];omega
 ·simp only[je];omega
def qw (i:aa) (tv lv cv:Value):List bt:= [.own 61 4 tv i.types.length (i.types.flatMap cj),.own 3 1 lv i.labels.length (i.labels.flatMap gK),.own 300 3 cv i.catches.length (i.catches.flatMap gZ)]
def fT (S:List Nat) (w:World) (rb:Nat) (bv:Value) (bs:List UInt8) (i:aa) (t:ax) (e:Ending) (w':World):Prop:=
 ∃tv lv cv,e= .returned (.agg (cp i tv lv cv).toArray)∧dj S w w' rb bv bs t (qw i tv lv cv)
theorem Vh (c:Nat) (h:c<256):(bits .and .u8 (c:Int) 1 !=0)=(c% 2==1)∧(bits .and .u8 (c:Int) 2 !=0)=(c/2% 2==1):=by
 have:∀c∈List.range 256,(bits .and .u8 (c:Int) 1 !=0)=(c% 2==1)∧(bits .and .u8 (c:Int) 2 !=0)=(c/2% 2==1):=by decide+kernel
 exact this c (List.mem_range.2 h)
set_option maxRecDepth 100000
set_option maxHeartbeats 3200000
theorem G3 {S w rb bv bs s} (h:Rd S w rb bv bs s) (hg:cq S w) (he:(bA bs s).2.err≠0):Calls Tryz.prog 255 #[.pointer (some ⟨rb,0,none⟩)] w (fT S w rb bv bs (aa.of (bA bs s).1) (bA bs s).2):=by
 have hS:=dj.start h
 have q1:((bA bs s).2.err !=0)=true:=by simp[he]
 clear he
 exact y1
theorem Kh {S w rb bv bs s} (h:Rd S w rb bv bs s) (hg:cq S w) (he:(bA bs s).2.err=0) (hk:ag (bA bs s).1=4):Calls Tryz.prog 255 #[.pointer (some ⟨rb,0,none⟩)] w (fT S w rb bv bs (cA bs (bA bs s).1 (bA bs s).2).1 (cA bs (bA bs s).1 (bA bs s).2).2):=by
 exact Vl
theorem JB {S w rb bv bs s} (h:Rd S w rb bv bs s) (hg:cq S w) (he:(bA bs s).2.err=0) (hk:ag (bA bs s).1=6):Calls Tryz.prog 255 #[.pointer (some ⟨rb,0,none⟩)] w (fT S w rb bv bs (cA bs (bA bs s).1 (bA bs s).2).1 (cA bs (bA bs s).1 (bA bs s).2).2):=by
 exact Vl
theorem Jp {S w rb bv bs s} (h:Rd S w rb bv bs s) (hg:cq S w) (he:(bA bs s).2.err=0) (hk:ag (bA bs s).1=7):Calls Tryz.prog 255 #[.pointer (some ⟨rb,0,none⟩)] w (fT S w rb bv bs (cA bs (bA bs s).1 (bA bs s).2).1 (cA bs (bA bs s).1 (bA bs s).2).2):=by
 have hS:=dj.start h
 have q1:((bA bs s).2.err !=0)=false:=by simp[he]
 have hr:=eU bs s
 have e0:cA bs (bA bs s).1 (bA bs s).2=({aa.of (bA bs s).1 with x:=(aD bs (bA bs s).2).1,y:=(aD bs (aD bs (bA bs s).2).2).1},(aD bs (aD bs (bA bs s).2).2).2):=by simp[cA,hk]
 exact DY
theorem KK {S w rb bv bs s} (h:Rd S w rb bv bs s) (hg:cq S w) (he:(bA bs s).2.err=0) (hk:ag (bA bs s).1=5):Calls Tryz.prog 255 #[.pointer (some ⟨rb,0,none⟩)] w (fT S w rb bv bs (cA bs (bA bs s).1 (bA bs s).2).1 (cA bs (bA bs s).1 (bA bs s).2).2):=by
 have hS:=dj.start h
 have q1:((bA bs s).2.err !=0)=false:=by simp[he]
 have hr:=eU bs s
 have e0:cA bs (bA bs s).1 (bA bs s).2=({aa.of (bA bs s).1 with labels:=(am bs (aD bs) (bA bs s).2).1,x:=(aD bs (am bs (aD bs) (bA bs s).2).2).1},(aD bs (am bs (aD bs) (bA bs s).2).2).2):=by simp[cA,hk]
 exact DY
theorem Jn {S w rb bv bs s} (h:Rd S w rb bv bs s) (hg:cq S w) (he:(bA bs s).2.err=0) (hk:ag (bA bs s).1=8):Calls Tryz.prog 255 #[.pointer (some ⟨rb,0,none⟩)] w (fT S w rb bv bs (cA bs (bA bs s).1 (bA bs s).2).1 (cA bs (bA bs s).1 (bA bs s).2).2):=by
 have hS:=dj.start h
 have q1:((bA bs s).2.err !=0)=false:=by simp[he]
 have hr:=eU bs s
 have e0:cA bs (bA bs s).1 (bA bs s).2=({aa.of (bA bs s).1 with x:=(gX bs (bA bs s).2).1.1,y:=(gX bs (bA bs s).2).1.2,u:=(rU bs 64 (gX bs (bA bs s).2).2).1},(rU bs 64 (gX bs (bA bs s).2).2).2):=by simp[cA,hk]
 exact DY
theorem I6 {S w rb bv bs s} (h:Rd S w rb bv bs s) (hg:cq S w) (he:(bA bs s).2.err=0) (hk:ag (bA bs s).1=9):Calls Tryz.prog 255 #[.pointer (some ⟨rb,0,none⟩)] w (fT S w rb bv bs (cA bs (bA bs s).1 (bA bs s).2).1 (cA bs (bA bs s).1 (bA bs s).2).2):=by
 have hS:=dj.start h
 have q1:((bA bs s).2.err !=0)=false:=by simp[he]
 have hr:=eU bs s
 have e0:cA bs (bA bs s).1 (bA bs s).2=({aa.of (bA bs s).1 with u:=((rS bs 32 (bA bs s).2).1% 4294967296).toNat},(rS bs 32 (bA bs s).2).2):=by simp[cA,hk]
 rw[e0]
 have HK:=Lib.hid hk
 have hu:(rS bs 32 (bA bs s).2).1% 4294967296=((((rS bs 32 (bA bs s).2).1% 4294967296).toNat:Nat):Int):=by omega
 exact Gu
theorem DR {S w rb bv bs s} (h:Rd S w rb bv bs s) (hg:cq S w) (he:(bA bs s).2.err=0) (hk:ag (bA bs s).1=10):Calls Tryz.prog 255 #[.pointer (some ⟨rb,0,none⟩)] w (fT S w rb bv bs (cA bs (bA bs s).1 (bA bs s).2).1 (cA bs (bA bs s).1 (bA bs s).2).2):=by
 have hS:=dj.start h
 have q1:((bA bs s).2.err !=0)=false:=by simp[he]
 have hr:=eU bs s
 have e0:cA bs (bA bs s).1 (bA bs s).2=({aa.of (bA bs s).1 with u:=((rS bs 64 (bA bs s).2).1% 18446744073709551616).toNat},(rS bs 64 (bA bs s).2).2):=by simp[cA,hk]
 rw[e0]
 have HK:=Lib.hid hk
 have hu:IntKind.u64.wrap (rS bs 64 (bA bs s).2).1=((((rS bs 64 (bA bs s).2).1% 18446744073709551616).toNat:Nat):Int):=by rw[IntKind.wrap_u64];omega
 exact Gu
theorem Eb {S w rb bv bs s} (h:Rd S w rb bv bs s) (hg:cq S w) (he:(bA bs s).2.err=0) (hk:ag (bA bs s).1=11):Calls Tryz.prog 255 #[.pointer (some ⟨rb,0,none⟩)] w (fT S w rb bv bs (cA bs (bA bs s).1 (bA bs s).2).1 (cA bs (bA bs s).1 (bA bs s).2).2):=by
 have hS:=dj.start h
 have q1:((bA bs s).2.err !=0)=false:=by simp[he]
 have hr:=eU bs s
 have e0:cA bs (bA bs s).1 (bA bs s).2=({aa.of (bA bs s).1 with heap:=(co bs (bA bs s).2).1},(co bs (bA bs s).2).2):=by simp[cA,hk]
 exact DY
theorem Fk {S w rb bv bs s} (h:Rd S w rb bv bs s) (hg:cq S w) (he:(bA bs s).2.err=0) (hk:ag (bA bs s).1=12):Calls Tryz.prog 255 #[.pointer (some ⟨rb,0,none⟩)] w (fT S w rb bv bs (cA bs (bA bs s).1 (bA bs s).2).1 (cA bs (bA bs s).1 (bA bs s).2).2):=by
 have hS:=dj.start h
 have q1:((bA bs s).2.err !=0)=false:=by simp[he]
 have hr:=eU bs s
 have e0:cA bs (bA bs s).1 (bA bs s).2=({aa.of (bA bs s).1 with types:=(eT bs (bA bs s).2).1},(eT bs (bA bs s).2).2):=by simp[cA,hk]
 rw[e0]
 have HK:=Lib.hid hk
 clear he hk e0
 go_enter Tryz.func255,Tryz.ntmps255
 go_wp2_with first|(refine bC (ty:=177) rfl rfl rfl eB rfl ?_;refine Tl ?_)|(refine iE (ty:=177) rfl rfl rfl rfl ?_;refine W9 ?_;intro wN hS hFN;(try clear hQ);have hQ:=St.fq hS.st;(try clear hN);have hN:=St.aq hS.st)|(go_at_call 274;refine lL fun hT=> ?_;refine(tu hT.rd (hT.gl7' hg)).mono ?_;rintro e w1 ⟨rfl,hR1,hF1⟩;have hS:=hT.call hR1 hF1;clear hT hR1 hF1;(try clear hQ);have hQ:=St.fq hS.st;(try clear hN);have hN:=St.aq hS.st)|(go_at_call 233;refine lL fun hT=> ?_;refine(dd (hT.gl7 hg) _ (by omega) (by omega)).mono ?_;rintro e w1 ⟨rfl,hF1⟩;have hS:=hT.step0 hF1;clear hT hF1;(try clear hQ);have hQ:=St.fq hS.st;(try clear hN);have hN:=St.aq hS.st;(try rw[HK.out]))|(go_at_call 256;(try clear hQ);refine kL (fun h=>eV h) fun w1 hS hQ hN=> ?_)|(go_at_call 275;(try clear hQ);refine kL (fun h=>tq h) fun w1 hS hQ hN=> ?_)|(go_at_call 277;refine lL fun hT=> ?_;refine(sT (op:=(bA bs s).1) hT).mono ?_;rintro e w1 ⟨rfl,hS⟩;unfold cp aa.of at hS;(try clear hQ);have hQ:=St.fq hS.st;(try clear hN);have hN:=St.aq hS.st)|(go_at_call 276;refine lL fun hT=> ?_;refine(sB hT.rd).mono ?_;rintro e w1 ⟨v1,rfl,hD⟩;have hS:=hT.join hD;simp only[List.cons_append,List.nil_append]at hS;have hO:bf [] _ _ _ _ _ _:=hS.st.head;obtain⟨a1,c1,rfl,hc1,hc2⟩:=bf.shape hO;clear hT hD hO;(try clear hQ);have hQ:=St.fq hS.st;(try clear hN);have hN:=St.aq hS.st)|(go_at_call 280;refine lL fun hT=> ?_;refine(oV hT.rd).mono ?_;rintro e w1 ⟨v1,rfl,hD⟩;have hS:=hT.join hD;simp only[List.cons_append,List.nil_append]at hS;have hO:bf [] _ _ _ _ _ _:=hS.st.head;obtain⟨a1,c1,rfl,hc1,hc2⟩:=bf.shape hO;clear hT hD hO;(try clear hQ);have hQ:=St.fq hS.st;(try clear hN);have hN:=St.aq hS.st)|(go_at_call 279;(try clear hQ);refine kL (fun h=>wR h) fun w1 hS hQ hN=> ?_)|(go_at_call 272;(try clear hQ);refine kL (fun h=>rI h) fun w1 hS hQ hN=> ?_)|(go_at_call 282;(try clear hQ);refine kL (fun h=>pK h) fun w1 hS hQ hN=> ?_)|(go_at_call 278;refine lL fun hT=> ?_;refine(zP hT.rd 32 (by decide) (by decide)).mono ?_;rintro e w1 ⟨rfl,hR1,hF1⟩;have hS:=hT.call hR1 hF1;clear hT hR1 hF1;(try clear hQ);have hQ:=St.fq hS.st;(try clear hN);have hN:=St.aq hS.st)|(go_at_call 278;refine lL fun hT=> ?_;refine(zP hT.rd 64 (by decide) (by decide)).mono ?_;rintro e w1 ⟨rfl,hR1,hF1⟩;have hS:=hT.call hR1 hF1;clear hT hR1 hF1;(try clear hQ);have hQ:=St.fq hS.st;(try clear hN);have hN:=St.aq hS.st)|(go_at_call 267;refine lL fun hT=> ?_;refine(M3 hT.rd).mono ?_;rintro e w1 ⟨v1,rfl,hD⟩;have hS:=hT.join hD;simp only[List.cons_append,List.nil_append]at hS;have hO:bf [] _ _ _ _ _ _:=hS.st.head;obtain⟨a1,c1,rfl,hc1,hc2⟩:=bf.shape hO;clear hT hD hO;(try clear hQ);have hQ:=St.fq hS.st;(try clear hN);have hN:=St.aq hS.st)
 exact Wu
theorem KX {S w rb bv bs s} (h:Rd S w rb bv bs s) (hg:cq S w) (he:(bA bs s).2.err=0) (hk:ag (bA bs s).1=2):Calls Tryz.prog 255 #[.pointer (some ⟨rb,0,none⟩)] w (fT S w rb bv bs (cA bs (bA bs s).1 (bA bs s).2).1 (cA bs (bA bs s).1 (bA bs s).2).2):=by
 have hS:=dj.start h
 have q1:((bA bs s).2.err !=0)=false:=by simp[he]
 have hr:=eU bs s
 have e0:cA bs (bA bs s).1 (bA bs s).2=({aa.of (bA bs s).1 with block:=(dT bs (bA bs s).2).1},(dT bs (bA bs s).2).2):=by simp[cA,hk]
 exact DY
theorem I0 {S w rb bv bs s} (h:Rd S w rb bv bs s) (hg:cq S w) (he:(bA bs s).2.err=0) (hk:ag (bA bs s).1=3):Calls Tryz.prog 255 #[.pointer (some ⟨rb,0,none⟩)] w (fT S w rb bv bs (cA bs (bA bs s).1 (bA bs s).2).1 (cA bs (bA bs s).1 (bA bs s).2).2):=by
 have hS:=dj.start h
 have q1:((bA bs s).2.err !=0)=false:=by simp[he]
 have hr:=eU bs s
 have e0:cA bs (bA bs s).1 (bA bs s).2=({aa.of (bA bs s).1 with block:=(dT bs (bA bs s).2).1,catches:=(am bs (cP bs) (dT bs (bA bs s).2).2).1},(am bs (cP bs) (dT bs (bA bs s).2).2).2):=by simp[cA,hk]
 exact DY
theorem E6 {S w rb bv bs s} (h:Rd S w rb bv bs s) (hg:cq S w) (he:(bA bs s).2.err=0) (hk:ag (bA bs s).1=13):Calls Tryz.prog 255 #[.pointer (some ⟨rb,0,none⟩)] w (fT S w rb bv bs (cA bs (bA bs s).1 (bA bs s).2).1 (cA bs (bA bs s).1 (bA bs s).2).2):=by
 have hS:=dj.start h
 have q1:((bA bs s).2.err !=0)=false:=by simp[he]
 have hr:=eU bs s
 have e0:cA bs (bA bs s).1 (bA bs s).2=({aa.of (bA bs s).1 with null:=(bV bs 3 (bA bs s).2).1% 2==1,null2:=(bV bs 3 (bA bs s).2).1/2% 2==1,x:=(aD bs (bV bs 3 (bA bs s).2).2).1,heap:=(co bs (aD bs (bV bs 3 (bA bs s).2).2).2).1,heap2:=(co bs (co bs (aD bs (bV bs 3 (bA bs s).2).2).2).2).1},(co bs (co bs (aD bs (bV bs 3 (bA bs s).2).2).2).2).2):=by simp[cA,hk]
 rw[e0]
 have HK:=Lib.hid hk
 obtain⟨hc1,hc2⟩:=Vh (bV bs 3 (bA bs s).2).1 (kV bs (bA bs s).2)
 clear he hk e0
 exact y1
theorem Kg {S w rb bv bs s} (h:Rd S w rb bv bs s) (hg:cq S w) (he:(bA bs s).2.err=0) (hk:oS (bA bs s).1):Calls Tryz.prog 255 #[.pointer (some ⟨rb,0,none⟩)] w (fT S w rb bv bs (aa.of (bA bs s).1) (bA bs s).2):=by
 have hS:=dj.start h
 have q1:((bA bs s).2.err !=0)=false:=by simp[he]
 have hr:=eU bs s
 obtain⟨h4,h6,h7,h5,h8,h9,h10,h11,h12,h2,h3,h13⟩:=hk
 have HK:Hid (ag (bA bs s).1=ag (bA bs s).1):=Lib.hid rfl
 have k4:(ag (bA bs s).1==4)=false:=by simp[h4]
 have k6:(ag (bA bs s).1==6)=false:=by simp[h6]
 have k7:(ag (bA bs s).1==7)=false:=by simp[h7]
 have k5:(ag (bA bs s).1==5)=false:=by simp[h5]
 have k8:(ag (bA bs s).1==8)=false:=by simp[h8]
 have k9:(ag (bA bs s).1==9)=false:=by simp[h9]
 have k10:(ag (bA bs s).1==10)=false:=by simp[h10]
 have k11:(ag (bA bs s).1==11)=false:=by simp[h11]
 have k12:(ag (bA bs s).1==12)=false:=by simp[h12]
 have k2:(ag (bA bs s).1==2)=false:=by simp[h2]
 have k3:(ag (bA bs s).1==3)=false:=by simp[h3]
 have k13:(ag (bA bs s).1==13)=false:=by simp[h13]
 clear he h4 h6 h7 h5 h8 h9 h10 h11 h12 h2 h3 h13
 exact y1
theorem oW {S w rb bv bs s} (h:Rd S w rb bv bs s) (hg:cq S w):Calls Tryz.prog 255 #[.pointer (some ⟨rb,0,none⟩)] w (fT S w rb bv bs (aY bs s).1 (aY bs s).2):=by
 by_cases he:(bA bs s).2.err=0
 ·have e:aY bs s=cA bs (bA bs s).1 (bA bs s).2:=by unfold aY;rw[if_neg (by simp[he])]
  rw[e]
  rcases fL (bA bs s).1 with hk|(hk|hk)|hk|hk|hk|hk|hk|hk|hk|hk|hk|hk
  ·have e1:cA bs (bA bs s).1 (bA bs s).2=(aa.of (bA bs s).1,(bA bs s).2):=congrFun (congrFun (FG hk) bs) _
   rw[e1]
   exact Kg h hg he hk
  ·exact Kh h hg he hk
  ·exact JB h hg he hk
  ·exact Jp h hg he hk
  ·exact KK h hg he hk
  ·exact Jn h hg he hk
  ·exact I6 h hg he hk
  ·exact DR h hg he hk
  ·exact Eb h hg he hk
  ·exact Fk h hg he hk
  ·exact KX h hg he hk
  ·exact I0 h hg he hk
  ·exact E6 h hg he hk
 ·have e:aY bs s=(aa.of (bA bs s).1,(bA bs s).2):=by unfold aY;rw[if_pos he]
  rw[e]
  exact G3 h hg he
end Go.Proofs.YtpdlmdlkecnpgaaGreatDoor
