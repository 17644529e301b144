/- Texts: MdSc. -/
import Derived.Test.YtpdlmdlkecnpgaaGreatDoorH0
import Derived.Test.YtpdlmdlkecnpgaaGreatDoorH36
import Derived.Test.YtpdlmdlkecnpgaaGreatDoorH12
set_option linter.unusedSimpArgs false
set_option linter.unusedVariables false
namespace Go.Proofs.YtpdlmdlkecnpgaaGreatDoor
open Go.RowKit
theorem kI {w:World} {va vb:Value} {xs ys:List aa} (h1:eo va xs w) (h2:eo vb ys w):Calls Tryz.prog 111 #[va,vb] w fun e w'=>e= .returned (.bool (decide (xs=ys)))∧Fr [] w w':=by
 have hm:=Oq no h1 h2 (fun x _ y _ c d w' hf hR1 hR2=>by
  obtain⟨tv,lv,cv,rfl,k1⟩:=hR1
  obtain⟨tv',lv',cv',rfl,k2⟩:=hR2
  exact Md _ x y _ _ _ _ _ _ k1 k2)
 exact V3
theorem MS {w:World} {va vb:Value} {xs ys:List bu} (h1:ET va xs w) (h2:ET vb ys w):Calls Tryz.prog 41 #[va,vb] w fun e w'=>e= .returned (.bool (decide (xs=ys)))∧Fr [] w w':=by
 have h1:=mF h1
 have h2:=mF h2
 have hm:=O8 zQ h1 h2 (fun x _ y _ c d w' hf hR1 hR2=>by
  obtain⟨hv,pv,rv,fv,rfl,k1⟩:=hR1
  obtain⟨hv',pv',rv',fv',rfl,k2⟩:=hR2
  exact Ol _ x y _ _ _ _ _ _ _ _ k1 k2)
 exact V3
theorem Rb (a b:List UInt8):(decide ((⟨a.toArray⟩:ByteArray).toList=(⟨b.toArray⟩:ByteArray).toList))=decide (a=b):=by
 rw[Bool.eq_iff_iff]
 simp only[decide_eq_true_eq,xd]
set_option maxRecDepth 100000
set_option maxHeartbeats 3200000
theorem Fa {w:World} {va vb:Value} {xs ys:List UInt8} (h1:Sl [] w 1 va xs.length (xs.map B)) (h2:Sl [] w 1 vb ys.length (ys.map B)):Calls Tryz.prog 113 #[va,vb] w fun e w'=>e= .returned (.bool (decide (xs=ys)))∧Fr [] w w':=by
 have c1:=h1.conv
 have c2:=h2.conv
 obtain⟨a1,d1,rfl⟩:=h1.shape
 obtain⟨a2,d2,rfl⟩:=h2.shape
 clear h1 h2
 unfold iI at c1 c2
 rw[←Rb]
 go_enter Tryz.func113,Tryz.ntmps113
 go_wp2
 go_ret
 refine⟨?_,Fr.refl _ _⟩
 first|(simp;rw[Bool.eq_iff_iff];simp;done)|(simp;done)|rfl
theorem Mi {w:World} (x y:dh) (c d:List Value) (h1:ku x c w) (h2:ku y d w):Calls Tryz.prog 44 #[.agg c.toArray,.agg d.toArray] w fun e w'=>e= .returned (.bool (decide (x=y)))∧Fr [] w w':=by
 obtain⟨lv,bv,rfl,p1,p2⟩:=h1
 obtain⟨lv',bv',rfl,q1,q2⟩:=h2
 have p1x:=p1
 obtain⟨zp1,yp1,rfl⟩:=an.shape p1
 have p2x:=p2
 obtain⟨zp2,yp2,rfl⟩:=an.shape p2
 have q1x:=q1
 obtain⟨zq1,yq1,rfl⟩:=an.shape q1
 have q2x:=q2
 obtain⟨zq2,yq2,rfl⟩:=an.shape q2
 obtain⟨t,l,b⟩:=x
 obtain⟨t2,l2,b2⟩:=y
 have EQ:=Lib.hid ((by rw[Bool.eq_iff_iff];simp):decide ((⟨t,l,b⟩:dh)=⟨t2,l2,b2⟩)=((t==t2)&&(decide (l=l2)&&decide (b=b2))))
 dsimp only at*
 have hS:=St.start [] w
 cases g1:(t==t2)
 ·have T1:=Lib.hid g1
  exact WN
 ·have T1:=Lib.hid g1
  cases g2:(decide (l=l2))
  ·have T2:=Lib.hid g2
   exact WN
  ·have T2:=Lib.hid g2
   cases g3:(decide (b=b2))
   ·have T3:=Lib.hid g3
    exact WN
   ·have T3:=Lib.hid g3
    exact WN
theorem NM {w:World} (x y:lO) (c d:List Value) (h1:qG x c w) (h2:qG y d w):Calls Tryz.prog 46 #[.agg c.toArray,.agg d.toArray] w fun e w'=>e= .returned (.bool (decide (x=y)))∧Fr [] w w':=by
 obtain⟨bv,rfl,p2⟩:=h1
 obtain⟨bv',rfl,q2⟩:=h2
 have p2x:=p2
 obtain⟨zp2,yp2,rfl⟩:=an.shape p2
 have q2x:=q2
 obtain⟨zq2,yq2,rfl⟩:=an.shape q2
 obtain⟨⟨⟨ek,en,⟨hk,hn⟩⟩,⟨lw,mn,mx,lh⟩⟩,hi,b⟩:=x
 obtain⟨⟨⟨ek2,en2,⟨hk2,hn2⟩⟩,⟨lw2,mn2,mx2,lh2⟩⟩,hi2,b2⟩:=y
 have EQ:=Lib.hid ((by rw[Bool.eq_iff_iff];simp[and_assoc,Tk]):decide ((⟨⟨⟨ek,en,⟨hk,hn⟩⟩,⟨lw,mn,mx,lh⟩⟩,hi,b⟩:lO)=⟨⟨⟨ek2,en2,⟨hk2,hn2⟩⟩,⟨lw2,mn2,mx2,lh2⟩⟩,hi2,b2⟩)=((decide (ek=ek2)&&(decide (en=en2)&&(decide (hk=hk2)&&(decide (hn=hn2)&&(decide (lw=lw2)&&(decide ((mn:Int)=mn2)&&(decide ((mx:Int)=mx2)&&decide (lh=lh2))))))))&&((hi==hi2)&&decide (b=b2))))
 dsimp only at*
 have hS:=St.start [] w
 cases g1:(decide (ek=ek2)&&(decide (en=en2)&&(decide (hk=hk2)&&(decide (hn=hn2)&&(decide (lw=lw2)&&(decide ((mn:Int)=mn2)&&(decide ((mx:Int)=mx2)&&decide (lh=lh2))))))))
 ·have T1:=Lib.hid g1
  exact WM
 ·have T1:=Lib.hid g1
  cases g2:(hi==hi2)
  ·have T2:=Lib.hid g2
   exact WM
  ·have T2:=Lib.hid g2
   cases g3:(decide (b=b2))
   ·have T3:=Lib.hid g3
    exact WM
   ·have T3:=Lib.hid g3
    exact WM
theorem L9 {w:World} (x y:mD) (c d:List Value) (h1:qR x c w) (h2:qR y d w):Calls Tryz.prog 50 #[.agg c.toArray,.agg d.toArray] w fun e w'=>e= .returned (.bool (decide (x=y)))∧Fr [] w w':=by
 obtain⟨bv,rfl,p2⟩:=h1
 obtain⟨bv',rfl,q2⟩:=h2
 have p2x:=p2
 obtain⟨zp2,yp2,rfl⟩:=an.shape p2
 have q2x:=q2
 obtain⟨zq2,yq2,rfl⟩:=an.shape q2
 obtain⟨⟨⟨ek,en,⟨hk,hn⟩⟩,mt⟩,b⟩:=x
 obtain⟨⟨⟨ek2,en2,⟨hk2,hn2⟩⟩,mt2⟩,b2⟩:=y
 have EQ:=Lib.hid ((by rw[Bool.eq_iff_iff];simp[and_assoc]):decide ((⟨⟨⟨ek,en,⟨hk,hn⟩⟩,mt⟩,b⟩:mD)=⟨⟨⟨ek2,en2,⟨hk2,hn2⟩⟩,mt2⟩,b2⟩)=((decide (ek=ek2)&&(decide (en=en2)&&(decide (hk=hk2)&&(decide (hn=hn2)&&decide (mt=mt2)))))&&decide (b=b2)))
 dsimp only at*
 have hS:=St.start [] w
 cases g1:(decide (ek=ek2)&&(decide (en=en2)&&(decide (hk=hk2)&&(decide (hn=hn2)&&decide (mt=mt2)))))
 ·have T1:=Lib.hid g1
  exact Xv
 ·have T1:=Lib.hid g1
  cases g2:(decide (b=b2))
  ·have T2:=Lib.hid g2
   exact Xv
  ·have T2:=Lib.hid g2
   exact Xv
theorem JO {w:World} (x y:eb) (c d:List Value) (h1:gD x c w) (h2:gD y d w):Calls Tryz.prog 53 #[.agg c.toArray,.agg d.toArray] w fun e w'=>e= .returned (.bool (decide (x=y)))∧Fr [] w w':=by
 obtain⟨iv,ov,rfl,p1,p2⟩:=h1
 obtain⟨iv',ov',rfl,q1,q2⟩:=h2
 have p1x:=p1
 obtain⟨zp1,yp1,rfl⟩:=an.shape p1
 have p2x:=p2
 obtain⟨zp2,yp2,rfl⟩:=an.shape p2
 have q1x:=q1
 obtain⟨zq1,yq1,rfl⟩:=an.shape q1
 have q2x:=q2
 obtain⟨zq2,yq2,rfl⟩:=an.shape q2
 have HE:=Lib.hid fun w' (hf:Fr [] w w')=>LW i7 (an.fr i7.fr p1x hf) (an.fr i7.fr q1x hf) (fun x _ y _ c d w2 hf hR1 hR2=>by
  obtain⟨v1,e1,hR1⟩:=hR1
  obtain⟨v2,e2,hR2⟩:=hR2
  obtain rfl:c=v1:=by simpa using e1
  obtain rfl:d=v2:=by simpa using e2
  exact kI hR1 hR2)
 obtain⟨⟨ek,en,⟨hk,hn⟩⟩,is,mo,ta,b⟩:=x
 obtain⟨⟨ek2,en2,⟨hk2,hn2⟩⟩,is2,mo2,ta2,b2⟩:=y
 have EQ:=Lib.hid ((by rw[Bool.eq_iff_iff];simp only[eb.mk.injEq,aF.mk.injEq,aC.mk.injEq,Bool.and_eq_true,decide_eq_true_eq,beq_iff_eq];exact⟨fun⟨⟨a,b,c,d⟩,e,f,g,h⟩=>⟨⟨a,b,c,d⟩,f,g,h,e⟩,fun⟨⟨a,b,c,d⟩,f,g,h,e⟩=>⟨⟨a,b,c,d⟩,e,f,g,h⟩⟩):decide ((⟨⟨ek,en,⟨hk,hn⟩⟩,is,mo,ta,b⟩:eb)=⟨⟨ek2,en2,⟨hk2,hn2⟩⟩,is2,mo2,ta2,b2⟩)=((decide (ek=ek2)&&(decide (en=en2)&&(decide (hk=hk2)&&decide (hn=hn2))))&&((mo==mo2)&&((ta==ta2)&&(decide (b=b2)&&decide (is=is2))))))
 dsimp only at*
 have hS:=St.start [] w
 cases g1:(decide (ek=ek2)&&(decide (en=en2)&&(decide (hk=hk2)&&decide (hn=hn2))))
 ·have T1:=Lib.hid g1
  exact y8
 ·have T1:=Lib.hid g1
  cases g2:(mo==mo2)
  ·have T2:=Lib.hid g2
   exact y8
  ·have T2:=Lib.hid g2
   cases g3:(ta==ta2)
   ·have T3:=Lib.hid g3
    exact y8
   ·have T3:=Lib.hid g3
    cases g4:(decide (b=b2))
    ·have T4:=Lib.hid g4
     exact y8
    ·have T4:=Lib.hid g4
     cases g5:(decide (is=is2))
     ·have T5:=Lib.hid g5
      exact y8
     ·have T5:=Lib.hid g5
      exact y8
theorem MY {w:World} (x y:jG) (c d:List Value) (h1:rK x c w) (h2:rK y d w):Calls Tryz.prog 55 #[.agg c.toArray,.agg d.toArray] w fun e w'=>e= .returned (.bool (decide (x=y)))∧Fr [] w w':=by
 obtain⟨ov,bv,rfl,p2,p1⟩:=h1
 obtain⟨ov',bv',rfl,q2,q1⟩:=h2
 have p2x:=p2
 obtain⟨zp2,yp2,rfl⟩:=an.shape p2
 have q2x:=q2
 obtain⟨zq2,yq2,rfl⟩:=an.shape q2
 have p1x:=p1
 obtain⟨zp1,yp1,rfl⟩:=p1.shape
 have q1x:=q1
 obtain⟨zq1,yq1,rfl⟩:=q1.shape
 obtain⟨mo,me,b,bs⟩:=x
 obtain⟨mo2,me2,b2,bs2⟩:=y
 have EQ:=Lib.hid ((by rw[Bool.eq_iff_iff];simp):decide ((⟨mo,me,b,bs⟩:jG)=⟨mo2,me2,b2,bs2⟩)=((mo==mo2)&&((me==me2)&&(decide (b=b2)&&decide (bs=bs2)))))
 dsimp only at*
 have hS:=St.start [] w
 cases g1:(mo==mo2)
 ·have T1:=Lib.hid g1
  exact VG
 ·have T1:=Lib.hid g1
  cases g2:(me==me2)
  ·have T2:=Lib.hid g2
   exact VG
  ·have T2:=Lib.hid g2
   cases g3:(decide (b=b2))
   ·have T3:=Lib.hid g3
    exact VG
   ·have T3:=Lib.hid g3
    cases g4:(decide (bs=bs2))
    ·have T4:=Lib.hid g4
     exact VG
    ·have T4:=Lib.hid g4
     exact VG
end Go.Proofs.YtpdlmdlkecnpgaaGreatDoor
