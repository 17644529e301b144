/- Texts: IbMayB. -/
import Derived.Test.YtpdlmdlkecnpgaaGreatDoorH0
import Derived.Test.YtpdlmdlkecnpgaaGreatDoorH18
set_option linter.unusedSimpArgs false
set_option linter.unusedVariables false
namespace Go.Proofs.YtpdlmdlkecnpgaaGreatDoor
open Go.RowKit
set_option maxRecDepth 100000
set_option maxHeartbeats 12800000
theorem VT:re 8:=by
 intro w hg o x y u hk hn jk jn n1 n2 ts ls bk vk vn wk wn bn cs tv lv cv h h1 h2 hts hls hcs hsh b hm
 have hB:b=((decide (0≤x)&&decide (x<64)&&ev y)&&decide (({op:=o,x:=0,y:=0,u:=0,heap:={kind:=hk,n:=hn},heap2:={kind:=jk,n:=jn},null:=n1,null2:=n2,types:=ts,labels:=ls,block:={kind:=bk,val:={kind:=vk,null:=vn,heap:={kind:=wk,n:=wn}},n:=bn},catches:=cs}:aa)=aa.of o)):=Lc
 have D:(x<0∧Hid (decide (0≤x)=false)∧Hid (decide (x<64)=decide (x<64)))∨((0≤x∧x<64)∧Hid (decide (0≤x)=true)∧Hid (decide (x<64)=true))∨((0≤x∧¬x<64)∧Hid (decide (0≤x)=true)∧Hid (decide (x<64)=false)):=by
  rcases(by omega:x<0∨(0≤x∧x<64)∨(0≤x∧¬x<64))with i1|⟨i1,i2⟩|⟨i1,i2⟩
  ·exact .inl ⟨i1,Lib.hid (by simp;omega),Lib.hid rfl⟩
  ·exact .inr (.inl ⟨⟨i1,i2⟩,Lib.hid (by simp;omega),Lib.hid (by simp;omega)⟩)
  ·exact .inr (.inr ⟨⟨i1,i2⟩,Lib.hid (by simp;omega),Lib.hid (by simp;omega)⟩)
 rcases D with⟨i1,D1,D2⟩|⟨⟨i1,i2⟩,D1,D2⟩|⟨⟨i1,i2⟩,D1,D2⟩
 all_goals exact J7
theorem UI:re 9:=by
 intro w hg o x y u hk hn jk jn n1 n2 ts ls bk vk vn wk wn bn cs tv lv cv h h1 h2 hts hls hcs hsh b hm
 have hB:b=((decide (u<4294967296))&&decide (({op:=o,x:=x,y:=y,u:=0,heap:={kind:=hk,n:=hn},heap2:={kind:=jk,n:=jn},null:=n1,null2:=n2,types:=ts,labels:=ls,block:={kind:=bk,val:={kind:=vk,null:=vn,heap:={kind:=wk,n:=wn}},n:=bn},catches:=cs}:aa)=aa.of o)):=Lc
 have D:(((u:Int)/4294967296==0)=true∧Hid (decide (u<4294967296)=true))∨(((u:Int)/4294967296==0)=false∧Hid (decide (u<4294967296)=false)):=by
  by_cases i1:(u:Int)/4294967296=0
  ·exact .inl ⟨by simp[i1],Lib.hid (by simp;omega)⟩
  ·exact .inr ⟨by simp[i1],Lib.hid (by simp;omega)⟩
 rcases D with⟨i1,D1⟩|⟨i1,D1⟩
 all_goals exact J7
theorem Tv:re 10:=by
 intro w hg o x y u hk hn jk jn n1 n2 ts ls bk vk vn wk wn bn cs tv lv cv h h1 h2 hts hls hcs hsh b hm
 have hB:b=((true)&&decide (({op:=o,x:=x,y:=y,u:=0,heap:={kind:=hk,n:=hn},heap2:={kind:=jk,n:=jn},null:=n1,null2:=n2,types:=ts,labels:=ls,block:={kind:=bk,val:={kind:=vk,null:=vn,heap:={kind:=wk,n:=wn}},n:=bn},catches:=cs}:aa)=aa.of o)):=Lc
 exact J7
theorem TU:re 11:=by
 intro w hg o x y u hk hn jk jn n1 n2 ts ls bk vk vn wk wn bn cs tv lv cv h h1 h2 hts hls hcs hsh b hm
 have hB:b=((ja ({kind:=hk,n:=hn}:aC))&&decide (({op:=o,x:=x,y:=y,u:=u,heap:=aC.zero,heap2:={kind:=jk,n:=jn},null:=n1,null2:=n2,types:=ts,labels:=ls,block:={kind:=bk,val:={kind:=vk,null:=vn,heap:={kind:=wk,n:=wn}},n:=bn},catches:=cs}:aa)=aa.of o)):=Lc
 exact J7
theorem TA:re 12:=by
 intro w hg o x y u hk hn jk jn n1 n2 ts ls bk vk vn wk wn bn cs tv lv cv h h1 h2 hts hls hcs hsh b hm
 have hB:b=((ts.all aj)&&decide (({op:=o,x:=x,y:=y,u:=u,heap:={kind:=hk,n:=hn},heap2:={kind:=jk,n:=jn},null:=n1,null2:=n2,types:= [],labels:=ls,block:={kind:=bk,val:={kind:=vk,null:=vn,heap:={kind:=wk,n:=wn}},n:=bn},catches:=cs}:aa)=aa.of o)):=Lc
 exact J7
end Go.Proofs.YtpdlmdlkecnpgaaGreatDoor
