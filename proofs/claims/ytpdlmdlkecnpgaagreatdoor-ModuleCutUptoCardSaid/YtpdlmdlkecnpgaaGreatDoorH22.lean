/- Texts: IbMayD. -/
import Derived.Test.YtpdlmdlkecnpgaaGreatDoorH0
import Derived.Test.YtpdlmdlkecnpgaaGreatDoorH18
set_option linter.unusedSimpArgs false
set_option linter.unusedVariables false
namespace Go.Proofs.YtpdlmdlkecnpgaaGreatDoor
open Go.RowKit
set_option maxRecDepth 100000
set_option maxHeartbeats 12800000
theorem Uc:re 13:=by
 intro w hg o x y u hk hn jk jn n1 n2 ts ls bk vk vn wk wn bn cs tv lv cv h h1 h2 hts hls hcs hsh b hm
 have hB:b=((ev x&&ja ({kind:=hk,n:=hn}:aC)&&ja ({kind:=jk,n:=jn}:aC))&&decide (({op:=o,x:=0,y:=y,u:=u,heap:=aC.zero,heap2:=aC.zero,null:=false,null2:=false,types:=ts,labels:=ls,block:={kind:=bk,val:={kind:=vk,null:=vn,heap:={kind:=wk,n:=wn}},n:=bn},catches:=cs}:aa)=aa.of o)):=Lc
 exact J7
end Go.Proofs.YtpdlmdlkecnpgaaGreatDoor
