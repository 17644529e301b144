/- Texts: IbMayC. -/
import Derived.Test.YtpdlmdlkecnpgaaGreatDoorH0
import Derived.Test.YtpdlmdlkecnpgaaGreatDoorH18
set_option linter.unusedSimpArgs false
set_option linter.unusedVariables false
namespace Go.Proofs.YtpdlmdlkecnpgaaGreatDoor
open Go.RowKit
set_option maxRecDepth 100000
set_option maxHeartbeats 12800000
theorem V5:re 2:=by
 intro w hg o x y u hk hn jk jn n1 n2 ts ls bk vk vn wk wn bn cs tv lv cv h h1 h2 hts hls hcs hsh b hm
 have hB:b=((cY ({kind:=bk,val:={kind:=vk,null:=vn,heap:={kind:=wk,n:=wn}},n:=bn}:bJ))&&decide (({op:=o,x:=x,y:=y,u:=u,heap:={kind:=hk,n:=hn},heap2:={kind:=jk,n:=jn},null:=n1,null2:=n2,types:=ts,labels:=ls,block:=bJ.zero,catches:=cs}:aa)=aa.of o)):=Lc
 exact J7
theorem Up:re 3:=by
 intro w hg o x y u hk hn jk jn n1 n2 ts ls bk vk vn wk wn bn cs tv lv cv h h1 h2 hts hls hcs hsh b hm
 have hB:b=((cY ({kind:=bk,val:={kind:=vk,null:=vn,heap:={kind:=wk,n:=wn}},n:=bn}:bJ)&&cs.all dm)&&decide (({op:=o,x:=x,y:=y,u:=u,heap:={kind:=hk,n:=hn},heap2:={kind:=jk,n:=jn},null:=n1,null2:=n2,types:=ts,labels:=ls,block:=bJ.zero,catches:= []}:aa)=aa.of o)):=Lc
 exact J7
end Go.Proofs.YtpdlmdlkecnpgaaGreatDoor
