/- Texts: IbMayA. -/
import Derived.Test.YtpdlmdlkecnpgaaGreatDoorH0
import Derived.Test.YtpdlmdlkecnpgaaGreatDoorH18
set_option linter.unusedSimpArgs false
set_option linter.unusedVariables false
namespace Go.Proofs.YtpdlmdlkecnpgaaGreatDoor
open Go.RowKit
set_option maxRecDepth 100000
set_option maxHeartbeats 12800000
theorem Uw:re 0:=by
 intro w hg o x y u hk hn jk jn n1 n2 ts ls bk vk vn wk wn bn cs tv lv cv h h1 h2 hts hls hcs hsh b hm
 have hB:b=false:=by rw[←hm];simp[dx,hsh]
 exact J7
theorem V9:re 1:=by
 intro w hg o x y u hk hn jk jn n1 n2 ts ls bk vk vn wk wn bn cs tv lv cv h h1 h2 hts hls hcs hsh b hm
 have hB:b=((true)&&decide (({op:=o,x:=x,y:=y,u:=u,heap:={kind:=hk,n:=hn},heap2:={kind:=jk,n:=jn},null:=n1,null2:=n2,types:=ts,labels:=ls,block:={kind:=bk,val:={kind:=vk,null:=vn,heap:={kind:=wk,n:=wn}},n:=bn},catches:=cs}:aa)=aa.of o)):=Lc
 exact J7
theorem Wl:re 4:=by
 intro w hg o x y u hk hn jk jn n1 n2 ts ls bk vk vn wk wn bn cs tv lv cv h h1 h2 hts hls hcs hsh b hm
 have hB:b=((ev x)&&decide (({op:=o,x:=0,y:=y,u:=u,heap:={kind:=hk,n:=hn},heap2:={kind:=jk,n:=jn},null:=n1,null2:=n2,types:=ts,labels:=ls,block:={kind:=bk,val:={kind:=vk,null:=vn,heap:={kind:=wk,n:=wn}},n:=bn},catches:=cs}:aa)=aa.of o)):=Lc
 exact J7
theorem Va:re 5:=by
 intro w hg o x y u hk hn jk jn n1 n2 ts ls bk vk vn wk wn bn cs tv lv cv h h1 h2 hts hls hcs hsh b hm
 have hB:b=((ev x&&ls.all ev)&&decide (({op:=o,x:=0,y:=y,u:=u,heap:={kind:=hk,n:=hn},heap2:={kind:=jk,n:=jn},null:=n1,null2:=n2,types:=ts,labels:= [],block:={kind:=bk,val:={kind:=vk,null:=vn,heap:={kind:=wk,n:=wn}},n:=bn},catches:=cs}:aa)=aa.of o)):=Lc
 exact J7
theorem Vz:re 6:=by
 intro w hg o x y u hk hn jk jn n1 n2 ts ls bk vk vn wk wn bn cs tv lv cv h h1 h2 hts hls hcs hsh b hm
 have hB:b=((ev x)&&decide (({op:=o,x:=0,y:=y,u:=u,heap:={kind:=hk,n:=hn},heap2:={kind:=jk,n:=jn},null:=n1,null2:=n2,types:=ts,labels:=ls,block:={kind:=bk,val:={kind:=vk,null:=vn,heap:={kind:=wk,n:=wn}},n:=bn},catches:=cs}:aa)=aa.of o)):=Lc
 exact J7
theorem Wc:re 7:=by
 intro w hg o x y u hk hn jk jn n1 n2 ts ls bk vk vn wk wn bn cs tv lv cv h h1 h2 hts hls hcs hsh b hm
 have hB:b=((ev x&&ev y)&&decide (({op:=o,x:=0,y:=0,u:=u,heap:={kind:=hk,n:=hn},heap2:={kind:=jk,n:=jn},null:=n1,null2:=n2,types:=ts,labels:=ls,block:={kind:=bk,val:={kind:=vk,null:=vn,heap:={kind:=wk,n:=wn}},n:=bn},catches:=cs}:aa)=aa.of o)):=Lc
 exact J7
end Go.Proofs.YtpdlmdlkecnpgaaGreatDoor
