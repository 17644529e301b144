/- Texts: PutWA. -/
import Derived.Test.YtpdlmdlkecnpgaaGreatDoorH0
import Derived.Test.YtpdlmdlkecnpgaaGreatDoorH7
import Derived.Test.YtpdlmdlkecnpgaaGreatDoorH12
set_option linter.unusedSimpArgs false
set_option linter.unusedVariables false
namespace Go.Proofs.YtpdlmdlkecnpgaaGreatDoor
open Go.RowKit
theorem LY {w:World} {g:Nat} (hg:w.heap.size=g) (c:List Value) (T:TypeId):bB (w.alloc (.cells c.toArray T)) g c T:=by
 subst hg
 exact bB.new _ _ _
theorem fS {w:World} {v:Value} {X:List UInt8} (ho:cX w v X) {g:Nat} (hg:w.heap.size=g) (C:List Value) (T:TypeId) (b:Int):
 (w.alloc (.cells C.toArray T)).heap.size=g+1∧bB (w.alloc (.cells C.toArray T)) g C T∧g∉Value.blk v∧cX ((w.alloc (.cells C.toArray T)).alloc (.cells #[.int .u8 b] 5)).drew v X∧
  Fr [] (w.alloc (.cells C.toArray T)) ((w.alloc (.cells C.toArray T)).alloc (.cells #[.int .u8 b] 5)).drew∧Ap w v (w.alloc (.cells C.toArray T)) v∧g< (w.alloc (.cells C.toArray T)).heap.size:=by
 subst hg
 exact⟨by simp,LY (by simp) C _,fun hm=>by have:=(bf.blk_lt ho _ hm).1;simp at this,cX.drew (cX.alloc (cX.alloc ho _) _),((Fr.refl [] _).alloc _).drew,Ap.fr0 (v:=v) ((Fr.refl [] w).alloc _),by simp⟩
theorem it (ps:List aF) (h:∀x,x∈ps→x.heap.ok) (hl:ps.length<18446744073709551616):(ae bZ ps).length≤10+13*ps.length:=by
 have h1:=bG ps.length hl
 have h2:=j8 bZ 13 ps (fun t ht=>lx t (h t ht))
 exact xX
theorem lC (ps:List aC) (h:∀x,x∈ps→0≤x.n∧x.n<9223372036854775808) (hl:ps.length<18446744073709551616):(ae aZ ps).length≤10+16*ps.length:=by
 have h1:=bG ps.length hl
 have h2:=j8 aZ 16 ps (fun t ht=>vi t (h t ht).2)
 exact xX
set_option maxRecDepth 100000
set_option maxHeartbeats 6400000
theorem Bm {w:World} (v:Value) (hg:Gl (Value.blk v) w) (xs:List UInt8) (t:bu) (hv pv rv fv:Value) (h:kb (Value.blk v) w t hv pv rv fv) (ho:cX w v xs) (hok:t.ok)
 (hx:xs.length+16*t.len+512≤70368744177664) (hne:t.comp.kind≠1→t.comp.kind≠2→0<t.comp.fields.length) (hf:t.final_=false):
 Calls Tryz.prog 128 #[v,.agg #[.bool t.final_,hv,.int .i64 t.comp.kind,pv,rv,fv]] w fun e w'=>∃v',e= .returned v'∧cX w' v' (xs++dg t)∧Ap w v w' v':=by
 obtain⟨fb,sup,⟨ck,ps,rs,fs⟩⟩:=t
 obtain⟨o1,o2,o3,o4⟩:=hok
 obtain⟨hs1,hs2,hs3,hs4⟩:=h
 unfold bu.len at hx
 dsimp only at o1 o2 o3 o4 hs1 hs2 hs3 hs4 hx hne hf⊢
 obtain⟨ha,hc,rfl⟩:=hs1.shape
 obtain⟨pa,pc,rfl⟩:=hs2.shape
 obtain⟨ra,rc,rfl⟩:=hs3.shape
 obtain⟨fa,fc,rfl⟩:=hs4.shape
 have hblk:=cX.not ho
 have hlv:=it ps o2 (by omega)
 have hlh:=lC sup o1 (by omega)
 have hsz:=fun o=>World.size_alloc w o
 have hb1:xs.length+1≤140737488355328:=by omega
 subst hf
 have hL:bB (w.alloc (.cells #[.bool false,.slice ha sup.length hc,.int .i64 ck,.slice pa ps.length pc,.slice ra rs.length rc,.slice fa fs.length fc] 136)) w.heap.size [.bool false,.slice ha sup.length hc,.int .i64 ck,.slice pa ps.length pc,.slice ra rs.length rc,.slice fa fs.length fc] 136:=bB.new _ _ _
 have hO:=cX.drew (cX.alloc (cX.alloc ho (.cells #[.bool false,.slice ha sup.length hc,.int .i64 ck,.slice pa ps.length pc,.slice ra rs.length rc,.slice fa fs.length fc] 136)) (.cells #[.int .u8 80] 5))
 have fO:Fr [] (w.alloc (.cells #[.bool false,.slice ha sup.length hc,.int .i64 ck,.slice pa ps.length pc,.slice ra rs.length rc,.slice fa fs.length fc] 136)) ((w.alloc (.cells #[.bool false,.slice ha sup.length hc,.int .i64 ck,.slice pa ps.length pc,.slice ra rs.length rc,.slice fa fs.length fc] 136)).alloc (.cells #[.int .u8 80] 5)).drew:=by exact cF
 have hAX:=Ap.fr0 (v:=v) ((Fr.refl [] w).alloc (.cells #[.bool false,.slice ha sup.length hc,.int .i64 ck,.slice pa ps.length pc,.slice ra rs.length rc,.slice fa fs.length fc] 136))
 have hltX:w.heap.size< (w.alloc (.cells #[.bool false,.slice ha sup.length hc,.int .i64 ck,.slice pa ps.length pc,.slice ra rs.length rc,.slice fa fs.length fc] 136)).heap.size:=by simp
 have hx80:(xs++ [80]).length+16*sup.length+64≤70368744177664:=by simp;omega
 go_enter Tryz.func128,Tryz.ntmps128
 go_wp2_with fail
 go_region_held3 (fun w'=>w'.cell? ⟨w.heap.size,1,none⟩=some (.slice ha sup.length hc))
  (first|(go_keep;done)|(exact kc3.trans (by simp))|(exact kc4.trans (kc3.trans (by simp))))
  (first|(refine eZ (by rfl) (.tmp 10) (.tmp 11) _ (by rfl) _ _ _ (by rfl) hO _ _ _ (by rfl) (j6 aB (hsz _) _ _ _ rfl) hb1 ?_;intro v3 w3 hown3 hf3 hb3;have hA3:=(Ap.fr0 (v:=v) fO).trans (Ap.of hf3 hb3);have hAW3:=hAX.trans hA3;have hoW3:=cX.app1 (c:=80) hown3;have hgW3:=hg.ap hAW3;have hsW3:=hs1.ap hAW3;have kb3:=hA3.not hltX hblk;have hL3:=hL.ap hA3 hblk;have kc3:=hL3.cell 1)|(go_at_call 187;refine(rE _ hgW3 _ _ sup hsW3 o1 hoW3 hx80).mono ?_;rintro e w4 ⟨v4,rfl,ho4,hA4⟩;have hL4:=hL3.ap hA4 kb3;have kc4:=hL4.cell 1))
 have hAW:=hAW3.trans hA4
 have hgW:=hg.ap hAW
 have s2W:=hs2.ap hAW
 have s3W:=hs3.ap hAW
 have s4W:=hs4.ap hAW
 have hoW:=ho4
 have hy:(xs++ [80]++ae aZ sup).length≤xs.length+11+16*sup.length:=by simp;omega
 have hLC4:=hL4.cell;have hLF4:=hL4.frz;have hLT4:=hL4.lt
 clear hO fO hAX hltX hx80 hA3 hAW3 hoW3 hgW3 hsW3 kb3 hL3 kc3 kc4 hA4 hg hs1 hs2 hs3 hs4 ho hL hf3 hb3 hown3 hblk ho4
 by_cases c1:ck=1
 ·have g1:(ck==1)=true:=by simpa using c1
  have hfin:dg ⟨false,sup,⟨ck,ps,rs,fs⟩⟩=(80::ae aZ sup)++(96::(ae bZ ps++ae bZ rs)):=by simp[dg,c1]
  have Hfin:=Lib.hid hfin
  clear c1 hfin
  have hx5:(xs++ [80]++ae aZ sup++ [96]).length+16*ps.length+64≤70368744177664:=by(simp only[List.length_append,List.length_cons,List.length_nil]at hy⊢);omega
  have hx6:(xs++ [80]++ae aZ sup++ [96]++ae bZ ps).length+16*rs.length+64≤70368744177664:=by(simp only[List.length_append,List.length_cons,List.length_nil]at hy⊢);omega
  obtain⟨hXs,hLX,hbW,hO,fO,hAX,hltX⟩:=fS hoW rfl [.int .i64 ck,.slice pa ps.length pc,.slice ra rs.length rc,.slice fa fs.length fc] 134 96
  have hb1:(xs++ [80]++ae aZ sup).length+1≤140737488355328:=by omega
  exact Yb
 ·have g1:(ck==1)=false:=by simpa using c1
  by_cases c2:ck=2
  ·have g2:(ck==2)=true:=by simpa using c2
   have hfin:dg ⟨false,sup,⟨ck,ps,rs,fs⟩⟩=(80::ae aZ sup)++(95::ae bj fs):=by simp[dg,c2]
   have Hfin:=Lib.hid hfin
   clear c1 c2 hfin
   have hx5:(xs++ [80]++ae aZ sup++ [95]).length+16*fs.length+64≤70368744177664:=by(simp only[List.length_append,List.length_cons,List.length_nil]at hy⊢);omega
   obtain⟨hXs,hLX,hbW,hO,fO,hAX,hltX⟩:=fS hoW rfl [.int .i64 ck,.slice pa ps.length pc,.slice ra rs.length rc,.slice fa fs.length fc] 134 95
   have hb1:(xs++ [80]++ae aZ sup).length+1≤140737488355328:=by omega
   exact XH
  ·have g2:(ck==2)=false:=by simpa using c2
   have hn0:=hne c1 c2
   obtain⟨f0,hf0,hf0h⟩:∃f0,fs[0]? =some f0∧fs.head? =some f0:=by
    exact Sf
   have hfin:dg ⟨false,sup,⟨ck,ps,rs,fs⟩⟩=(80::ae aZ sup)++(94::bj f0):=by simp[dg,c1,c2,hf0h]
   have Hfin:=Lib.hid hfin
   clear c1 c2 hfin hne hf0h
   have hok0:=o4 f0 (List.mem_of_getElem? hf0)
   have hx5:(xs++ [80]++ae aZ sup++ [94]).length+32≤70368744177664:=by(simp only[List.length_append,List.length_cons,List.length_nil]at hy⊢);omega
   obtain⟨fb0,fo0,fcap,hfe,hflt,hfS,hfc⟩:=s4W.elem (fun _=>rfl) 0 f0 hf0
   injection hfe with hfe1 hfe2 hfe3
   subst hfe1
   clear hfe3 hf0
   simp only[Nat.zero_mul,Nat.zero_add]at hfc
   have hi0:(0:Int)< (fs.length:Int):=by omega
   obtain⟨hXs,hLX,hbW,hO,fO,hAX,hltX⟩:=fS hoW rfl [.int .i64 ck,.slice pa ps.length pc,.slice ra rs.length rc,.slice (some ⟨fb0,fo0,none⟩) fs.length fc] 134 94
   have hb1:(xs++ [80]++ae aZ sup).length+1≤140737488355328:=by omega
   exact XW
theorem zG {w:World} (v:Value) (hg:Gl (Value.blk v) w) (xs:List UInt8) (t:bu) (hv pv rv fv:Value) (h:kb (Value.blk v) w t hv pv rv fv) (ho:cX w v xs) (hok:t.ok)
 (hx:xs.length+16*t.len+512≤70368744177664) (hne:t.comp.kind≠1→t.comp.kind≠2→0<t.comp.fields.length) (hf:t.final_=true) (hq:0<t.supers.length):
 Calls Tryz.prog 128 #[v,.agg #[.bool t.final_,hv,.int .i64 t.comp.kind,pv,rv,fv]] w fun e w'=>∃v',e= .returned v'∧cX w' v' (xs++dg t)∧Ap w v w' v':=by
 obtain⟨fb,sup,⟨ck,ps,rs,fs⟩⟩:=t
 obtain⟨o1,o2,o3,o4⟩:=hok
 obtain⟨hs1,hs2,hs3,hs4⟩:=h
 unfold bu.len at hx
 dsimp only at o1 o2 o3 o4 hs1 hs2 hs3 hs4 hx hne hf hq⊢
 obtain⟨ha,hc,rfl⟩:=hs1.shape
 obtain⟨pa,pc,rfl⟩:=hs2.shape
 obtain⟨ra,rc,rfl⟩:=hs3.shape
 obtain⟨fa,fc,rfl⟩:=hs4.shape
 have hblk:=cX.not ho
 have hlv:=it ps o2 (by omega)
 have hlh:=lC sup o1 (by omega)
 have hsz:=fun o=>World.size_alloc w o
 have hb1:xs.length+1≤140737488355328:=by omega
 subst hf
 have hL:bB (w.alloc (.cells #[.bool true,.slice ha sup.length hc,.int .i64 ck,.slice pa ps.length pc,.slice ra rs.length rc,.slice fa fs.length fc] 136)) w.heap.size [.bool true,.slice ha sup.length hc,.int .i64 ck,.slice pa ps.length pc,.slice ra rs.length rc,.slice fa fs.length fc] 136:=bB.new _ _ _
 have hO:=cX.drew (cX.alloc (cX.alloc ho (.cells #[.bool true,.slice ha sup.length hc,.int .i64 ck,.slice pa ps.length pc,.slice ra rs.length rc,.slice fa fs.length fc] 136)) (.cells #[.int .u8 79] 5))
 have fO:Fr [] (w.alloc (.cells #[.bool true,.slice ha sup.length hc,.int .i64 ck,.slice pa ps.length pc,.slice ra rs.length rc,.slice fa fs.length fc] 136)) ((w.alloc (.cells #[.bool true,.slice ha sup.length hc,.int .i64 ck,.slice pa ps.length pc,.slice ra rs.length rc,.slice fa fs.length fc] 136)).alloc (.cells #[.int .u8 79] 5)).drew:=by exact cF
 have hAX:=Ap.fr0 (v:=v) ((Fr.refl [] w).alloc (.cells #[.bool true,.slice ha sup.length hc,.int .i64 ck,.slice pa ps.length pc,.slice ra rs.length rc,.slice fa fs.length fc] 136))
 have hltX:w.heap.size< (w.alloc (.cells #[.bool true,.slice ha sup.length hc,.int .i64 ck,.slice pa ps.length pc,.slice ra rs.length rc,.slice fa fs.length fc] 136)).heap.size:=by simp
 have hx80:(xs++ [79]).length+16*sup.length+64≤70368744177664:=by simp;omega
 have hqi:(0:Int)< (sup.length:Int):=by omega
 go_enter Tryz.func128,Tryz.ntmps128
 go_wp2_with fail
 go_region_held3 (fun w'=>w'.cell? ⟨w.heap.size,1,none⟩=some (.slice ha sup.length hc))
  (first|(go_keep;done)|(exact kc3.trans (by simp))|(exact kc4.trans (kc3.trans (by simp))))
  (first|(refine eZ (by rfl) (.tmp 21) (.tmp 22) _ (by rfl) _ _ _ (by rfl) hO _ _ _ (by rfl) (j6 aB (hsz _) _ _ _ rfl) hb1 ?_;intro v3 w3 hown3 hf3 hb3;have hA3:=(Ap.fr0 (v:=v) fO).trans (Ap.of hf3 hb3);have hAW3:=hAX.trans hA3;have hoW3:=cX.app1 (c:=79) hown3;have hgW3:=hg.ap hAW3;have hsW3:=hs1.ap hAW3;have kb3:=hA3.not hltX hblk;have hL3:=hL.ap hA3 hblk;have kc3:=hL3.cell 1)|(go_at_call 187;refine(rE _ hgW3 _ _ sup hsW3 o1 hoW3 hx80).mono ?_;rintro e w4 ⟨v4,rfl,ho4,hA4⟩;have hL4:=hL3.ap hA4 kb3;have kc4:=hL4.cell 1))
 have hAW:=hAW3.trans hA4
 have hgW:=hg.ap hAW
 have s2W:=hs2.ap hAW
 have s3W:=hs3.ap hAW
 have s4W:=hs4.ap hAW
 have hoW:=ho4
 have hy:(xs++ [79]++ae aZ sup).length≤xs.length+11+16*sup.length:=by simp;omega
 have hLC4:=hL4.cell;have hLF4:=hL4.frz;have hLT4:=hL4.lt
 clear hO fO hAX hltX hx80 hA3 hAW3 hoW3 hgW3 hsW3 kb3 hL3 kc3 kc4 hA4 hg hs1 hs2 hs3 hs4 ho hL hf3 hb3 hown3 hblk ho4
 by_cases c1:ck=1
 ·have g1:(ck==1)=true:=by simpa using c1
  have hfin:dg ⟨true,sup,⟨ck,ps,rs,fs⟩⟩=(79::ae aZ sup)++(96::(ae bZ ps++ae bZ rs)):=by simp[dg,c1,hq]
  have Hfin:=Lib.hid hfin
  clear c1 hfin
  have hx5:(xs++ [79]++ae aZ sup++ [96]).length+16*ps.length+64≤70368744177664:=by(simp only[List.length_append,List.length_cons,List.length_nil]at hy⊢);omega
  have hx6:(xs++ [79]++ae aZ sup++ [96]++ae bZ ps).length+16*rs.length+64≤70368744177664:=by(simp only[List.length_append,List.length_cons,List.length_nil]at hy⊢);omega
  obtain⟨hXs,hLX,hbW,hO,fO,hAX,hltX⟩:=fS hoW rfl [.int .i64 ck,.slice pa ps.length pc,.slice ra rs.length rc,.slice fa fs.length fc] 134 96
  have hb1:(xs++ [79]++ae aZ sup).length+1≤140737488355328:=by omega
  exact Yb
 ·have g1:(ck==1)=false:=by simpa using c1
  by_cases c2:ck=2
  ·have g2:(ck==2)=true:=by simpa using c2
   have hfin:dg ⟨true,sup,⟨ck,ps,rs,fs⟩⟩=(79::ae aZ sup)++(95::ae bj fs):=by simp[dg,c2,hq]
   have Hfin:=Lib.hid hfin
   clear c1 c2 hfin
   have hx5:(xs++ [79]++ae aZ sup++ [95]).length+16*fs.length+64≤70368744177664:=by(simp only[List.length_append,List.length_cons,List.length_nil]at hy⊢);omega
   obtain⟨hXs,hLX,hbW,hO,fO,hAX,hltX⟩:=fS hoW rfl [.int .i64 ck,.slice pa ps.length pc,.slice ra rs.length rc,.slice fa fs.length fc] 134 95
   have hb1:(xs++ [79]++ae aZ sup).length+1≤140737488355328:=by omega
   exact XH
  ·have g2:(ck==2)=false:=by simpa using c2
   have hn0:=hne c1 c2
   obtain⟨f0,hf0,hf0h⟩:∃f0,fs[0]? =some f0∧fs.head? =some f0:=by
    exact Sf
   have hfin:dg ⟨true,sup,⟨ck,ps,rs,fs⟩⟩=(79::ae aZ sup)++(94::bj f0):=by simp[dg,c1,c2,hf0h,hq]
   have Hfin:=Lib.hid hfin
   clear c1 c2 hfin hne hf0h
   have hok0:=o4 f0 (List.mem_of_getElem? hf0)
   have hx5:(xs++ [79]++ae aZ sup++ [94]).length+32≤70368744177664:=by(simp only[List.length_append,List.length_cons,List.length_nil]at hy⊢);omega
   obtain⟨fb0,fo0,fcap,hfe,hflt,hfS,hfc⟩:=s4W.elem (fun _=>rfl) 0 f0 hf0
   injection hfe with hfe1 hfe2 hfe3
   subst hfe1
   clear hfe3 hf0
   simp only[Nat.zero_mul,Nat.zero_add]at hfc
   have hi0:(0:Int)< (fs.length:Int):=by omega
   obtain⟨hXs,hLX,hbW,hO,fO,hAX,hltX⟩:=fS hoW rfl [.int .i64 ck,.slice pa ps.length pc,.slice ra rs.length rc,.slice (some ⟨fb0,fo0,none⟩) fs.length fc] 134 94
   have hb1:(xs++ [79]++ae aZ sup).length+1≤140737488355328:=by omega
   exact XW
theorem BK {w:World} (v:Value) (hg:Gl (Value.blk v) w) (xs:List UInt8) (t:bu) (hv pv rv fv:Value) (h:kb (Value.blk v) w t hv pv rv fv) (ho:cX w v xs) (hok:t.ok)
 (hx:xs.length+16*t.len+512≤70368744177664) (hne:t.comp.kind≠1→t.comp.kind≠2→0<t.comp.fields.length) (hf:t.final_=true) (hq:t.supers.length=0):
 Calls Tryz.prog 128 #[v,.agg #[.bool t.final_,hv,.int .i64 t.comp.kind,pv,rv,fv]] w fun e w'=>∃v',e= .returned v'∧cX w' v' (xs++dg t)∧Ap w v w' v':=by
 obtain⟨fb,sup,⟨ck,ps,rs,fs⟩⟩:=t
 obtain⟨o1,o2,o3,o4⟩:=hok
 obtain⟨hs1,hs2,hs3,hs4⟩:=h
 unfold bu.len at hx
 dsimp only at o1 o2 o3 o4 hs1 hs2 hs3 hs4 hx hne hf hq⊢
 obtain⟨ha,hc,rfl⟩:=hs1.shape
 obtain⟨pa,pc,rfl⟩:=hs2.shape
 obtain⟨ra,rc,rfl⟩:=hs3.shape
 obtain⟨fa,fc,rfl⟩:=hs4.shape
 have hblk:=cX.not ho
 have hlv:=it ps o2 (by omega)
 have hlh:=lC sup o1 (by omega)
 have hsz:=fun o=>World.size_alloc w o
 have hb1:xs.length+1≤140737488355328:=by omega
 subst hf
 have hqi:¬(0:Int)< (sup.length:Int):=by omega
 have hL:bB (w.alloc (.cells #[.bool true,.slice ha sup.length hc,.int .i64 ck,.slice pa ps.length pc,.slice ra rs.length rc,.slice fa fs.length fc] 136)) w.heap.size [.bool true,.slice ha sup.length hc,.int .i64 ck,.slice pa ps.length pc,.slice ra rs.length rc,.slice fa fs.length fc] 136:=bB.new _ _ _
 have hAW:=Ap.fr0 (v:=v) ((Fr.refl [] w).alloc (.cells #[.bool true,.slice ha sup.length hc,.int .i64 ck,.slice pa ps.length pc,.slice ra rs.length rc,.slice fa fs.length fc] 136))
 have hgW:=hg.ap hAW
 have s2W:=hs2.ap hAW
 have s3W:=hs3.ap hAW
 have s4W:=hs4.ap hAW
 have hoW:=cX.alloc ho (.cells #[.bool true,.slice ha sup.length hc,.int .i64 ck,.slice pa ps.length pc,.slice ra rs.length rc,.slice fa fs.length fc] 136)
 have hy:xs.length≤xs.length+11:=by omega
 have hq0:¬0<sup.length:=by omega
 have Hq:=Lib.hid hq
 clear hq hg hs1 hs2 hs3 hs4 hblk
 by_cases c1:ck=1
 ·have g1:(ck==1)=true:=by simpa using c1
  have hfin:dg ⟨true,sup,⟨ck,ps,rs,fs⟩⟩= []++(96::(ae bZ ps++ae bZ rs)):=by simp[dg,c1,hq0]
  have Hfin:=Lib.hid hfin
  clear c1 hfin
  have hx5:(xs++ [96]).length+16*ps.length+64≤70368744177664:=by(simp only[List.length_append,List.length_cons,List.length_nil]at hy⊢);omega
  have hx6:(xs++ [96]++ae bZ ps).length+16*rs.length+64≤70368744177664:=by(simp only[List.length_append,List.length_cons,List.length_nil]at hy⊢);omega
  obtain⟨hXs,hLX,hbW,hO,fO,hAX,hltX⟩:=fS hoW (g:=w.heap.size+1) (by simp) [.int .i64 ck,.slice pa ps.length pc,.slice ra rs.length rc,.slice fa fs.length fc] 134 96
  have hb1:(xs).length+1≤140737488355328:=by omega
  go_enter Tryz.func128,Tryz.ntmps128
  go_wp2_with fail
  go_region_held3 (fun w'=>w'.cell? ⟨(w.heap.size+1),1,none⟩=some (.slice pa ps.length pc))
   (first|(go_keep;done)|(exact kc5.trans (by simp))|(exact kc6.trans (kc5.symm.trans (kc5.trans (by simp)))))
   (first|(refine eZ (by rfl) (.tmp 41) (.tmp 42) _ (by rfl) _ _ _ (by rfl) hO _ _ _ (by rfl) (j6 aB hXs _ _ _ rfl) hb1 ?_;intro v5 w5 hown5 hf5 hb5;have hA5:=(Ap.fr0 fO).trans (Ap.of hf5 hb5);have hAW5:=hAX.trans hA5;have hoW5:=cX.app1 (c:=96) hown5;have hgW5:=hgW.ap hAW5;have p2:=s2W.ap hAW5;have p3:=s3W.ap hAW5;have p4:=s4W.ap hAW5;have kb5:=hA5.not hltX hbW;have hL5:=hLX.ap hA5 hbW;have kc5:=hL5.cell 1)|(go_at_call 189;refine(lP _ hgW5 _ _ ps p2 o2 hoW5 hx5).mono ?_;rintro e w6 ⟨v6,rfl,ho6,hA6⟩;have hL6:=hL5.ap hA6 kb5;have kc6:=hL6.cell 1))
  exact Wt
 ·have g1:(ck==1)=false:=by simpa using c1
  by_cases c2:ck=2
  ·have g2:(ck==2)=true:=by simpa using c2
   have hfin:dg ⟨true,sup,⟨ck,ps,rs,fs⟩⟩= []++(95::ae bj fs):=by simp[dg,c2,hq0]
   have Hfin:=Lib.hid hfin
   clear c1 c2 hfin
   have hx5:(xs++ [95]).length+16*fs.length+64≤70368744177664:=by(simp only[List.length_append,List.length_cons,List.length_nil]at hy⊢);omega
   obtain⟨hXs,hLX,hbW,hO,fO,hAX,hltX⟩:=fS hoW (g:=w.heap.size+1) (by simp) [.int .i64 ck,.slice pa ps.length pc,.slice ra rs.length rc,.slice fa fs.length fc] 134 95
   have hb1:(xs).length+1≤140737488355328:=by omega
   go_enter Tryz.func128,Tryz.ntmps128
   go_wp2_with fail
   go_region_held3 (fun w'=>w'.cell? ⟨(w.heap.size+1),3,none⟩=some (.slice fa fs.length fc))
    (first|(go_keep;done)|(exact kc5.trans (by simp))|(exact kc6.trans (kc5.symm.trans (kc5.trans (by simp)))))
    (first|(refine eZ (by rfl) (.tmp 53) (.tmp 54) _ (by rfl) _ _ _ (by rfl) hO _ _ _ (by rfl) (j6 aB hXs _ _ _ rfl) hb1 ?_;intro v5 w5 hown5 hf5 hb5;have hA5:=(Ap.fr0 fO).trans (Ap.of hf5 hb5);have hAW5:=hAX.trans hA5;have hoW5:=cX.app1 (c:=95) hown5;have hgW5:=hgW.ap hAW5;have p2:=s2W.ap hAW5;have p3:=s3W.ap hAW5;have p4:=s4W.ap hAW5;have kb5:=hA5.not hltX hbW;have hL5:=hLX.ap hA5 hbW;have kc5:=hL5.cell 3)|(go_at_call 190;refine(ql _ hgW5 _ _ fs p4 o4 hoW5 hx5).mono ?_;rintro e w6 ⟨v6,rfl,ho6,hA6⟩;have hL6:=hL5.ap hA6 kb5;have kc6:=hL6.cell 3))
   exact QB
  ·have g2:(ck==2)=false:=by simpa using c2
   have hn0:=hne c1 c2
   obtain⟨f0,hf0,hf0h⟩:∃f0,fs[0]? =some f0∧fs.head? =some f0:=by
    exact Sf
   have hfin:dg ⟨true,sup,⟨ck,ps,rs,fs⟩⟩= []++(94::bj f0):=by simp[dg,c1,c2,hf0h,hq0]
   have Hfin:=Lib.hid hfin
   clear c1 c2 hfin hne hf0h
   have hok0:=o4 f0 (List.mem_of_getElem? hf0)
   have hx5:(xs++ [94]).length+32≤70368744177664:=by(simp only[List.length_append,List.length_cons,List.length_nil]at hy⊢);omega
   obtain⟨fb0,fo0,fcap,hfe,hflt,hfS,hfc⟩:=s4W.elem (fun _=>rfl) 0 f0 hf0
   injection hfe with hfe1 hfe2 hfe3
   subst hfe1
   clear hfe3 hf0
   simp only[Nat.zero_mul,Nat.zero_add]at hfc
   have hi0:(0:Int)< (fs.length:Int):=by omega
   obtain⟨hXs,hLX,hbW,hO,fO,hAX,hltX⟩:=fS hoW (g:=w.heap.size+1) (by simp) [.int .i64 ck,.slice pa ps.length pc,.slice ra rs.length rc,.slice (some ⟨fb0,fo0,none⟩) fs.length fc] 134 94
   have hb1:(xs).length+1≤140737488355328:=by omega
   have fX:∀r,((w.alloc (.cells #[.bool true,.slice ha sup.length hc,.int .i64 ck,.slice pa ps.length pc,.slice ra rs.length rc,.slice (some ⟨fb0,fo0,none⟩) fs.length fc] 136)).alloc (.cells #[.int .i64 ck,.slice pa ps.length pc,.slice ra rs.length rc,.slice (some ⟨fb0,fo0,none⟩) fs.length fc] 134)).cell? ⟨fb0,fo0+r,none⟩=(w.alloc (.cells #[.bool true,.slice ha sup.length hc,.int .i64 ck,.slice pa ps.length pc,.slice ra rs.length rc,.slice (some ⟨fb0,fo0,none⟩) fs.length fc] 136)).cell? ⟨fb0,fo0+r,none⟩:=fun r=>World.cell?_alloc_lt _ _ ⟨fb0,fo0+r,none⟩ hflt
   have e0:=(fX 0).trans (hfc 0 (by decide))
   have e1:=(fX 1).trans (hfc 1 (by decide))
   have e2:=(fX 2).trans (hfc 2 (by decide))
   have e3:=(fX 3).trans (hfc 3 (by decide))
   have e4:=(fX 4).trans (hfc 4 (by decide))
   have e5:=(fX 5).trans (hfc 5 (by decide))
   simp only[Nat.add_zero,fG,List.getElem?_cons_zero,List.getElem?_cons_succ]at e0 e1 e2 e3 e4 e5
   have Hfc:=Lib.hid hfc
   clear hfc fX
   go_enter Tryz.func128,Tryz.ntmps128
   go_wp2_with fail
   have hfc:=Hfc.out
   go_region_held3 (fun w'=>w'.cell? ⟨(w.heap.size+1),3,none⟩=some (.slice (some ⟨fb0,fo0,none⟩) fs.length fc)∧w'.cell? ⟨fb0,fo0,none⟩=some (.int .i64 f0.pack)∧w'.cell? ⟨fb0,fo0+1,none⟩=some (.int .i64 f0.val.kind)∧w'.cell? ⟨fb0,fo0+2,none⟩=some (.bool f0.val.null)∧w'.cell? ⟨fb0,fo0+3,none⟩=some (.int .i64 f0.val.heap.kind)∧w'.cell? ⟨fb0,fo0+4,none⟩=some (.int .i64 f0.val.heap.n)∧w'.cell? ⟨fb0,fo0+5,none⟩=some (.bool f0.mut_))
    (first|(exact⟨kc5,(fc5 0).trans (hfc 0 (by decide)),(fc5 1).trans (hfc 1 (by decide)),(fc5 2).trans (hfc 2 (by decide)),(fc5 3).trans (hfc 3 (by decide)),(fc5 4).trans (hfc 4 (by decide)),(fc5 5).trans (hfc 5 (by decide))⟩)|(exact⟨kc6,(fc6 0).trans<|(fc5 0).trans (hfc 0 (by decide)),(fc6 1).trans<|(fc5 1).trans (hfc 1 (by decide)),(fc6 2).trans<|(fc5 2).trans (hfc 2 (by decide)),(fc6 3).trans<|(fc5 3).trans (hfc 3 (by decide)),(fc6 4).trans<|(fc5 4).trans (hfc 4 (by decide)),(fc6 5).trans<|(fc5 5).trans (hfc 5 (by decide))⟩)|(exact⟨by simp,e0,e1,e2,e3,e4,e5⟩)|(go_keep;done))
    (first|(refine eZ (by rfl) (.tmp 31) (.tmp 32) _ (by rfl) _ _ _ (by rfl) hO _ _ _ (by rfl) (j6 aB hXs _ _ _ rfl) hb1 ?_;intro v5 w5 hown5 hf5 hb5;have hA5:=(Ap.fr0 fO).trans (Ap.of hf5 hb5);have hAW5:=hAX.trans hA5;have hoW5:=cX.app1 (c:=94) hown5;have hgW5:=hgW.ap hAW5;have p2:=s2W.ap hAW5;have p3:=s3W.ap hAW5;have p4:=s4W.ap hAW5;have kb5:=hA5.not hltX hbW;have hL5:=hLX.ap hA5 hbW;have kc5:=hL5.cell 3;have fc5:∀r,w5.cell? ⟨fb0,fo0+r,none⟩=(w.alloc (.cells #[.bool true,.slice ha sup.length hc,.int .i64 ck,.slice pa ps.length pc,.slice ra rs.length rc,.slice (some ⟨fb0,fo0,none⟩) fs.length fc] 136)).cell? ⟨fb0,fo0+r,none⟩:=(fun r=>hAW5.1.cell hflt hfS _);have fs5:=hAW5.not hflt hfS;have fl5:=Nat.lt_of_lt_of_le hflt hAW5.1.size)|(go_at_call 191;refine(ob _ hgW5 _ f0 hoW5 hok0 hx5).mono ?_;rintro e w6 ⟨v6,rfl,ho6,hA6⟩;have hL6:=hL5.ap hA6 kb5;have kc6:=hL6.cell 3;have fc6:∀r,w6.cell? ⟨fb0,fo0+r,none⟩=w5.cell? ⟨fb0,fo0+r,none⟩:=(fun r=>hA6.1.cell fl5 fs5 _)))
   exact QB
theorem wW {w:World} (v:Value) (hg:Gl (Value.blk v) w) (xs:List UInt8) (t:bu) (hv pv rv fv:Value) (h:kb (Value.blk v) w t hv pv rv fv) (ho:cX w v xs) (hok:t.ok)
 (hx:xs.length+16*t.len+512≤70368744177664) (hne:t.comp.kind≠1→t.comp.kind≠2→0<t.comp.fields.length):
 Calls Tryz.prog 128 #[v,.agg #[.bool t.final_,hv,.int .i64 t.comp.kind,pv,rv,fv]] w fun e w'=>∃v',e= .returned v'∧cX w' v' (xs++dg t)∧Ap w v w' v':=by
 cases hf:t.final_
 ·rw[←hf];exact Bm v hg xs t hv pv rv fv h ho hok hx hne hf
 ·by_cases hq:0<t.supers.length
  ·rw[←hf];exact zG v hg xs t hv pv rv fv h ho hok hx hne hf hq
  ·rw[←hf];exact BK v hg xs t hv pv rv fv h ho hok hx hne hf (by omega)
end Go.Proofs.YtpdlmdlkecnpgaaGreatDoor
