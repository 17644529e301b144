/- Texts: MdQ0 MdSz. -/
import Derived.Test.YtpdlmdlkecnpgaaGreatDoorH0
import Derived.Test.YtpdlmdlkecnpgaaGreatDoorH36
set_option linter.unusedSimpArgs false
set_option linter.unusedVariables false
namespace Go.Proofs.YtpdlmdlkecnpgaaGreatDoor
open Go.RowKit
theorem q55r:Tryz.prog.underlying 55=some ((Tryz.prog.underlying 55).get (by kernel_rfl)):=u9
theorem cI.fr {c:List Value} {m:aV} {w w':World} (h:cI c m w) (hf:Fr [] w w'):cI c m w':=by
 obtain⟨ty,im,fu,ta,me,tg,gl,ex,el,da,rfl,h0,h1,h2,h3,h4,h5,h6,h7,h9,h10⟩:=h
 exact⟨ty,im,fu,ta,me,tg,gl,ex,el,da,rfl,an.fr gv.fr h0 hf,an.fr gp.fr h1 hf,an.fr dG.fr h2 hf,an.fr jj.fr h3 hf,an.fr fR.fr h4 hf,an.fr gj.fr h5 hf,an.fr jm.fr h6 hf,an.fr gq.fr h7 hf,an.fr fH.fr h9 hf,an.fr gP.fr h10 hf⟩
theorem Db (o:Int) (i:aa) (h:i.op=o):ox i=((o==64520)||(o==64521)||(o==64265)||(o==64274)):=by
 unfold ox
 rw[h,Bool.eq_iff_iff]
 simp only[decide_eq_true_eq,Bool.or_eq_true,beq_iff_eq]
 omega
theorem B7 {α:Type} {p:α→Bool} {xs:List α} {i:Nat} {x:α} (h:xs.any p=(xs.drop i).any p) (hx:xs[i]? =some x) (hp:p x=false):xs.any p=(xs.drop (i+1)).any p:=by rw[h,gB xs i x hx];simp[hp]
theorem oI {α:Type} {p:α→Bool} {xs:List α} {i:Nat} {x:α} (h:xs.any p=(xs.drop i).any p) (hx:xs[i]? =some x) (hp:p x=true):xs.any p=true:=by rw[h,gB xs i x hx];simp[hp]
theorem GB {α:Type} {p:α→Bool} {xs:List α} (h:xs.any p=(xs.drop xs.length).any p):xs.any p=false:=by rw[h];simp
set_option maxRecDepth 100000
set_option maxHeartbeats 3200000
theorem D6 {w:World} (v:Value) (l:List aa) (h:eo v l w):Calls Tryz.prog 35 #[v] w fun e w'=>e= .returned (.bool (bD l))∧w'=w:=by
 unfold bD
 have hh:=h
 obtain⟨a,cap,rfl,hl⟩:∃a cap,v= .slice a l.length cap∧l.length≤9223372036854775807:=by
  exact TJ
 clear h
 go_enter Tryz.func35,Tryz.ntmps35
 go_wp2
 go_loopw [6] (fun n wr=>∃(i:Nat),n= .int .i64 i∧i≤l.length∧wr=w∧Hid (l.any ox=(l.drop i).any ox)) (fun n _=>l.length-(intOf n).toNat)
 case atStart=>exact⟨0,rfl,by omega,rfl,Lib.hid rfl⟩
 case round=>
  obtain⟨i,rfl,hi,rfl,hI⟩:=hrel
  by_cases hlt:i<l.length
  ·obtain⟨x,hx⟩:∃t,l[i]? =some t:=⟨l[i],by simp[hlt]⟩
   obtain⟨b,off,cap2,c,hv,hb,⟨tv,lv,cv,rfl,_⟩,_,hc⟩:=an.elem hh (fun x c h=>no.len x c _ h) hx
   injection hv with hv1 hv2 hv3
   subst hv1 hv3
   have e0:=hc 0 (by decide)
   obtain⟨o,ho⟩:∃o,x.op=o:=⟨_,rfl⟩
   simp only[Nat.add_zero,cp,List.getElem?_cons_zero,ho]at e0
   have hn:=Db o x ho
   have i1:(i:Int)< (l.length:Int):=by omega
   clear hc ho
   cases q1:(o==64520)
   rotate_left
   ·have Hall:=Lib.hid (oI hI.out hx (by rw[hn];simp[q1]))
    exact WS
   cases q2:(o==64521)
   rotate_left
   ·have Hall:=Lib.hid (oI hI.out hx (by rw[hn];simp[q1,q2]))
    exact WS
   cases q3:(o==64265)
   rotate_left
   ·have Hall:=Lib.hid (oI hI.out hx (by rw[hn];simp[q1,q2,q3]))
    exact WS
   cases q4:(o==64274)
   ·have Hall:=Lib.hid (B7 hI.out hx (by rw[hn];simp[q1,q2,q3,q4]))
    clear hn hx hI
    go_wp2
    go_roundw
    case rel=>exact⟨i+1,by go_num,by omega,trivial,Hall⟩
    case measure=>simp[intOf];omega
   ·have Hall:=Lib.hid (oI hI.out hx (by rw[hn];simp[q1,q2,q3,q4]))
    exact WS
  ·have hk:i=l.length:=by omega
   subst hk
   have Hall:=Lib.hid (GB hI.out)
   clear hI
   go_wp2
   go_ret
   exact⟨by rw[Hall.out];rfl,rfl⟩
theorem tN {w:World} (f:dh) (c:List Value) (h:ku f c w):Calls Tryz.prog 34 #[.agg c.toArray] w fun e w'=>e= .returned (.bool (bD f.body))∧Fr [] w w':=by
 obtain⟨lv,bv,rfl,hi,hb⟩:=h
 have hb2:=hb
 obtain⟨a,cc,rfl⟩:=hi.shape
 obtain⟨a2,cc2,rfl⟩:=an.shape hb
 clear hi hb
 have hS:=St.start [] w
 go_enter Tryz.func34,Tryz.ntmps34
 go_wp2_with (go_at_call 35;refine(D6 _ f.body (eo.fr hb2 (by exact aM))).mono ?_;rintro e w2 ⟨rfl,rfl⟩)
 go_ret
 exact⟨by first|rfl|trivial,by exact aM⟩
theorem yj {w:World} (v:Value) (l:List dh) (h:an 3 ku v l w):Calls Tryz.prog 98 #[v,.func (.func 34) #[] #[]] w fun e w'=>(∃n:Int,e= .returned (.int .i64 n)∧decide (0≤n)=l.any (fun f=>bD f.body))∧Fr [] w w':=by
 have hh:=h
 obtain⟨a,cap,rfl,hl⟩:∃a cap,v= .slice a l.length cap∧l.length≤9223372036854775807:=by
  exact TJ
 clear h
 go_enter Tryz.func98,Tryz.ntmps98
 go_wp2
 go_loopw [8] (fun n wr=>∃(i:Nat),n= .int .i64 i∧i≤l.length∧Fr [] w wr∧Hid (l.any (fun f=>bD f.body)=(l.drop i).any fun f=>bD f.body)) (fun n _=>l.length-(intOf n).toNat)
 case atStart=>exact⟨0,rfl,by omega,Fr.refl _ _,Lib.hid rfl⟩
 case round=>
  obtain⟨i,rfl,hi,hF,hI⟩:=hrel
  by_cases hlt:i<l.length
  ·obtain⟨x,hx⟩:∃t,l[i]? =some t:=⟨l[i],by simp[hlt]⟩
   obtain⟨b,off,cap2,c,hv,hb,hRx,hcl,hc⟩:=an.elem (an.fr dG.fr hh hF) (fun x c h=>dG.len x c _ h) hx
   injection hv with hv1 hv2 hv3
   subst hv1 hv3
   have hRow:=jL hcl hc
   have hsz:(Tryz.prog.info? 55).map (·.size)=some c.length:=by rw[hcl];exact yd
   have hS:St [] wr wr []:=St.start [] wr
   have i1:(i:Int)< (l.length:Int):=by omega
   clear hc
   cases hp:bD x.body
   ·have Hall:=Lib.hid (B7 hI.out hx hp)
    clear hI hx
    go_wp2_with first|(refine bC (ty:=55) rfl rfl rfl q55r rfl ?_;refine Wn ?_)|(go_at_call 34;refine(tN x c hRx).mono ?_;rintro e w2 ⟨rfl,hF2⟩;rw[hp];(try clear hQ);refine cB hF2 fun hS hQ=> ?_)|fail
    exact Xn
   ·have Hall:=Lib.hid (oI hI.out hx hp)
    clear hI hx
    go_wp2_with first|(refine bC (ty:=55) rfl rfl rfl q55r rfl ?_;refine Wn ?_)|(go_at_call 34;refine(tN x c hRx).mono ?_;rintro e w2 ⟨rfl,hF2⟩;rw[hp];(try clear hQ);refine cB hF2 fun hS hQ=> ?_)|fail
    go_ret
    exact⟨⟨_,rfl,by rw[Hall.out];simp⟩,hF.trans (by exact aM)⟩
  ·have hk:i=l.length:=by omega
   subst hk
   have Hall:=Lib.hid (GB hI.out)
   clear hI
   go_wp2
   go_ret
   exact⟨⟨_,rfl,by rw[Hall.out];rfl⟩,hF⟩
theorem pL {w:World} (v:Value) (l:List dh) (h:an 3 ku v l w):Calls Tryz.prog 33 #[v,.func (.func 34) #[] #[]] w fun e w'=>e= .returned (.bool (l.any (fun f=>bD f.body)))∧Fr [] w w':=by
 have hh:=h
 obtain⟨a,cap,rfl⟩:=h.shape
 cases ha:l.any fun f=>bD f.body
 ·have H:=Lib.hid ha
  clear ha
  go_enter Tryz.func33,Tryz.ntmps33
  go_wp2_with (go_at_call 98;refine(yj _ l hh).mono ?_;rintro e w2 ⟨⟨n,rfl,hn⟩,hF2⟩;rw[H.out]at hn;have hn2:¬0≤n:=by simpa using hn)
  go_ret
  exact⟨by first|(simp;done)|(simp;omega),hF2⟩
 ·have H:=Lib.hid ha
  clear ha
  go_enter Tryz.func33,Tryz.ntmps33
  go_wp2_with (go_at_call 98;refine(yj _ l hh).mono ?_;rintro e w2 ⟨⟨n,rfl,hn⟩,hF2⟩;rw[H.out]at hn;have hn2:0≤n:=by simpa using hn)
  go_ret
  exact⟨by first|(simp;done)|(simp;omega),hF2⟩
theorem uI {α:Type} {R:α→List Value→World→Prop} {k:Nat} {v:Value} {xs:List α} {w:World} (h:an k R v xs w):xs.length≤9223372036854775807:=by
 obtain⟨cs,⟨_,_,a,cap,e,h4,h5,_⟩,_⟩:=h
 unfold maxLen at h5
 omega
set_option maxHeartbeats 6400000
theorem jN {w:World} {m:aV} {c:List Value} (h:cI c m w):Calls Tryz.prog 7 #[.agg c.toArray] w fun e w'=>(∃n:Int,e= .returned (.int .i64 n))∧Fr [] w w':=by
 obtain⟨ty,im,fu,ta,me,tg,gl,ex,el,da,rfl,h0,h1,h2,h3,h4,h5,h6,h7,h9,h10⟩:=h
 have m0:=uI h0
 have m2:=uI h2
 have m9:=uI h9
 have m10:=uI h10
 have k0:=h0
 have k2:=h2
 have k9:=h9
 have k10:=h10
 obtain⟨a0,c0,rfl⟩:=h0.shape
 obtain⟨a1,c1,rfl⟩:=h1.shape
 obtain⟨a2,c2,rfl⟩:=h2.shape
 obtain⟨a3,c3,rfl⟩:=h3.shape
 obtain⟨a4,c4,rfl⟩:=h4.shape
 obtain⟨a5,c5,rfl⟩:=h5.shape
 obtain⟨a6,c6,rfl⟩:=h6.shape
 obtain⟨a7,c7,rfl⟩:=h7.shape
 obtain⟨a9,c9,rfl⟩:=h9.shape
 obtain⟨a10,c10,rfl⟩:=h10.shape
 clear h0 h1 h2 h3 h4 h5 h6 h7 h9 h10
 have hS:=St.start [] w
 go_enter Tryz.func7,Tryz.ntmps7
 go_wp2
 have hS:=St.alloc hS [.slice a0 m.types.length c0,.slice a1 m.imports.length c1,.slice a2 m.funcs.length c2,.slice a3 m.tables.length c3,.slice a4 m.mems.length c4,.slice a5 m.tags.length c5,.slice a6 m.globals.length c6,.slice a7 m.exports.length c7,.int .i64 m.start,.slice a9 m.elems.length c9,.slice a10 m.datas.length c10] 33
 go_loopw [3,4] (fun a u wr=>∃(i:Nat) (n:Int),a= .int .i64 n∧u= .int .i64 i∧i≤m.types.length∧St [] w wr [.loc w.heap.size [.slice a0 m.types.length c0,.slice a1 m.imports.length c1,.slice a2 m.funcs.length c2,.slice a3 m.tables.length c3,.slice a4 m.mems.length c4,.slice a5 m.tags.length c5,.slice a6 m.globals.length c6,.slice a7 m.exports.length c7,.int .i64 m.start,.slice a9 m.elems.length c9,.slice a10 m.datas.length c10] 33]) (fun _ u _=>m.types.length-(intOf u).toNat)
 case atStart=>exact⟨0,_,rfl,rfl,by omega,hS⟩
 case round=>
  obtain⟨i,n,rfl,rfl,hi,hS⟩:=hrel
  (try clear hQ);have hQ:=St.fq hS
  by_cases hlt:i<m.types.length
  ·obtain⟨x,hx⟩:∃t,m.types[i]? =some t:=⟨m.types[i],by simp[hlt]⟩
   obtain⟨b,off,cap2,c,hv,hb,hR,hcl,hc⟩:=an.elem (an.fr gv.fr k0 hS.fr) (fun x c h=>gv.len x c _ h) hx
   injection hv with hv1 hv2 hv3
   subst hv1 hv3
   obtain⟨v,rfl,hR⟩:=hR
   obtain⟨b2,d2,rfl⟩:=(mF hR).shape
   have e0:=hc 0 (by decide)
   simp only[Nat.mul_one,Nat.add_zero,List.getElem?_cons_zero]at e0
   have i1:(i:Int)< (m.types.length:Int):=by omega
   clear hc
   exact WQ
  ·have hk:i=m.types.length:=by omega
   subst hk
   clear hlt
   go_wp2
   go_loopw [3,5] (fun a u wr=>∃(i:Nat) (n:Int),a= .int .i64 n∧u= .int .i64 i∧i≤m.funcs.length∧St [] w wr [.loc w.heap.size [.slice a0 m.types.length c0,.slice a1 m.imports.length c1,.slice a2 m.funcs.length c2,.slice a3 m.tables.length c3,.slice a4 m.mems.length c4,.slice a5 m.tags.length c5,.slice a6 m.globals.length c6,.slice a7 m.exports.length c7,.int .i64 m.start,.slice a9 m.elems.length c9,.slice a10 m.datas.length c10] 33]) (fun _ u _=>m.funcs.length-(intOf u).toNat)
   case atStart=>exact⟨0,_,rfl,rfl,by omega,hS⟩
   case round=>
    obtain⟨i,n,rfl,rfl,hi,hS⟩:=hrel
    (try clear hQ);have hQ:=St.fq hS
    by_cases hlt:i<m.funcs.length
    ·obtain⟨x,hx⟩:∃t,m.funcs[i]? =some t:=⟨m.funcs[i],by simp[hlt]⟩
     obtain⟨b,off,cap2,c,hv,hb,hR,hcl,hc⟩:=an.elem (an.fr dG.fr k2 hS.fr) (fun x c h=>dG.len x c _ h) hx
     injection hv with hv1 hv2 hv3
     subst hv1 hv3
     obtain⟨lv,bv,rfl,hR1,hR2⟩:=hR
     obtain⟨b2,d2,rfl⟩:=hR1.shape
     obtain⟨b3,d3,rfl⟩:=an.shape hR2
     have e0:=hc 1 (by decide)
     have e1:=hc 2 (by decide)
     simp only[←Nat.add_assoc,List.getElem?_cons_zero,List.getElem?_cons_succ]at e0 e1
     have i1:(i:Int)< (m.funcs.length:Int):=by omega
     clear hc
     go_wp2
     go_region_held3 (fun w'=>w'.cell? ⟨w.heap.size,2,none⟩=some (.slice (some ⟨b,off,none⟩) m.funcs.length c2)∧w'.cell? ⟨b,off+i*3+1,none⟩=some (.slice b2 x.locals.length d2)∧w'.cell? ⟨b,off+i*3+2,none⟩=some (.slice b3 x.body.length d3)) (first|(go_keep;done)|(simp[hQ,e0,e1];done)) (first|fail)
     exact WQ
    ·have hk:i=m.funcs.length:=by omega
     subst hk
     clear hlt
     go_wp2
     go_loopw [3,6] (fun a u wr=>∃(i:Nat) (n:Int),a= .int .i64 n∧u= .int .i64 i∧i≤m.elems.length∧St [] w wr [.loc w.heap.size [.slice a0 m.types.length c0,.slice a1 m.imports.length c1,.slice a2 m.funcs.length c2,.slice a3 m.tables.length c3,.slice a4 m.mems.length c4,.slice a5 m.tags.length c5,.slice a6 m.globals.length c6,.slice a7 m.exports.length c7,.int .i64 m.start,.slice a9 m.elems.length c9,.slice a10 m.datas.length c10] 33]) (fun _ u _=>m.elems.length-(intOf u).toNat)
     case atStart=>exact⟨0,_,rfl,rfl,by omega,hS⟩
     case round=>
      obtain⟨i,n,rfl,rfl,hi,hS⟩:=hrel
      (try clear hQ);have hQ:=St.fq hS
      by_cases hlt:i<m.elems.length
      ·obtain⟨x,hx⟩:∃t,m.elems[i]? =some t:=⟨m.elems[i],by simp[hlt]⟩
       obtain⟨b,off,cap2,c,hv,hb,hR,hcl,hc⟩:=an.elem (an.fr fH.fr k9 hS.fr) (fun x c h=>fH.len x c _ h) hx
       injection hv with hv1 hv2 hv3
       subst hv1 hv3
       obtain⟨iv,ov,rfl,hR1,hR2⟩:=hR
       obtain⟨b2,d2,rfl⟩:=hR1.shape
       have e0:=hc 4 (by decide)
       simp only[←Nat.add_assoc,cj,List.cons_append,List.nil_append,List.getElem?_cons_zero,List.getElem?_cons_succ]at e0
       have i1:(i:Int)< (m.elems.length:Int):=by omega
       clear hc
       exact WQ
      ·have hk:i=m.elems.length:=by omega
       subst hk
       clear hlt
       go_wp2
       go_loopw [3,7] (fun a u wr=>∃(i:Nat) (n:Int),a= .int .i64 n∧u= .int .i64 i∧i≤m.datas.length∧St [] w wr [.loc w.heap.size [.slice a0 m.types.length c0,.slice a1 m.imports.length c1,.slice a2 m.funcs.length c2,.slice a3 m.tables.length c3,.slice a4 m.mems.length c4,.slice a5 m.tags.length c5,.slice a6 m.globals.length c6,.slice a7 m.exports.length c7,.int .i64 m.start,.slice a9 m.elems.length c9,.slice a10 m.datas.length c10] 33]) (fun _ u _=>m.datas.length-(intOf u).toNat)
       case atStart=>exact⟨0,_,rfl,rfl,by omega,hS⟩
       case round=>
        obtain⟨i,n,rfl,rfl,hi,hS⟩:=hrel
        (try clear hQ);have hQ:=St.fq hS
        by_cases hlt:i<m.datas.length
        ·obtain⟨x,hx⟩:∃t,m.datas[i]? =some t:=⟨m.datas[i],by simp[hlt]⟩
         obtain⟨b,off,cap2,c,hv,hb,hR,hcl,hc⟩:=an.elem (an.fr gP.fr k10 hS.fr) (fun x c h=>gP.len x c _ h) hx
         injection hv with hv1 hv2 hv3
         subst hv1 hv3
         obtain⟨ov,bv,rfl,hR1,hR2⟩:=hR
         obtain⟨b2,d2,rfl⟩:=hR2.shape
         have e0:=hc 3 (by decide)
         simp only[←Nat.add_assoc,List.getElem?_cons_zero,List.getElem?_cons_succ]at e0
         have i1:(i:Int)< (m.datas.length:Int):=by omega
         clear hc
         exact WQ
        ·have hk:i=m.datas.length:=by omega
         subst hk
         clear hlt
         go_wp2
         go_ret
         exact⟨⟨_,rfl⟩,by exact aM⟩
end Go.Proofs.YtpdlmdlkecnpgaaGreatDoor
