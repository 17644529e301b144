/- Texts: IbOp IbStep. -/
import Derived.Test.YtpdlmdlkecnpgaaGreatDoorH0
import Derived.Test.YtpdlmdlkecnpgaaGreatDoorH8
import Derived.Test.YtpdlmdlkecnpgaaGreatDoorH7
set_option linter.unusedSimpArgs false
set_option linter.unusedVariables false
namespace Go.Proofs.YtpdlmdlkecnpgaaGreatDoor
open Go.RowKit
theorem Yj (c n:Nat) (hc:c=251∨c=252) (hn:n≤255):bits .or .i64 (c*256) n=c*256+n:=by
 have h1:∀n∈List.range 256,bits .or .i64 (((251:Nat):Int)*256) (n:Int)=((251:Nat):Int)*256+n∧bits .or .i64 (((252:Nat):Int)*256) (n:Int)=((252:Nat):Int)*256+n:=by decide+kernel
 have h2:=h1 n (List.mem_range.2 (by omega))
 rcases hc with rfl|rfl
 ·exact h2.1
 ·exact h2.2
set_option maxRecDepth 100000
set_option maxHeartbeats 1600000
theorem tu {S w rb bv bs s} (h:Rd S w rb bv bs s) (hg:cq S w):Calls Tryz.prog 274 #[.pointer (some ⟨rb,0,none⟩)] w fun e w'=>e= .returned (.int .i64 (bA bs s).1)∧Rd S w' rb bv bs (bA bs s).2∧Fr [rb] w w':=by
 have hS:=dj.start h
 have hb:=kV bs s
 have hu:=pX bs (ai bs s).2
 by_cases h1:(ai bs s).1=251∨(ai bs s).1=252
 ·by_cases h2:255< (rU bs 32 (ai bs s).2).1
  ·have e0:bA bs s=(0,(rU bs 32 (ai bs s).2).2.fail 60 s.at_):=by unfold bA;rw[if_pos h1,if_pos h2]
   rw[e0]
   have i2:(255:Int)< ((rU bs 32 (ai bs s).2).1:Nat):=by omega
   have q:((((ai bs s).1:Nat):Int)==251)=true∨((((ai bs s).1:Nat):Int)==251)=false∧((((ai bs s).1:Nat):Int)==252)=true:=by simp;omega
   clear e0 h1 h2
   exact xI
  ·have i2:¬(255:Int)< ((rU bs 32 (ai bs s).2).1:Nat):=by omega
   have q:((((ai bs s).1:Nat):Int)==251)=true∨((((ai bs s).1:Nat):Int)==251)=false∧((((ai bs s).1:Nat):Int)==252)=true:=by simp;omega
   have hor:=Yj _ _ h1 (by omega:(rU bs 32 (ai bs s).2).1≤255)
   have e0:bA bs s=je ((ai bs s).1*256+(rU bs 32 (ai bs s).2).1) s.at_ (rU bs 32 (ai bs s).2).2:=by unfold bA;rw[if_pos h1,if_neg h2]
   rw[e0]
   unfold je
   have i3:(((ai bs s).1:Nat):Int)*256+((rU bs 32 (ai bs s).2).1:Nat)<65536:=by omega
   have i4:0≤(((ai bs s).1:Nat):Int)*256+((rU bs 32 (ai bs s).2).1:Nat):=by omega
   generalize (((ai bs s).1:Nat):Int)*256+((rU bs 32 (ai bs s).2).1:Nat)=op at hor i3 i4⊢
   clear e0 h1 h2
   cases hk:iM op
   ·by_cases hs:ag op=0
    ·have qs:(ag op==0)=true:=by simp[hs]
     rw[if_neg (by simp),if_pos hs]
     clear hs
     exact xI
    ·have qs:(ag op==0)=false:=by simp[hs]
     rw[if_neg (by simp),if_neg hs]
     clear hs
     exact xI
   ·rw[if_pos rfl]
    exact xI
 ·have e0:bA bs s=je (ai bs s).1 s.at_ (ai bs s).2:=by unfold bA;rw[if_neg h1]
  have q1:((((ai bs s).1:Nat):Int)==251)=false:=by simp;omega
  have q2:((((ai bs s).1:Nat):Int)==252)=false:=by simp;omega
  rw[e0]
  unfold je
  clear e0 h1
  cases hk:iM ((ai bs s).1:Nat)
  ·by_cases hs:ag ((ai bs s).1:Nat)=0
   ·have qs:(ag ((ai bs s).1:Nat)==0)=true:=by simp[hs]
    rw[if_neg (by simp),if_pos hs]
    clear hs
    exact W8
   ·have qs:(ag ((ai bs s).1:Nat)==0)=false:=by simp[hs]
    rw[if_neg (by simp),if_neg hs]
    clear hs
    exact W8
  ·rw[if_pos rfl]
   exact W8
theorem sT {S:List Nat} {w0 w:World} {rb:Nat} {bv:Value} {bs:List UInt8} {s:ax} {G:List bt} {ib:Nat} {op:Int} (hS:dj S w0 w rb bv bs s (.loc ib (cp (aa.of op) (.slice none 0 0) (.slice none 0 0) (.slice none 0 0)) 177::G)):
 Calls Tryz.prog 277 #[.pointer (some ⟨rb,0,none⟩),.pointer (some ⟨ib,0,none⟩)] w fun e w'=>e= .returned (.tuple #[])∧
  dj S w0 w' rb bv bs (rU bs 64 (gX bs s).2).2 (.loc ib (cp ({aa.of op with x:=(gX bs s).1.1,y:=(gX bs s).1.2,u:=(rU bs 64 (gX bs s).2).1}:aa) (.slice none 0 0) (.slice none 0 0) (.slice none 0 0)) 177::G):=by
 have hlt:=pX bs s
 unfold cp aa.of at hS
 (try clear hQ);have hQ:=St.fq hS.st;(try clear hN);have hN:=St.aq hS.st
 have eX:lR bs s=((aD bs s).1,if 127< (aD bs s).1 then(aD bs s).2.fail 60 s.at_ else(aD bs s).2):=rfl
 have hn:(aD bs s).1=((rU bs 32 s).1:Nat):=rfl
 by_cases h1:127< (aD bs s).1
 ·rw[if_pos h1]at eX
  have eY:gX bs s=(((aD bs s).1-64,(aD bs ((aD bs s).2.fail 60 s.at_)).1),(aD bs ((aD bs s).2.fail 60 s.at_)).2):=by unfold gX;rw[eX,if_pos (by simp only;omega)]
  rw[eY]
  have hw:=IntWalk.wrap64_in ((aD bs s).1-64) (by omega)
  have i2:64≤(aD bs s).1:=by omega
  exact W5
 ·rw[if_neg h1]at eX
  by_cases h2:64≤(aD bs s).1
  ·have eY:gX bs s=(((aD bs s).1-64,(aD bs (aD bs s).2).1),(aD bs (aD bs s).2).2):=by unfold gX;rw[eX,if_pos h2]
   rw[eY]
   have hw:=IntWalk.wrap64_in ((aD bs s).1-64) (by omega)
   exact W5
  ·have eY:gX bs s=(((aD bs s).1,0),(aD bs s).2):=by unfold gX;rw[eX,if_neg h2]
   rw[eY]
   exact W5
theorem r8:Tryz.prog.underlying 308=some (.slice 4):=by kernel_rfl
theorem yD:(Tryz.prog.info? 4).map (fun i=>(i.zero,i.size,i.bytes))=some (some (.bool false),1,1):=by kernel_rfl
theorem BL {w:World} {ops:Array Oper} {rest:List Oper} {o:Oper} {a:Act} {Q:Exit→Act→World→Prop} {s x:Operand} {v xv:Value} (hgd:o.guard=none)
 (ho:o.op= .call {callee:= .builtin .append,args:= #[s,x],argTypes:= #[308,308]}) (hs:a.eval s=v) (hx:a.eval x=xv)
 (h:∃S w0 G G' n xs m news,St S w0 w G∧nT 4 1 G v n xs G'∧oK 4 1 G w xv m news∧n+m≤549755813888∧
  ∀v' w',St S w0 w' (.own 4 1 v' (n+m) (xs++news)::G')→wpList Tryz.prog ops Q rest (a.put o.dst v') w'):
 wpList Tryz.prog ops Q (o::rest) a w:=by
 obtain⟨i0,hi,hz0,hz1,hz2⟩:=info_parts yD
 exact P4 hgd ho hs hx r8 r8 hi hz0 hz1 hz2 rfl (by decide) (by decide) h
def gd (n:List Bool):List Value:=n.reverse.map Value.bool
theorem pz (n:List Bool):(gd n).length=n.length:=by simp[gd]
theorem gH (b:Bool) (n:List Bool):gd (b::n)=gd n++ [.bool b]:=by simp[gd]
theorem Kv (b:Bool) (n:List Bool):(gd (b::n))[n.length]? =some (.bool b):=by
 rw[gH,List.getElem?_append_right (by rw[pz];exact Nat.le_refl _),pz,Nat.sub_self]
 rfl
theorem zo (b c:Bool) (n:List Bool):(gd (b::n)).set n.length (.bool c)=gd (c::n):=by
 rw[gH,gH,List.set_append,pz]
 simp
theorem vG (b:Bool) (n:List Bool):(gd (b::n)).take (n.length*1)=gd n:=by
 rw[gH,Nat.mul_one,←pz n,List.take_append_of_le_length (Nat.le_refl _),List.take_length]
theorem bf.nest {w:World} {v:Value} {b:Bool} {r:List Bool} (h:bf [] w 4 1 v (b::r).length (gd (b::r))):
 ∃g c,v= .slice (some ⟨g,0,none⟩) (r.length+1) c∧g<w.heap.size∧w.cell? ⟨g,r.length,none⟩=some (.bool b)∧w.frozen? ⟨g,r.length,none⟩=false∧r.length+1≤c:=by
 obtain⟨k1,k2,k3⟩:=h
 rcases k3 with⟨k3,k4⟩|⟨g,cap,cur,k3,kg,kh,k4,k5,k6,k7⟩
 ·simp at k4
 ·refine⟨g,cap,k3,kh.lt,?_,kh.frozen (by simp at k4;omega),by simpa using k4⟩
  rw[kh.cell]
  have k8:=Kv b r
  rw[←k7,List.getElem?_take,if_pos (by simp)]at k8
  simpa using k8
theorem FS {w:World} {nb:Nat} {v:Value} {n:List Bool} (hl:bB w nb [v] 308) (ho:bf [] w 4 1 v n.length (gd n)) (hn:n.length≤549755813000) {op:Int} (hs:kp n op=none):
 Calls Tryz.prog 241 #[.pointer (some ⟨nb,0,none⟩),.int .i64 op] w fun e w'=>e= .returned (.bool false)∧Fr [] w w':=by
 have hC:=hl.cell
 have hT:=hl.lt
 unfold kp at hs
 by_cases h1:op=2∨op=3∨op=31
 ·rw[if_pos h1]at hs;cases hs
 ·rw[if_neg h1]at hs
  have q2:(op==2)=false:=by simp;omega
  have q3:(op==3)=false:=by simp;omega
  have q31:(op==31)=false:=by simp;omega
  by_cases h4:op=4
  ·rw[if_pos h4]at hs;cases hs
  ·rw[if_neg h4]at hs
   have q4:(op==4)=false:=by simp;omega
   by_cases h5:op=5
   ·rw[if_pos h5]at hs
    have q5:(op==5)=true:=by simp;omega
    match n,hs with
    | [],_=>
     obtain⟨a0,c0,rfl,hc0,_⟩:=bf.shape ho
     clear h1 h4 h5
     go_enter Tryz.func241,Tryz.ntmps241
     go_wp2
     go_ret
     exact⟨rfl,Fr.refl _ _⟩
    |false::r,_=>
     obtain⟨g,c,rfl,hg,hd,hz,hc⟩:=ho.nest
     have hw:wrap64 (r.length:Int)=r.length:=IntWalk.wrap64_in _ (by simp at hn;omega)
     clear h1 h4 h5
     go_enter Tryz.func241,Tryz.ntmps241
     go_wp2
     go_ret
     exact⟨rfl,Fr.refl _ _⟩
    |true::r,hs=>cases hs
   ·rw[if_neg h5]at hs
    have q5:(op==5)=false:=by simp;omega
    by_cases h11:op=11
    ·rw[if_pos h11]at hs
     have q11:(op==11)=true:=by simp;omega
     match n,hs with
     | [],_=>
      obtain⟨a0,c0,rfl,hc0,_⟩:=bf.shape ho
      clear h1 h4 h5 h11
      go_enter Tryz.func241,Tryz.ntmps241
      go_wp2
      go_ret
      exact⟨rfl,Fr.refl _ _⟩
     | _:: _,hs=>cases hs
    ·rw[if_neg h11]at hs;cases hs
theorem Ok {S:List Nat} {w0 w:World} {G:List bt} {nb:Nat} {v:Value} {n m:List Bool} (hS:St S w0 w (.loc nb [v] 308:: .own 4 1 (v) (n).length (gd (n))::G)) (hn:n.length≤549755813000) {op:Int} (hs:kp n op=some m):
 Calls Tryz.prog 241 #[.pointer (some ⟨nb,0,none⟩),.int .i64 op] w fun e w'=>∃v',e= .returned (.bool true)∧St S w0 w' (.loc nb [v'] 308:: .own 4 1 (v') (m).length (gd (m))::G):=by
 have hl:=hS.head
 have ho:=hS.tail.head
 have hC:=hl.cell
 have hT:=hl.lt
 unfold kp at hs
 by_cases h1:op=2∨op=3∨op=31
 ·rw[if_pos h1]at hs
  injection hs with hs
  subst hs
  obtain⟨a0,c0,rfl,hc0,_⟩:=bf.shape ho
  have q:((op==2)=true)∨((op==2)=false∧(op==3)=true)∨((op==2)=false∧(op==3)=false∧(op==31)=true):=by simp;omega
  clear h1 hl ho
  rcases q with q2|⟨q2,q3⟩|⟨q2,q3,q31⟩
  all_goals
   go_enter Tryz.func241,Tryz.ntmps241
   go_wp2_with (at_builtin;refine BL rfl rfl rfl rfl ?_;refine XQ ?_;intro vN wN hS;obtain⟨aN,cN,rfl,_,_⟩:=bf.shape hS.head;(try clear hQ);have hQ:=St.fq hS)
   go_ret
   refine⟨.slice aN (n.length+1) cN,rfl,?_⟩
   rw[gH]
   exact(hS.set (by exact aK) 0 (.slice aN (n.length+1) cN)).sel (by exact ic)
 ·rw[if_neg h1]at hs
  have q2:(op==2)=false:=by simp;omega
  have q3:(op==3)=false:=by simp;omega
  have q31:(op==31)=false:=by simp;omega
  by_cases h4:op=4
  ·rw[if_pos h4]at hs
   injection hs with hs
   subst hs
   obtain⟨a0,c0,rfl,hc0,_⟩:=bf.shape ho
   have q4:(op==4)=true:=by simp;omega
   clear h1 h4 hl ho
   go_enter Tryz.func241,Tryz.ntmps241
   go_wp2_with (at_builtin;refine BL rfl rfl rfl rfl ?_;refine XQ ?_;intro vN wN hS;obtain⟨aN,cN,rfl,_,_⟩:=bf.shape hS.head;(try clear hQ);have hQ:=St.fq hS)
   go_ret
   refine⟨.slice aN (n.length+1) cN,rfl,?_⟩
   rw[gH]
   exact(hS.set (by exact aK) 0 (.slice aN (n.length+1) cN)).sel (by exact ic)
  ·rw[if_neg h4]at hs
   have q4:(op==4)=false:=by simp;omega
   by_cases h5:op=5
   ·rw[if_pos h5]at hs
    have q5:(op==5)=true:=by simp;omega
    match n,hs with
    |true::r,hs=>
     injection hs with hs
     subst hs
     obtain⟨g,c,rfl,hg,hd,hz,hc⟩:=ho.nest
     have hw:wrap64 (r.length:Int)=r.length:=IntWalk.wrap64_in _ (by simp at hn;omega)
     have hZ:=hl.frz
     clear h1 h4 h5
     go_enter Tryz.func241,Tryz.ntmps241
     go_wp2
     go_ret
     refine⟨.slice (some ⟨g,0,none⟩) (r.length+1) c,rfl,?_⟩
     have h1:=(hS.pick (.there .here)).turn (S':= []) (r':= .own 4 1 (.slice (some ⟨g,0,none⟩) (r.length+1) c) (r.length+1) ((gd (true::r)).set r.length (.bool false))) (by simpa [bt.blk,Value.blk]using (Fr.refl [g] w).setCell (p:=⟨g,r.length,none⟩) (by simp) (.bool false)) (by simp) (ho.setAt (by simp) rfl) (fun b hb=> .inl hb)
     rw[zo]at h1
     exact h1.pick (.there .here)
    |false::r,hs=>cases hs
    | [],hs=>cases hs
   ·rw[if_neg h5]at hs
    have q5:(op==5)=false:=by simp;omega
    by_cases h11:op=11
    ·rw[if_pos h11]at hs
     have q11:(op==11)=true:=by simp;omega
     match n,hs with
     |x::r,hs=>
      injection hs with hs
      subst hs
      obtain⟨g,c,rfl,hg,hd,hz,hc⟩:=ho.nest
      have hw:wrap64 (r.length:Int)=r.length:=IntWalk.wrap64_in _ (by simp at hn;omega)
      have hZ:=hl.frz
      have hc2:(r.length:Int)≤(c:Int):=by omega
      clear h1 h4 h5 h11
      go_enter Tryz.func241,Tryz.ntmps241
      go_wp2
      go_ret
      refine⟨.slice (some ⟨g,0,none⟩) r.length c,rfl,?_⟩
      have h1:=(hS.pick (.there .here)).turn (S':= []) (r':= .own 4 1 (.slice (some ⟨g,0,none⟩) r.length c) r.length ((gd (x::r)).take (r.length*1))) (Fr.refl _ _) (by simp) (ho.take (by simp)) (fun b hb=> .inl hb)
      rw[vG]at h1
      exact(h1.set (.there .here) 0 (.slice (some ⟨g,0,none⟩) r.length c))
     | [],hs=>cases hs
    ·exact XJ
theorem EC (w:World):St [] w (w.alloc (.cells #[.slice none 0 0] 308)) [.loc w.heap.size [.slice none 0 0] 308,.own 4 1 ((.slice none 0 0)) (([]:List Bool)).length (gd (([]:List Bool)))]:=by
 have h:=((St.start [] w).alloc [.slice none 0 0] 308).put (r:= .own 4 1 ((.slice none 0 0)) (([]:List Bool)).length (gd (([]:List Bool)))) (bf.nil _ _ _ _) (fun b hb=>by cases hb) (fun b hb=>by cases hb)
 exact h.pick (.there .here)
theorem zv {n m:List Bool} {op:Int} (h:kp n op=some m):m.length≤n.length+1:=by
 unfold kp at h
 split at h
 ·injection h with h;subst h;simp
 ·split at h
  ·injection h with h;subst h;simp
  ·split at h
   ·split at h
    ·injection h with h;subst h;simp
    ·cases h
   ·split at h
    ·split at h
     ·injection h with h;subst h;simp;omega
     ·cases h
    ·injection h with h;subst h;omega
theorem qB (w:World) (v:Value) (is:List aa) (cs:List Value) (hv:Sl [] w 19 v is.length cs) (hi:dP [] w is cs) (hb:is.length≤549755813000):
 Calls Tryz.prog 186 #[v] w fun e w'=>e= .returned (.bool (jI is))∧Fr [] w w':=by
 have hh:=hv
 obtain⟨a0,c0,rfl⟩:=hv.shape
 have hstart:=EC w
 go_enter Tryz.func186,Tryz.ntmps186
 go_wp2
 go_loopw [7] (fun a wr=>∃(k:Nat),a= .int .i64 k∧k≤is.length∧∃u n,St [] w wr [.loc w.heap.size [u] 308,.own 4 1 (u) (n).length (gd (n))]∧n.length≤k∧Hid (jZ n (is.drop k)=jZ [] is)) (fun a _=>is.length-(intOf a).toNat)
 case atStart=>exact⟨0,rfl,by omega,_,[],hstart,by simp,Lib.hid rfl⟩
 case round=>
  obtain⟨k,rfl,hk,u,n,hS,hn,hI⟩:=hrel
  (try clear hQ);have hQ:=St.fq hS
  by_cases hlt:k<is.length
  ·obtain⟨i,hi1⟩:∃t,is[k]? =some t:=⟨is[k],by simp[hlt]⟩
   obtain⟨b1,o1,p1,tv,lv,cv,hv1,hb1,_,_,hd1⟩:=Sl.ins_elem hh hi k i hi1
   injection hv1 with e1 _ e3
   subst e1 e3
   have f1:=(hS.fr.cell hb1 (by simp) _).trans (hd1 0 (by decide))
   simp only[Nat.add_zero,cp,List.getElem?_cons_zero]at f1
   have i1:(k:Int)< (is.length:Int):=by omega
   have hdrop:is.drop k=i::is.drop (k+1):=by
    rw[List.drop_eq_getElem_cons hlt]
    congr 1
    have:=List.getElem?_eq_getElem hlt
    rw[this]at hi1
    injection hi1
   rw[hdrop]at hI
   clear hd1 hdrop hi1
   cases hst:kp n i.op with
   |none=>
    have e:jI is=false:=by
     unfold jI
     rw[←hI.out]
     simp[jZ,hst]
    have E:=Lib.hid e
    have Hst:=Lib.hid hst
    clear e hI hst
    have hLoc:bB wr _ [u] _:=hS.head
    have hOwn:bf [] wr _ _ u _ _:=hS.tail.head
    go_wp2_with (go_at_call 241;(with_reducible refine(FS hLoc hOwn (by omega) Hst.out).mono ?_);rintro e w1 ⟨rfl,hF⟩)
    go_ret
    exact⟨by rw[E.out];rfl,hS.fr.trans hF⟩
   |some m=>
    have e:jZ m (is.drop (k+1))=jZ [] is:=by
     rw[←hI.out]
     simp[jZ,hst]
    have hm:=zv hst
    have E:=Lib.hid e
    have Hst:=Lib.hid hst
    clear e hI hst
    go_wp2_with (go_at_call 241;(with_reducible refine(Ok hS (by omega) Hst.out).mono ?_);rintro e w1 ⟨u',rfl,hS⟩;(try clear hQ);have hQ:=St.fq hS)
    go_roundw
    case rel=>exact⟨k+1,by go_num,by omega,u',m,hS,by omega,E⟩
    case measure=>simp[intOf];omega
  ·have hk2:k=is.length:=by omega
   subst hk2
   rw[List.drop_length]at hI
   obtain⟨a1,c1,rfl,_,_⟩:=bf.shape hS.tail.head
   have e:jI is=(((n.length:Nat):Int)==0):=by
    unfold jI
    rw[←hI.out]
    cases n with
    |nil=>rfl
    |cons b n=>
     have:(((b::n).length:Nat):Int)≠0:=by simp;omega
     simp[jZ]
     omega
   have E:=Lib.hid e
   clear e hI
   (try clear hQ);have hQ:=St.fq hS
   go_wp2
   go_ret
   exact⟨by rw[E.out];rfl,hS.fr⟩
end Go.Proofs.YtpdlmdlkecnpgaaGreatDoor
