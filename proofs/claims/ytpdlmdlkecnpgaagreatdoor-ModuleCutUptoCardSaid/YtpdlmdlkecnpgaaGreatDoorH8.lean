/- Texts: ArgA RdWB OpsW IbK IbRd IbinL IbinL2 IbinL3 IbinL4 IbOne. -/
import Derived.Test.YtpdlmdlkecnpgaaGreatDoorH0
import Derived.Test.YtpdlmdlkecnpgaaGreatDoorH3
import Derived.Deep.Slices
import Derived.Lib.SmallJoins
import Derived.Test.YtpdlmdlkecnpgaaGreatDoorH6
import Derived.Test.YtpdlmdlkecnpgaaGreatDoorH7
import Derived.Lib.Bytealg
import Derived.Laws.Externs
import Derived.Laws.StandIn
import Derived.IntWalk
import Derived.Test.YtpdlmdlkecnpgaaGreatDoorH4
import Derived.Great.BuildSlice
set_option linter.unusedSimpArgs false
set_option linter.unusedVariables false
namespace Go.Proofs.YtpdlmdlkecnpgaaGreatDoor
open Go.ChangeShapes Go.WideShapes Go.ChangeAt Go.RowKit Go.Joins
theorem JA {α:Type} (f:α→List Value) (k:Nat) (hk:∀t,(f t).length=k):∀(ts:List α) (i:Nat) (t:α),ts[i]? =some t→∀r,r<k→(ts.flatMap f)[i*k+r]? =(f t)[r]? :=by
 exact X8
section
set_option maxRecDepth 100000
variable {H : Type} {enc : TypeId × Value → H} {P : Program} {w : World} {sp : Nat → Bool} {held : Bool}
theorem ru (b off j:Nat):(⟨b,off,none⟩:Addr).add j=⟨b,off+j,none⟩:=by unfold Addr.add;split<;>simp_all
theorem xT {α:Type} [Inhabited α] (f:α→List Value) (k:Nat) (Q:α→Prop) {t e:TypeId} (ht:P.underlying t=some (.slice e)) (hk:P.cellsOf e=k) (hk0:0<k) (hf:∀a,(f a).length=k) (h1:∀a,Q a→∀u∈f a,u.oneCell'=true)
 (hel:∀fuel cs x,DataW.trod enc P w 0 sp held fuel e cs=some x→∃a,cs=f a∧Q a) {fuel:Nat} {cs:List Value} {x:DataW H×List MemPlace} (h:DataW.trod enc P w 0 sp held fuel t cs=some x):
 ∃(v:Value) (l:List α),cs= [v]∧Sl [] w k v l.length (l.flatMap f)∧(∀a,a∈l→Q a):=by
 rcases Go.Deep.open_slice ht h with⟨rfl,_⟩|⟨a,len,cap,m,n,D,Pl,rfl,_,hl,hm,hmm,_,hx⟩
 ·exact⟨_,[],rfl,Sl.nil _ _ _,fun _ h=>by cases h⟩
 ·have hlm:len≤m:=by rw[hmm];split<;>omega
  obtain⟨A,hA⟩:=Go.Deep.choose_lt (α:=α) (p:=fun i b=>w.cells? 0 (a.add (i*P.cellsOf e)) (P.cellsOf e)=some (f b)∧Q b) (n:=m) (fun i hi=>by
   obtain⟨cs',c1,c2⟩:=hx i hi
   obtain⟨a',rfl,q⟩:=hel _ _ _ c2
   exact⟨a',c1,q⟩)
  rw[hk]at hA
  have hLen:((List.range len).map A).length=len:=by simp
  have hQ:∀a',a'∈(List.range len).map A→Q a':=by
   intro a' ha'
   obtain⟨i,hi,rfl⟩:=List.mem_map.1 ha'
   exact(hA i (by have:=List.mem_range.1 hi;omega)).2
  refine⟨_,(List.range len).map A,rfl,?_,hQ⟩
  rw[hLen]
  refine⟨?_,?_,some a,cap,rfl,hl,hm,fun h=>(by cases h),?_⟩
  ·have:∀(l:List α),(l.flatMap f).length=l.length*k:=by
    intro l
    induction l with
    |nil=>simp
    |cons b l ih=>rw[List.flatMap_cons,List.length_append,hf,ih,List.length_cons,Nat.add_mul];omega
   rw[this,hLen]
  ·intro u hu
   obtain⟨a',ha',hu⟩:=List.mem_flatMap.1 hu
   exact h1 a' (hQ a' ha') u hu
  ·by_cases h0:len=0
   ·exact .inl h0
   ·right
    obtain⟨b,off,spot⟩:=a
    have hcell:∀i,i<len→∀r,r<k→w.cell? (((⟨b,off,spot⟩:Addr).add (i*k)).add r)=(f (A i))[r]? :=fun i hi r hr=>(World.cells?_some (hA i (by omega)).1).2.2 r hr
    have hspot:spot=none:=by
     have hc0:=hcell 0 (by omega) 0 hk0
     rw[List.getElem?_eq_getElem (by rw[hf];exact hk0)]at hc0
     simpa [Addr.add]using World.cell?_spot hc0
    subst hspot
    have hcell':∀i,i<len→∀r,r<k→w.cell? ⟨b,off+(i*k+r),none⟩=(f (A i))[r]? :=fun i hi r hr=>by
     rw[←hcell i hi r hr,ru,ru,Nat.add_assoc]
    refine⟨b,off,rfl,by simp,?_,fun j hj=> ?_⟩
    ·have hc0:=hcell' 0 (by omega) 0 hk0
     rw[List.getElem?_eq_getElem (by rw[hf];exact hk0)]at hc0
     exact U3
    ·have hjd:j=(j/k)*k+j% k:=by rw[Nat.mul_comm];exact(Nat.div_add_mod j k).symm
     have hjk:j/k<len:=Nat.div_lt_of_lt_mul (by rw[Nat.mul_comm];exact hj)
     have hjr:j% k<k:=Nat.mod_lt _ hk0
     rw[hjd,hcell' _ hjk _ hjr,JA f k hf _ (j/k) (A (j/k)) (by simp[hjk]) _ hjr]
end
theorem iy {n:Int} (h:(Lit.int .i64 n).wf=true): -9223372036854775808≤n∧n<9223372036854775808:=by
 exact SU
theorem Vn {n:Int} (h:(Lit.int .u8 n).wf=true):0≤n∧n<256:=by
 exact SU
open Go.RowKit
theorem Rd.grow {S S':List Nat} {w wr:World} {rb:Nat} {bv:Value} {bs:List UInt8} {s t:ax} (h:Rd S w rb bv bs s) (hf:Fr [rb] w wr) (hR:Rd S wr rb bv bs t) (hs:∀b,b∈S'→b∈S∨w.heap.size≤b) (hlt:∀b,b∈S'→b<wr.heap.size) (hm:rb∈S'):Rd S' wr rb bv bs t:=
 have hh:∀b,b<w.heap.size→b∈S'→b∈S:=fun b hb hm=>(hs b hm).elim id (fun h=>by omega)
 have hr:∀b,b<w.heap.size→b∈ [rb]→b∈S':=fun b _ hb=>by simp at hb;subst hb;exact hm
 ⟨hm,hlt,hR.loc,(h.sl.sub hh).fr hf hr,(h.gl.sub hh).fr hf hr,hR.le,hR.small⟩
theorem Rd.growO {S:List Nat} {w wr:World} {rb k n:Nat} {bv v:Value} {bs:List UInt8} {s t:ax} {e:TypeId} {xs:List Value} (h:Rd S w rb bv bs s) (hf:Fr [rb] w wr) (hR:Rd S wr rb bv bs t) (hown:bf [] wr e k v n xs) (hnew:jS w v):Rd (Value.blk v++S) wr rb bv bs t:=
 h.grow hf hR (by
  intro b hb
  rcases List.mem_append.1 hb with hb|hb
  ·exact .inr (hnew b hb)
  ·exact .inl hb) (by
  intro b hb
  rcases List.mem_append.1 hb with hb|hb
  ·exact(hown.blk_lt b hb).1
  ·exact hR.lt b hb) (List.mem_append_right _ h.mem)
theorem di.app {S:List Nat} {W w3:World} {v v':Value} {ts:List bu} {cs:List Value} (h:di (Value.blk v++S) W ts cs) (hf:Fr (Value.blk v) W w3) (hb:Value.blk v'=Value.blk v∨Value.blk v'= [W.heap.size]):di (Value.blk v'++S) w3 ts cs:=by
 have h1:di (Value.blk v'++(Value.blk v++S)) W ts cs:=h.sub (by
  intro b hlt hm
  rcases List.mem_append.1 hm with hm|hm
  ·rcases hb with hb|hb
   ·rw[hb]at hm;exact List.mem_append_left _ hm
   ·rw[hb]at hm;simp at hm;omega
  ·exact hm)
 have h2:=di.fr hf (fun b _ hm=>by simp[hm]) h1
 exact di.sub (fun b _ hm=>by
  rcases List.mem_append.1 hm with hm|hm<;>simp[hm]) h2
theorem Ni:(Tryz.prog.info? 136).map (fun i=>(i.zero,i.size,i.bytes))=some (some (.agg #[.bool false,.slice none 0 0,.int .i64 0,.slice none 0 0,.slice none 0 0,.slice none 0 0]),6,112):=by kernel_rfl
theorem A5:Tryz.prog.underlying 51=some (.slice 136):=by kernel_rfl
theorem Ro {w:World} {ops:Array Oper} {rest:List Oper} {o:Oper} {a:Act} {Q:Exit→Act→World→Prop} (hgd:o.guard=none) (s x:Operand) (tx:TypeId)
 (ho:o.op= .call {callee:= .builtin .append,args:= #[s,x],argTypes:= #[51,tx]})
 (v:Value) (n:Nat) (xs:List Value) (hs:a.eval s=v) (hown:bf [] w 136 6 v n xs) (xv:Value) (m:Nat) (news:List Value) (hx:a.eval x=xv) (hsrc:Src Tryz.prog 6 tx xv m news w)
 (hb:n+m≤1099511627776)
 (h:∀v' w',bf [] w' 136 6 v' (n+m) (xs++news)→Fr (Value.blk v) w w'→(Value.blk v'=Value.blk v∨Value.blk v'= [w.heap.size])→wpList Tryz.prog ops Q rest (a.put o.dst v') w'):
 wpList Tryz.prog ops Q (o::rest) a w:=by
 obtain⟨i0,hi,hz0,hz1,hz2⟩:=info_parts Ni
 exact gI hgd s x _ tx ho _ i0 _ 6 112 A5 hi hz0 hz1 hz2 rfl (by decide) [] (by simp) v n xs hs hown xv m news hx hsrc (by omega) (by unfold maxLen;omega) h
set_option maxRecDepth 100000
set_option maxHeartbeats 400000
theorem pP {S w rb bv bs s} (h:Rd S w rb bv bs s) (v:Value):
 Calls Tryz.prog 203 #[.pointer (some ⟨rb,0,none⟩),v] w fun e w'=>e= .returned (if s.err=0 then v else .slice none 0 0)∧w=w':=by
 exact WL
set_option maxHeartbeats 3200000
theorem Lx {S w rb bv bs s} (h:Rd S w rb bv bs s):
 Calls Tryz.prog 201 #[.pointer (some ⟨rb,0,none⟩),.func (.func 202) #[.pointer (some ⟨rb,0,none⟩)] #[]] w fun e w'=>
  ∃v cs,e= .returned v∧Sl S w' 6 v (bX bs (dc bs) s).1.length cs∧di S w' (bX bs (dc bs) s).1 cs∧Rd S w' rb bv bs (bX bs (dc bs) s).2∧Fr [rb] w w':=by
 have hrb:=h.loc.lt
 have hsm:=h.small
 have hN:=cn bs s
 have hl:bX bs (dc bs) s=((av (dc bs) (af bs s).1 (af bs s).2).2.told [] (av (dc bs) (af bs s).1 (af bs s).2).1,(av (dc bs) (af bs s).1 (af bs s).2).2):=rfl
 rw[hl]
 clear hl
 go_enter Tryz.func201,Tryz.ntmps201
 go_wp2_with (go_at_call 199;refine(cZ h).mono ?_;rintro e w1 ⟨rfl,hR1,hF1⟩)
 go_loopw [5,6] (fun v n wr=>∃(k:Nat) (xs:List bu) (cs:List Value) (t:ax),n= .int .i64 k∧bf [] wr 136 6 v xs.length cs∧jS w v∧di (Value.blk v++S) wr xs cs∧Rd S wr rb bv bs t∧Fr [rb] w wr∧k+xs.length=(af bs s).1∧Hid (av (dc bs) (af bs s).1 (af bs s).2=(xs++(av (dc bs) k t).1,(av (dc bs) k t).2))) (fun _ n _=>(intOf n).toNat)
 case atStart=>exact⟨(af bs s).1,[],[],_,rfl,bf.nil _ _ _ _,jS.nil _,rfl,hR1,hF1,by simp,Lib.hid rfl⟩
 case round=>
  obtain⟨k,xs,cs,t,rfl,hown,hnew,hsubs,hR,hF,hks,hg⟩:=hrel
  have Hks:=Lib.hid hks
  have hbnd:xs.length+1≤1099511627776∨k=0:=by omega
  clear hks
  have hexit:(k=0∨t.err≠0)→av (dc bs) (af bs s).1 (af bs s).2=(xs,t):=by
   exact Tz
  by_cases hk:k=0
  ·have hE:=Lib.hid (hexit (.inl hk))
   subst hk
   clear hexit hbnd
   by_cases he:t.err=0
   ·have g1:(t.err==0)=true:=by simp[he]
    go_wp2_with first|(go_at_call 203;refine(pP hR _).mono ?_;rintro e w' ⟨rfl,rfl⟩)|(go_at_call 228;refine(be hR).mono ?_;rintro e w' ⟨rfl,rfl⟩)
    go_ret
    refine⟨_,cs,rfl,?_,?_,by rw[hE.out];exact hR,hF⟩
    ·rw[hE.out]
     simp only[ax.told,if_pos he]
     exact hown.slN hnew h.lt
    ·rw[hE.out]
     simp only[ax.told,if_pos he]
     exact hsubs.sub fun b _ hm=>List.mem_append_right _ hm
   ·have g1:(t.err==0)=false:=by simp[he]
    exact Ye
  ·by_cases he:t.err=0
   ·have g1:(t.err==0)=true:=by simp[he]
    have hx:av (dc bs) k t=((dc bs t).1::(av (dc bs) (k-1) (dc bs t).2).1,(av (dc bs) (k-1) (dc bs t).2).2):=by
     exact KF
    have HX:=Lib.hid hx
    have hkp:0<k:=by omega
    have hb2:xs.length+1≤1099511627776:=by omega
    have hk40:k≤1099511627776:=by have:=Hks.out;omega
    clear hx he hexit hbnd
    have hrv:=hnew.not hrb
    have hRg:=h.growO hF hR hown hnew
    have hmR:=hRg.mem
    go_wp2_with first|(go_at_call 228;refine(be hR).mono ?_;rintro e w' ⟨rfl,rfl⟩)|((go_at_call 202;refine(Dp hRg).mono ?_;rintro e w2 ⟨h2,p2,r2,v2,rfl,hC2,hR2,hF2⟩;obtain⟨ha,hc,rfl⟩:=hC2.1.shape;obtain⟨pa,pc,rfl⟩:=hC2.2.1.shape;obtain⟨ra,rc,rfl⟩:=hC2.2.2.1.shape;obtain⟨fa,fc,rfl⟩:=hC2.2.2.2.shape);have hown2:=hown.fr hF2 (by intro b hb;simp at hb;subst hb;exact hrv))|(at_builtin;refine Ro rfl (.tmp 17) (.tmp 20) _ rfl _ _ _ rfl (hown2.alloc _) _ _ _ rfl (pQ A5 _ [.bool (dc bs t).1.final_,.slice ha (dc bs t).1.supers.length hc,.int .i64 (dc bs t).1.comp.kind,.slice pa (dc bs t).1.comp.params.length pc,.slice ra (dc bs t).1.comp.results.length rc,.slice fa (dc bs t).1.comp.fields.length fc] _ _ _ rfl (by intro u hu;simp at hu;rcases hu with rfl|rfl|rfl|rfl|rfl|rfl<;>rfl)) hb2 ?_;intro v' w3 hown3 hf3 hb3)
    have hF3:Fr [rb] w w3:=((hF.trans hF2).alloc _).app hf3 hnew
    have hsub0:=di.fr hF2 (fun b _ hb=>by rw[List.mem_singleton.1 hb];exact hmR) hsubs
    have hsub2:=fun o=>di.snoc (hC2.fr ((Fr.refl [] w2).alloc o) (by simp)) (di.fr ((Fr.refl [] w2).alloc o) (by simp) hsub0)
    go_roundw
    case rel=>
     refine⟨k-1,xs++ [(dc bs t).1],_,_,by go_num,?_,hnew.app hb3 (by have:=hF.size;have:=hF2.size;first|omega|(simp only[World.size_alloc];omega)),(hsub2 _).app hf3 hb3,h.step hF3 ((hR2.loc.alloc _).fr hf3 hrv) hR2.le,hF3,by have:=Hks.out;simp;omega,Lib.hid ?_⟩
     ·simpa using hown3
     ·rw[hg.out,HX.out];simp
    case measure=>simp[intOf];omega
   ·have g1:(t.err==0)=false:=by simp[he]
    have hE:=Lib.hid (hexit (.inr he))
    have hkp:0<k:=by omega
    clear hexit hbnd
    exact Ye
def x8:List Value:=ef.flatMap fun p=> [.int .i64 p.1,.string ⟨p.2.toArray⟩]
def tM:List Value:=iz.flatMap fun p=> [.int .i64 p.1,.int .i64 p.2]
structure cq (S:List Nat) (w:World):Prop where
 gl:Gl S w
 rlt:2<w.heap.size
 rnot:2∉S
 runs:∀i,i<32→w.cell? ⟨2,i,none⟩=x8[i]?
 klt:3<w.heap.size
 knot:3∉S
 known:∀i,i<18→w.cell? ⟨3,i,none⟩=tM[i]?
theorem cq.fr {S S':List Nat} {w w':World} (h:cq S w) (hf:Fr S' w w') (hs:∀b,b<w.heap.size→b∈S'→b∈S):cq S w':=
 ⟨h.gl.fr hf hs,Nat.lt_of_lt_of_le h.rlt hf.size,h.rnot,fun i hi=>by rw[hf.cell h.rlt (fun hm=>h.rnot (hs _ h.rlt hm))];exact h.runs i hi,
  Nat.lt_of_lt_of_le h.klt hf.size,h.knot,fun i hi=>by rw[hf.cell h.klt (fun hm=>h.knot (hs _ h.klt hm))];exact h.known i hi⟩
theorem cq.sub {S S':List Nat} {w:World} (h:cq S w) (hs:∀b,b<w.heap.size→b∈S'→b∈S):cq S' w:=
 ⟨h.gl.sub hs,h.rlt,fun hm=>h.rnot (hs _ h.rlt hm),h.runs,h.klt,fun hm=>h.knot (hs _ h.klt hm),h.known⟩
theorem St.gl7 {S:List Nat} {w0 w:World} {G:List bt} (h:St S w0 w G) (hg:cq S w0):cq S w:=hg.fr h.fr (fun _ _ h=>h)
theorem rO {P:Program} {w:World} {g:Nat} {ty:TypeId} {cs:List Value} {d:TypeDesc} (hu:P.underlying ty=some d) (hd:(match d with| .struct _| .array _ _=>true| _=>false)=true) (hi:(P.info? ty).map (·.size)=some cs.length)
 (hc:∀i,i<cs.length→w.cell? ⟨g,i,none⟩=cs[i]?):(Instr.loadAt ty (.pointer (some ⟨g,0,none⟩))).run P w= .ok (.agg cs.toArray) w:=by
 have hl:(loadCells ⟨g,0,none⟩ cs.length).run P w= .ok cs.toArray w:=
  run_loadCells_list (P:=P) w ⟨g,0,none⟩ cs (fun j v hv=>by
   have hadd:(⟨g,0,none⟩:Addr).add j=⟨g,j,none⟩:=by unfold Addr.add;split<;>simp_all
   rw[hadd,hc j (List.getElem?_eq_some_iff.1 hv).1]
   exact hv)
 cases hq:P.info? ty with
 |none=>simp[hq]at hi
 |some i=>
  have hs:i.size=cs.length:=by simpa [hq]using hi
  have hagg:(isAgg ty).run P w= .ok true w:=by
   unfold isAgg
   rw[Sem.run_bind,run_underlying hu w]
   cases d<;>simp_all
  simp only[Instr.loadAt,Instr.sureAddr,Sem.run_bind,Sem.run_pure,Result.andThen_ok]
  simp[loadVar,Sem.run_bind,hagg,sizeOf,typeInfo,hq,hs,hl]
theorem yl (l:List UInt8) (c:UInt8):Lib.indexByte l c=fj l c:=by
 induction l with
 |nil=>rfl
 |cons a l ih=>simp only[Lib.indexByte,fj,ih]
theorem wS (w:World) (s:ByteArray) (c:Int):Calls Tryz.prog 134 #[.string s,.int .u8 c] w fun e w'=>e= .returned (.int .i64 (fj s.data.toList c.toNat.toUInt8))∧w'=w:=by
 go_enter Tryz.func134,Tryz.ntmps134
 go_wp2
 rw[run_callFunc_extern Tryz.func196 (by kernel_rfl) (by kernel_rfl) (by kernel_rfl) (e:=Extern.BytealgIndexByte.indexByte) (by kernel_rfl),Lib.run_indexByteString,yl]
 simp only[Result.andThen]
 rw[Oper.upon_value]
 go_wp2
 exact Cs
theorem qj (w:World) (s:ByteArray) (c:Int):Calls Tryz.prog 102 #[.string s,.int .u8 c] w fun e w'=>e= .returned (.int .i64 (fj s.data.toList c.toNat.toUInt8))∧w'=w:=by
 go_enter Tryz.func102,Tryz.ntmps102
 go_wp2_with (go_at_call 134;(with_reducible refine(wS _ _ _).mono ?_);rintro e w' ⟨rfl,rfl⟩)
 exact Cs
theorem mA {P:Program} {ops:Array Oper} {rest:List Oper} {o:Oper} {a:Act} {w:World} {Q:Exit→Act→World→Prop} (hgd:o.guard=none) (ty:TypeId) (x:Operand) (ho:o.op= .load ty x)
 (g:Nat) (hx:a.eval x= .pointer (some ⟨g,0,none⟩)) (cs:List Value) (hr:(Instr.loadAt ty (.pointer (some ⟨g,0,none⟩))).run P w= .ok (.agg cs.toArray) w)
 (h:wpList P ops Q rest (a.put o.dst (.agg cs.toArray)) w):wpList P ops Q (o::rest) a w:=
 wpList_plain hgd fun _ hK=>by
  unfold Oper.wp execOp
  simp only[ho,hx,hr,Sem.run_bind,Sem.run_pure,Result.andThen_ok]
  exact hK _ _ h
def oH (k:Nat):Nat:=((ef.take k).map (·.2.length)).sum
theorem MG:Tryz.prog.underlying 352=some ((Tryz.prog.underlying 352).get (by kernel_rfl)):=by kernel_rfl
theorem GU:(Tryz.prog.info? 352).map (·.size)=some x8.length:=by kernel_rfl
theorem Ku:Tryz.prog.underlying 363=some ((Tryz.prog.underlying 363).get (by kernel_rfl)):=by kernel_rfl
theorem D5:(Tryz.prog.info? 363).map (·.size)=some tM.length:=by kernel_rfl
theorem Bb:ef.length=16:=by decide
theorem yk:iz.length=9:=by decide
theorem E8:ef.all (fun p=>decide (0≤p.1)&&decide (p.1≤70000)&&decide (p.2.length≤100))=true:=by decide
theorem Ox:∀k,k≤16→oH k≤1600:=by decide
theorem S3 {k:Nat} (hk:k<16):∃f s,ef[k]? =some (f,s)∧0≤f∧f≤70000∧s.length≤100∧ef.drop k=(f,s)::ef.drop (k+1)∧oH (k+1)=oH k+s.length:=by
 have hl:k<ef.length:=by rw[Bb];exact hk
 refine⟨(ef[k]).1,(ef[k]).2,by simp[hl],?_⟩
 have h:=List.all_eq_true.1 E8 (ef[k]) (List.getElem_mem hl)
 simp only[Bool.and_eq_true,decide_eq_true_eq]at h
 refine⟨h.1.1,h.1.2,h.2,List.drop_eq_getElem_cons hl,?_⟩
 unfold oH
 rw[List.take_succ_eq_append_getElem hl,List.map_append,List.sum_append]
 simp
theorem Dy (w:World) (k:Nat) (f:Int) (s:List UInt8) (h:ef[k]? =some (f,s)):(Instr.index 352 (.agg x8.toArray) (.int .i64 k)).run Tryz.prog w= .ok (.agg #[.int .i64 f,.string ⟨s.toArray⟩]) w:=by
 have hk:k<16:=by rw[←Bb];exact(List.getElem?_eq_some_iff.1 h).1
 have:k=0∨k=1∨k=2∨k=3∨k=4∨k=5∨k=6∨k=7∨k=8∨k=9∨k=10∨k=11∨k=12∨k=13∨k=14∨k=15:=by omega
 rcases this with rfl|rfl|rfl|rfl|rfl|rfl|rfl|rfl|rfl|rfl|rfl|rfl|rfl|rfl|rfl|rfl
 all_goals
  injection h with h
  injection h with h1 h2
  subst h1 h2
  first|(show _= _;kernel_rfl)|rfl|simp[go_sem]
theorem O1 {w:World} (hg:cq [] w) (op:Int) (h1: -9223372036854775808≤op) (h2:op<9223372036854775808):
 Calls Tryz.prog 263 #[.int .i64 op] w fun e w'=>e= .returned (.tuple #[.int .i64 (gr ef op 0).1,.int .u8 (gr ef op 0).2.toNat])∧Fr [] w w':=by
 have hload:=rO (w:=w) (g:=2) MG rfl GU hg.runs
 have HL:=Lib.hid hload
 clear hload
 have hS0:=St.start [] w
 go_enter Tryz.func263,Tryz.ntmps263
 go_wp2_with (refine mA rfl 352 _ rfl 2 rfl x8 HL.out ?_)
 go_loopw [4,9] (fun a n wr=>∃(k:Nat),n= .int .i64 k∧k≤16∧a= .int .i64 (oH k)∧Fr [] w wr∧Hid (gr ef op 0=gr (ef.drop k) op (oH k))) (fun _ n _=>16-(intOf n).toNat)
 case atStart=>exact⟨0,rfl,by omega,rfl,Fr.refl _ _,Lib.hid rfl⟩
 case round=>
  obtain⟨k,rfl,hk16,rfl,hF,hI⟩:=hrel
  by_cases hk:k<16
  ·obtain⟨f,s,hfs,f0,f1,sl,hdrop,hlen⟩:=S3 hk
   have i1:(k:Int)<16:=by omega
   have hl:=Ox k (by omega)
   have hix:=Dy wr k f s hfs
   rw[hdrop]at hI
   have hsz:(⟨s.toArray⟩:ByteArray).size=s.length:=by simp[ByteArray.size]
   by_cases c1:f≤op
   ·by_cases c2:op-f<s.length
    ·have hw:IntKind.i64.wrap (op-f)=op-f:=IntWalk.i64_in _ (by omega)
     have e:gr ef op 0=((oH k:Int)+(op-f),s.getD (op-f).toNat 0):=by rw[hI.out];unfold gr;rw[if_pos ⟨c1,c2⟩]
     have E:=Lib.hid e
     clear e hI
     obtain⟨j,hj⟩:=Int.eq_ofNat_of_zero_le (show 0≤op-f by omega)
     obtain rfl:op=f+j:=by omega
     clear hj
     have c3:(j:Int)< (s.length:Int):=by omega
     have c4:j<s.length:=by omega
     have hj:f+(j:Int)-f=j:=by omega
     rw[hj]at E hw
     go_wp2_with fail
     go_region_held3 (fun w'=>w'.cell? ⟨wr.heap.size,1,none⟩=some (.string ⟨s.toArray⟩))
      (first|(go_keep;done))
      (fail)
     go_wp2_with fail
     go_ret2
     rw[E.out]
     refine⟨?_,?_⟩
     ·have ew:IntKind.i64.wrap ((oH k:Int)+(j:Int))=(oH k:Int)+(j:Int):=IntWalk.i64_in _ (by omega)
      have ec:s.getD ((j:Int)).toNat 0=s[j]'c4:=by simp[List.getD_eq_getElem?_getD,c4]
      rw[ec]
      first|(rw[ew];rfl)|(simp only[ew];rfl)
     ·exact cF
    ·have e:gr ef op 0=gr (ef.drop (k+1)) op (oH (k+1)):=by rw[hI.out,gr,if_neg (by omega),hlen];rfl
     have E:=Lib.hid e
     have hw:IntKind.i64.wrap (op-f)=op-f:=IntWalk.i64_in _ (by omega)
     have c3:¬(op-f< (s.length:Int)):=c2
     exact Uk
   ·have e:gr ef op 0=gr (ef.drop (k+1)) op (oH (k+1)):=by rw[hI.out,gr,if_neg (by omega),hlen];rfl
    have E:=Lib.hid e
    exact Uk
  ·have hk2:k=16:=by omega
   subst hk2
   have e:gr ef op 0=(-1,0):=hI.out
   have E:=Lib.hid e
   clear e hI
   go_wp2
   go_ret2
   rw[E.out]
   exact⟨rfl,hF⟩
theorem dd {w:World} (hg:cq [] w) (op:Int) (h1: -9223372036854775808≤op) (h2:op<9223372036854775808):
 Calls Tryz.prog 233 #[.int .i64 op] w fun e w'=>e= .returned (.int .i64 (ag op))∧Fr [] w w':=by
 have hP:ag op=if (gr ef op 0).1<0 then 0 else 1+fj jf (gr ef op 0).2:=rfl
 have hf:=O1 hg op h1 h2
 generalize gr ef op 0=p at hP hf
 obtain⟨n,c⟩:=p
 dsimp only at hP hf
 have hi0: -1≤fj jf c:=by rw[←yl];exact Lib.indexByte_ge _ _
 have hi1:fj jf c≤13:=by
  have:∀(l:List UInt8),fj l c≤l.length:=by
   intro l
   induction l with
   |nil=>simp[fj]
   |cons a l ih=>unfold fj;split<;>(try split)<;>simp<;>omega
  exact this jf
 have Hf:=Lib.hid hf
 clear hf
 by_cases hn:n<0
 ·rw[if_pos hn]at hP
  rw[hP]
  clear hP
  go_enter Tryz.func233,Tryz.ntmps233
  go_wp2_with (go_at_call 263;refine Hf.out.mono ?_;rintro e w2 ⟨rfl,hF2⟩)
  go_ret
  exact⟨rfl,hF2⟩
 ·rw[if_neg hn]at hP
  rw[hP]
  clear hP
  have hc:c.toNat.toUInt8=c:=by simp
  go_enter Tryz.func233,Tryz.ntmps233
  go_wp2_with first|(go_at_call 263;refine Hf.out.mono ?_;rintro e w2 ⟨rfl,hF2⟩)|(go_at_call 102;(with_reducible refine(qj _ _ _).mono ?_);rintro e w3 ⟨rfl,rfl⟩)
  go_ret
  refine⟨?_,by exact cF⟩
  have e:wrap64 (1+fj jf c)=1+fj jf c:=IntWalk.wrap64_in _ (by omega)
  exact congrArg (fun z=>Ending.returned (Value.int .i64 z)) e
theorem OW {k:Nat} (hk:k<9):∃a b,iz[k]? =some (a,b)∧iz.drop k=(a,b)::iz.drop (k+1):=by
 have hl:k<iz.length:=by rw[yk];exact hk
 exact⟨(iz[k]).1,(iz[k]).2,by simp[hl],List.drop_eq_getElem_cons hl⟩
theorem A7 (w:World) (k:Nat) (a b:Int) (h:iz[k]? =some (a,b)):(Instr.index 363 (.agg tM.toArray) (.int .i64 k)).run Tryz.prog w= .ok (.agg #[.int .i64 a,.int .i64 b]) w:=by
 have hk:k<9:=by rw[←yk];exact(List.getElem?_eq_some_iff.1 h).1
 have:k=0∨k=1∨k=2∨k=3∨k=4∨k=5∨k=6∨k=7∨k=8:=by omega
 rcases this with rfl|rfl|rfl|rfl|rfl|rfl|rfl|rfl|rfl
 all_goals
  injection h with h
  injection h with h1 h2
  subst h1 h2
  first|(show _= _;kernel_rfl)|rfl|simp[go_sem]
theorem yg {w:World} (hg:cq [] w) (op:Int):Calls Tryz.prog 287 #[.int .i64 op] w fun e w'=>e= .returned (.bool (iM op))∧Fr [] w w':=by
 have hload:=rO (w:=w) (g:=3) Ku rfl D5 hg.known
 have HL:=Lib.hid hload
 clear hload
 go_enter Tryz.func287,Tryz.ntmps287
 go_wp2_with (refine mA rfl 363 _ rfl 3 rfl tM HL.out ?_)
 go_loopw [6] (fun n wr=>∃(k:Nat),n= .int .i64 k∧k≤9∧Fr [] w wr∧Hid (iM op=(iz.drop k).any fun p=>decide (p.1≤op∧op≤p.2))) (fun n _=>9-(intOf n).toNat)
 case atStart=>exact⟨0,rfl,by omega,Fr.refl _ _,Lib.hid rfl⟩
 case round=>
  obtain⟨k,rfl,hk9,hF,hI⟩:=hrel
  by_cases hk:k<9
  ·obtain⟨a,b,hab,hdrop⟩:=OW hk
   have i1:(k:Int)<9:=by omega
   have hix:=A7 wr k a b hab
   rw[hdrop]at hI
   by_cases c:a≤op∧op≤b
   ·have e:iM op=true:=by rw[hI.out,List.any_cons];simp[c]
    have E:=Lib.hid e
    obtain⟨c1,c2⟩:=c
    clear e hI
    go_wp2
    go_ret
    exact⟨by rw[E.out];rfl,by exact cF⟩
   ·have e:iM op=(iz.drop (k+1)).any fun p=>decide (p.1≤op∧op≤p.2):=by rw[hI.out,List.any_cons];simp[c]
    have E:=Lib.hid e
    clear e hI
    have c':¬a≤op∨(a≤op∧¬op≤b):=by omega
    clear c
    rcases c' with c1|⟨c1,c2⟩
    all_goals
     go_wp2
     go_roundw
     case rel=>exact⟨k+1,by go_num,by omega,hF.alloc _,E⟩
     case measure=>simp[intOf];omega
  ·have hk2:k=9:=by omega
   subst hk2
   have e:iM op=false:=hI.out
   have E:=Lib.hid e
   clear e hI
   go_wp2
   go_ret
   exact⟨by rw[E.out];rfl,hF⟩
structure dj (S:List Nat) (w0 w:World) (rb:Nat) (bv:Value) (bs:List UInt8) (s:ax) (G:List bt):Prop where
 st:St [rb] w0 w G
 org:∃s0,Rd S w0 rb bv bs s0
 loc:bB w rb (bW rb bv s) 226
 le:s.at_≤bs.length
section
variable {S : List Nat} {w0 w w' : World} {rb : Nat} {bv : Value} {bs : List UInt8} {s s' : ax} {G G' : List bt}
theorem dj.rd (h:dj S w0 w rb bv bs s G):Rd S w rb bv bs s:=by
 obtain⟨s0,h0⟩:=h.org
 exact h0.step h.st.fr h.loc h.le
theorem dj.start (h:Rd S w rb bv bs s):dj S w w rb bv bs s []:=⟨St.start _ _,⟨s,h⟩,h.loc,h.le⟩
theorem dj.lt (h:dj S w0 w rb bv bs s G):rb<w0.heap.size:=by
 obtain⟨s0,h0⟩:=h.org
 exact h0.loc.lt
theorem dj.step0 (h:dj S w0 w rb bv bs s G) (hf:Fr [] w w'):dj S w0 w' rb bv bs s G:=⟨h.st.step0 hf,h.org,h.loc.fr hf (by simp),h.le⟩
theorem dj.call (h:dj S w0 w rb bv bs s G) (hR:Rd S w' rb bv bs s') (hf:Fr [rb] w w'):dj S w0 w' rb bv bs s' G:=
 ⟨h.st.step hf (fun b hb=>⟨hb,by simp at hb;subst hb;exact h.lt⟩),h.org,hR.loc,hR.le⟩
theorem dj.other (h:dj S w0 w rb bv bs s G) {X:List Nat} (k:St [rb] w0 w' G') (hf:Fr X w w') (hx:rb∉X):dj S w0 w' rb bv bs s G':=⟨k,h.org,h.loc.fr hf hx,h.le⟩
theorem dj.alloc (h:dj S w0 w rb bv bs s G) (cs:List Value) (T:TypeId):dj S w0 (w.alloc (.cells cs.toArray T)) rb bv bs s (.loc w.heap.size cs T::G):=
 h.other (X:= []) (h.st.alloc cs T) ((Fr.refl _ _).alloc _) (by simp)
theorem dj.drew (h:dj S w0 w rb bv bs s G):dj S w0 w.drew rb bv bs s G:=h.step0 ((Fr.refl _ _).drew)
theorem dj.drewN (h:dj S w0 w rb bv bs s G) (n:Nat):dj S w0 (w.drewN n) rb bv bs s G:=h.step0 ((Fr.refl _ _).drewN n)
theorem dj.away (h:dj S w0 w rb bv bs s G) {b:Nat} {cs:List Value} {T:TypeId} (p:bg G (.loc b cs T) G'):rb∉ [b]:=by
 have h1:=(h.st.pick p).new _ List.mem_cons_self b (by simp[bt.blk])
 have h2:=h.lt
 simp
 omega
theorem dj.set (h:dj S w0 w rb bv bs s G) {b:Nat} {cs:List Value} {T:TypeId} (p:bg G (.loc b cs T) G') (i:Nat) (u:Value):dj S w0 (w.setCell ⟨b,i,none⟩ u) rb bv bs s (.loc b (cs.set i u) T::G'):=
 h.other (h.st.set p i u) ((Fr.refl [b] w).setCell (p:=⟨b,i,none⟩) (by simp) u) (h.away p)
theorem dj.setAll (h:dj S w0 w rb bv bs s G) {b:Nat} {cs vs:List Value} {T:TypeId} (p:bg G (.loc b cs T) G') (hl:vs.length=cs.length):dj S w0 (w.setCells b 0 vs) rb bv bs s (.loc b vs T::G'):=
 h.other (h.st.setAll p hl) (Fr.setCells vs 0 w) (h.away p)
theorem dj.gl7 (h:dj S w0 w rb bv bs s G) (hg:cq S w0):cq [] w:=by
 obtain⟨s0,h0⟩:=h.org
 refine(hg.fr (S':= [rb]) h.st.fr (fun b _ hb=> ?_)).sub (by simp)
 simp at hb
 subst hb
 exact h0.mem
theorem dj.gl7' (h:dj S w0 w rb bv bs s G) (hg:cq S w0):cq S w:=by
 obtain⟨s0,h0⟩:=h.org
 refine hg.fr (S':= [rb]) h.st.fr (fun b _ hb=> ?_)
 simp at hb
 subst hb
 exact h0.mem
theorem dj.fr (h:dj S w0 w rb bv bs s G):Fr [rb] w0 w:=h.st.fr
variable {P : Program} {ops : Array Oper} {rest : List Oper} {o : Oper} {a : Act} {Q : Exit → Act → World → Prop}
theorem iE {ty:TypeId} {x y:Operand} {b:Nat} {vs:List Value} (hgd:o.guard=none) (ho:o.op= .store ty x y) (hx:a.eval x= .pointer (some ⟨b,0,none⟩)) (hy:a.eval y= .agg vs.toArray)
 (h:∃S w0 rb bv bs s G G' cs T,dj S w0 w rb bv bs s G∧bg G (.loc b cs T) G'∧vs.length=cs.length∧(P.info? ty).map (·.size)=some vs.length∧(∀v∈vs,v.oneCell'=true)∧∀w',dj S w0 w' rb bv bs s (.loc b vs T::G')→Fr [b] w w'→wpList P ops Q rest (a.put o.dst undef) w'):wpList P ops Q (o::rest) a w:=by
 obtain⟨S,w0,rb,bv,bs,s,G,G',cs,T,hst,hp,hl,hi,h1,h⟩:=h
 refine wpList_store_mid hgd ty x y ho b 0 vs.toArray hx hy ?_ (by simpa using hi) (all_oneCell_toArray h1) ?_
 ·have:=(hst.st.loc hp).there
  simpa [hl]using this
 ·simpa using h _ (hst.setAll hp hl) (Fr.setCells vs 0 w)
theorem dj.sl (h:dj S w0 w rb bv bs s G) {e:TypeId} {k n:Nat} {v:Value} {xs:List Value} (p:bg G (.own e k v n xs) G'):Sl S w k v n xs:=by
 have h1:=h.st.pick p
 have h3:bf [] w e k v n xs:=h1.head
 refine bf.sl h3 (S':=S) (fun b hb hm=> ?_)
 obtain⟨s0,h0⟩:=h.org
 have h2:=h1.new _ List.mem_cons_self b (by simpa [bt.blk]using hb)
 have h4:=h0.lt b hm
 omega
theorem dj.wide (h:dj S w0 w rb bv bs s G) {S':List Nat} (hs:∀b,b∈S'→b∈S∨w0.heap.size≤b) (hlt:∀b,b∈S'→b<w.heap.size) (hm:∀b,b∈S→b∈S'):Rd S' w rb bv bs s:=by
 have hR:=h.rd
 obtain⟨s0,h0⟩:=h.org
 have hh:∀b,b<w0.heap.size→b∈S'→b∈S:=fun b hb hm=>(hs b hm).elim id (fun h=>by omega)
 have hr:∀b,b<w0.heap.size→b∈ [rb]→b∈S':=fun b _ hb=>by simp at hb;subst hb;exact hm _ h0.mem
 exact⟨hm _ h0.mem,hlt,hR.loc,(h0.sl.sub hh).fr h.st.fr hr,(h0.gl.sub hh).fr h.st.fr hr,hR.le,hR.small⟩
theorem sa {s1 x:Operand} {v xv:Value} {t tx e e':TypeId} {i:TypeInfo} {z:Value} {k bytes:Nat} (hgd:o.guard=none)
 (ho:o.op= .call {callee:= .builtin .append,args:= #[s1,x],argTypes:= #[t,tx]}) (hs:a.eval s1=v) (hx:a.eval x=xv)
 (ht:P.underlying t=some (.slice e)) (htx:P.underlying tx=some (.slice e')) (hi:P.info? e=some i) (hz:i.zero=some z) (hsize:i.size=k) (hby:i.bytes=bytes) (hzs:z.cells.size=k) (hk:0<k) {L:Nat} (hL:L*bytes≤140737488355328) (hL2:L≤1099511627776)
 (h:∃S w0 rb bv bs s G G' n xs m news,dj S w0 w rb bv bs s G∧nT e k G v n xs G'∧oK e k G w xv m news∧n+m≤L∧
  ∀v' w',dj S w0 w' rb bv bs s (.own e k v' (n+m) (xs++news)::G')→wpList P ops Q rest (a.put o.dst v') w'):
 wpList P ops Q (o::rest) a w:=by
 obtain⟨S,w0,rb,bv,bs,s,G,G',n,xs,m,news,hst,hp,hsrc,hb,h⟩:=h
 have hd:=hst.st.dstT hp
 refine gI hgd s1 x t tx ho e i z k bytes ht hi hz hsize hby hzs hk [] (by simp) v n xs hs hd.head xv m news hx (hsrc.src htx hst.st) ?_ (by unfold maxLen;omega) fun v' w' ho' hf hb'=>h v' w' (hst.other (hd.app hf ho' hb') hf (fun hm=> ?_))
 ·exact Nat.le_trans (Nat.mul_le_mul_right _ hb) (Nat.le_trans hL (by decide))
 ·have h1:=hd.new _ List.mem_cons_self rb (by simpa [bt.blk]using hm)
  have h2:=hst.lt
  omega
end
theorem CU:Tryz.prog.underlying 27=some (.slice 3):=by kernel_rfl
theorem OU:(Tryz.prog.info? 3).map (fun i=>(i.zero,i.size,i.bytes))=some (some (.int .i64 0),1,8):=by kernel_rfl
theorem uq:Tryz.prog.underlying 175=some (.slice 300):=by kernel_rfl
theorem EW:(Tryz.prog.info? 300).map (fun i=>(i.zero,i.size,i.bytes))=some (some (.agg #[.int .i64 0,.int .i64 0,.int .i64 0]),3,24):=by kernel_rfl
theorem vT:Tryz.prog.underlying 53=some (.slice 177):=by kernel_rfl
theorem Bq:(Tryz.prog.info? 177).map (fun i=>(i.zero,i.size,i.bytes))=some (some (.agg (cp (aa.of 0) (.slice none 0 0) (.slice none 0 0) (.slice none 0 0)).toArray),19,192):=by kernel_rfl
theorem Nz {w:World} {ops:Array Oper} {rest:List Oper} {o:Oper} {a:Act} {Q:Exit→Act→World→Prop} {s1 x:Operand} {v xv:Value} (hgd:o.guard=none)
 (ho:o.op= .call {callee:= .builtin .append,args:= #[s1,x],argTypes:= #[27,27]}) (hs:a.eval s1=v) (hx:a.eval x=xv)
 (h:∃S w0 rb bv bs s G G' n xs m news,dj S w0 w rb bv bs s G∧nT 3 1 G v n xs G'∧oK 3 1 G w xv m news∧n+m≤1099511627776∧
  ∀v' w',dj S w0 w' rb bv bs s (.own 3 1 v' (n+m) (xs++news)::G')→wpList Tryz.prog ops Q rest (a.put o.dst v') w'):
 wpList Tryz.prog ops Q (o::rest) a w:=by
 obtain⟨i0,hi,hz0,hz1,hz2⟩:=info_parts OU
 exact sa hgd ho hs hx CU CU hi hz0 hz1 hz2 rfl (by decide) (L:=1099511627776) (by decide) (by decide) h
theorem EK {w:World} {ops:Array Oper} {rest:List Oper} {o:Oper} {a:Act} {Q:Exit→Act→World→Prop} {s1 x:Operand} {v xv:Value} (hgd:o.guard=none)
 (ho:o.op= .call {callee:= .builtin .append,args:= #[s1,x],argTypes:= #[175,175]}) (hs:a.eval s1=v) (hx:a.eval x=xv)
 (h:∃S w0 rb bv bs s G G' n xs m news,dj S w0 w rb bv bs s G∧nT 300 3 G v n xs G'∧oK 300 3 G w xv m news∧n+m≤1099511627776∧
  ∀v' w',dj S w0 w' rb bv bs s (.own 300 3 v' (n+m) (xs++news)::G')→wpList Tryz.prog ops Q rest (a.put o.dst v') w'):
 wpList Tryz.prog ops Q (o::rest) a w:=by
 obtain⟨i0,hi,hz0,hz1,hz2⟩:=info_parts EW
 exact sa hgd ho hs hx uq uq hi hz0 hz1 hz2 rfl (by decide) (L:=1099511627776) (by decide) (by decide) h
theorem rA {w:World} {ops:Array Oper} {rest:List Oper} {o:Oper} {a:Act} {Q:Exit→Act→World→Prop} {s1 x:Operand} {v xv:Value} (hgd:o.guard=none)
 (ho:o.op= .call {callee:= .builtin .append,args:= #[s1,x],argTypes:= #[53,53]}) (hs:a.eval s1=v) (hx:a.eval x=xv)
 (h:∃S w0 rb bv bs s G G' n xs m news,dj S w0 w rb bv bs s G∧nT 177 19 G v n xs G'∧oK 177 19 G w xv m news∧n+m≤549755813888∧
  ∀v' w',dj S w0 w' rb bv bs s (.own 177 19 v' (n+m) (xs++news)::G')→wpList Tryz.prog ops Q rest (a.put o.dst v') w'):
 wpList Tryz.prog ops Q (o::rest) a w:=by
 obtain⟨i0,hi,hz0,hz1,hz2⟩:=info_parts Bq
 exact sa hgd ho hs hx vT vT hi hz0 hz1 hz2 rfl (by decide) (L:=549755813888) (by decide) (by decide) h
theorem uT {P:Program} {w:World} {fn:Func} {R:Ending→World→Prop} {a:Act} {p:Tmp} {ty:TypeId} {d:TypeDesc} {g:Nat} (h:fn.results= #[.cell p ty]) (hp:a.tmps.getD p undef= .pointer (some ⟨g,0,none⟩))
 (hu:P.underlying ty=some d) (hd:(match d with| .struct _| .array _ _=>true| _=>false)=true) (hdf:a.defers= [])
 (hx:∃S w0 rb bv bs s G G' T cs,dj S w0 w rb bv bs s G∧bg G (.loc g cs T) G'∧(P.info? ty).map (·.size)=some cs.length∧R (.returned (.agg cs.toArray)) w):
 bodyPost P fn R .ret a w:=by
 obtain⟨S,w0,rb,bv,bs,s,G,G',T,cs,hst,pk,hi,hR⟩:=hx
 exact eK h hp (hst.st.loc pk) hu hd hi hdf hR
theorem dj.alone {S:List Nat} {w0 w w1 w2:World} {rb:Nat} {bv:Value} {bs:List UInt8} {s:ax} {G:List bt} (h1:dj S w0 w rb bv bs s G) {ra:Nat} (hF:Fr [] w w1) (hn:w.heap.size≤ra) (hF2:Fr [ra] w1 w2):dj S w0 w2 rb bv bs s G:=by
 have h3:=h1.step0 hF
 refine⟨⟨h3.st.fr.then hF2 (fun b hb=> ?_),fun r hr=>bt.on_fr hF2 (h3.st.all r hr) (fun b hb hm=> ?_),h3.st.new,h3.st.apart⟩,h3.org,h3.loc.fr hF2 ?_,h3.le⟩
 ·simp at hb
  subst hb
  have:=h1.st.fr.size
  exact .inr (by omega)
 ·simp at hm
  subst hm
  have:=h1.st.lt hr hb
  omega
 ·have h4:=h1.loc.lt
  simp
  omega
def tI (b:Nat):List bt→Prop
 | []=>True
 | .loc c _ _::G=>(b≠c∧c≠b)∧tI b G
 | .own .. ::G=>tI b G
def sL:List bt→Prop
 | []=>True
 | .loc b _ _::G=>tI b G∧sL G
 | .own .. ::G=>sL G
theorem C4 {b:Nat}:∀{G:List bt},(∀s,s∈G→b∉s.blk)→tI b G
 | [],_=>trivial
 | .loc c cs T::G,h=>by
  have h1:=h (.loc c cs T) List.mem_cons_self
  simp only[bt.blk,List.mem_singleton]at h1
  exact⟨⟨h1,fun e=>h1 e.symm⟩,C4 fun s hs=>h s (List.mem_cons_of_mem _ hs)⟩
 | .own .. ::G,h=>C4 (G:=G) fun s hs=>h s (List.mem_cons_of_mem _ hs)
theorem AX:∀{G:List bt},G.Pairwise (fun r s=>∀b,b∈r.blk→b∉s.blk)→sL G
 | [],_=>trivial
 | .loc b cs T::G,h=>by
  have h1:=List.pairwise_cons.1 h
  exact⟨C4 fun s hs=>h1.1 s hs b (by simp[bt.blk]),AX h1.2⟩
 | .own .. ::G,h=>AX (G:=G) (List.pairwise_cons.1 h).2
theorem dj.nil {S:List Nat} {w0 w:World} {rb:Nat} {bv:Value} {bs:List UInt8} {s:ax} {G:List bt} (h:dj S w0 w rb bv bs s G) (e:TypeId) (k c:Nat) (hc:c=0:=by rfl):dj S w0 w rb bv bs s (.own e k (.slice none 0 c) 0 []::G):=by
 subst hc
 exact⟨h.st.put (bf.nil _ _ _ _) (fun b hb=>by cases hb) (fun b hb=>by cases hb),h.org,h.loc,h.le⟩
theorem dj.sel {S:List Nat} {w0 w:World} {rb:Nat} {bv:Value} {bs:List UInt8} {s:ax} {G G':List bt} (h:dj S w0 w rb bv bs s G) (p:xM G G'):dj S w0 w rb bv bs s G':=⟨h.st.sel p,h.org,h.loc,h.le⟩
theorem dj.only {S:List Nat} {w0 w:World} {rb:Nat} {bv:Value} {bs:List UInt8} {s:ax} {r:bt} {G:List bt} (h:dj S w0 w rb bv bs s (r::G)):dj S w0 w rb bv bs s [r]:=h.sel (.cons .here .nil)
theorem dj.join {S:List Nat} {w0 w w':World} {rb:Nat} {bv:Value} {bs:List UInt8} {s s':ax} {G D:List bt} (h:dj S w0 w rb bv bs s G) (k:dj S w w' rb bv bs s' D):dj S w0 w' rb bv bs s' (D++G):=
 ⟨h.st.call k.st (fun b hb=>⟨hb,by simp at hb;subst hb;exact h.lt⟩),h.org,k.loc,k.le⟩
theorem dj.wideG {S:List Nat} {w0 w:World} {rb:Nat} {bv:Value} {bs:List UInt8} {s:ax} {G:List bt} (h:dj S w0 w rb bv bs s G):Rd (G.flatMap bt.blk++S) w rb bv bs s:=by
 obtain⟨s0,h0⟩:=h.org
 refine h.wide (fun b hb=> ?_) (fun b hb=> ?_) (fun b hb=>List.mem_append_right _ hb)
 ·rcases List.mem_append.1 hb with hb|hb
  ·obtain⟨r,hr,hb⟩:=List.mem_flatMap.1 hb
   exact .inr (h.st.new r hr b hb)
  ·exact .inl hb
 ·rcases List.mem_append.1 hb with hb|hb
  ·obtain⟨r,hr,hb⟩:=List.mem_flatMap.1 hb
   exact h.st.lt hr hb
  ·exact h.rd.lt b hb
theorem St.aq {S:List Nat} {w0 w:World} {G:List bt} (h:St S w0 w G) {N:Prop} (g:sL G→N:=by(intro h;first|(simp only[sL,tI,List.cons_append,List.nil_append,true_and,and_true]at h;exact h)|exact trivial)):N:=g (AX h.apart)
theorem kL {P:Program} {f:FuncId} {args:Array Value} {S:List Nat} {w0 w:World} {rb:Nat} {bv:Value} {bs:List UInt8} {s s':ax} {G G':List bt} {v:Value} {F:World→Prop} {N:Prop} {Q:Ending→World→Prop}
 (c:Rd S w rb bv bs s→Calls P f args w fun e w'=>e= .returned v∧Rd S w' rb bv bs s'∧Fr [rb] w w') (k:∀w1,dj S w0 w1 rb bv bs s' G'→F w1→N→Q (.returned v) w1) (h:dj S w0 w rb bv bs s G:=by exact oi)
 (g:∀w1,dj S w0 w1 rb bv bs s' G→dj S w0 w1 rb bv bs s' G'∧F w1∧N:=by(intro w h;(try simp only[World.size_alloc,World.size_setCell,ay,ar]at h);exact⟨h,St.fq h.st,St.aq h.st⟩)):Calls P f args w Q:=
 (c h.rd).mono fun e w1 ⟨e1,hR,hF⟩=>by
  have k1:=g w1 (h.call hR hF)
  rw[e1]
  exact k w1 k1.1 k1.2.1 k1.2.2
theorem lL {p':Prop} {P:Program} {f:FuncId} {args:Array Value} {Q:Ending→World→Prop} {S:List Nat} {w0 w:World} {rb:Nat} {bv:Value} {bs:List UInt8} {s:ax} {G G':List bt} (k:dj S w0 w rb bv bs s G'→p') (h:dj S w0 w rb bv bs s G:=by exact oi)
 (g:dj S w0 w rb bv bs s G→dj S w0 w rb bv bs s G':=by(intro h;(try simp only[World.size_alloc,World.size_setCell,ay,ar]at h);exact h)) (e:p'→Calls P f args w Q:=by(intro h;(try simp only[World.size_alloc,World.size_setCell,ay,ar]);exact h)):Calls P f args w Q:=e (k (g h))
theorem dj.pick {S:List Nat} {w0 w:World} {rb:Nat} {bv:Value} {bs:List UInt8} {s:ax} {G G':List bt} (h:dj S w0 w rb bv bs s G) {r:bt} (p:bg G r G'):dj S w0 w rb bv bs s (r::G'):=⟨h.st.pick p,h.org,h.loc,h.le⟩
theorem dj.slM {S:List Nat} {w0 w:World} {rb:Nat} {bv:Value} {bs:List UInt8} {s:ax} {G:List bt} (h:dj S w0 w rb bv bs s G) {e:TypeId} {k n:Nat} {v:Value} {xs:List Value} (p:bt.own e k v n xs∈G):Sl S w k v n xs:=by
 have h3:bf [] w e k v n xs:=h.st.all _ p
 refine bf.sl h3 (S':=S) (fun b hb hm=> ?_)
 obtain⟨s0,h0⟩:=h.org
 have h2:=h.st.new _ p b (by simpa [bt.blk]using hb)
 have h4:=h0.lt b hm
 omega
def atOf (w:World) (rb:Nat):Nat:=match w.cell? ⟨rb,0,none⟩with
 |some (.int _ n)=>n.toNat
 | _=>0
theorem dj.atOf {S:List Nat} {w0 w:World} {rb:Nat} {bv:Value} {bs:List UInt8} {s:ax} {G:List bt} (h:dj S w0 w rb bv bs s G):atOf w rb=s.at_:=by
 unfold Go.Proofs.YtpdlmdlkecnpgaaGreatDoor.atOf
 rw[h.loc.cell 0]
 simp[bW]
theorem yS:Tryz.prog.underlying 174=some ((Tryz.prog.underlying 174).get (by kernel_rfl)):=by kernel_rfl
theorem vQ:(Tryz.prog.info? 174).map (·.size)=some 6:=by kernel_rfl
theorem yQ:Tryz.prog.underlying 300=some ((Tryz.prog.underlying 300).get (by kernel_rfl)):=by kernel_rfl
theorem vC:(Tryz.prog.info? 300).map (·.size)=some 3:=by kernel_rfl
theorem eV {S w rb bv bs s} (h:Rd S w rb bv bs s):Calls Tryz.prog 256 #[.pointer (some ⟨rb,0,none⟩)] w fun e w'=>e= .returned (.bool (s.err !=0))∧Rd S w' rb bv bs s∧Fr [rb] w w':=by
 go_enter Tryz.func256,Tryz.ntmps256
 exact WB
theorem tq {S w rb bv bs s} (h:Rd S w rb bv bs s):Calls Tryz.prog 275 #[.pointer (some ⟨rb,0,none⟩)] w fun e w'=>e= .returned (.int .i64 (aD bs s).1)∧Rd S w' rb bv bs (aD bs s).2∧Fr [rb] w w':=by
 have hlt:=pX bs s
 have hS:=dj.start h
 go_enter Tryz.func275,Tryz.ntmps275
 go_wp2_with (go_at_call 213;(try clear hQ);refine kL (fun h=>zJ h 32 (by decide) (by decide)) fun w1 hS hQ hN=> ?_)
 go_ret
 exact⟨by simp[aD,go_sem, *],by exact tH,by exact td⟩
theorem pK {S w rb bv bs s} (h:Rd S w rb bv bs s):Calls Tryz.prog 282 #[.pointer (some ⟨rb,0,none⟩),.int .u8 3] w fun e w'=>e= .returned (.int .u8 (bV bs 3 s).1)∧Rd S w' rb bv bs (bV bs 3 s).2∧Fr [rb] w w':=by
 have hS:=dj.start h
 have e0:bV bs 3 s=((ai bs s).1,if 3< (ai bs s).1 then(ai bs s).2.fail 60 s.at_ else(ai bs s).2):=rfl
 by_cases hm:3< (ai bs s).1
 ·rw[e0,if_pos hm]
  clear e0
  have hm':(3:Int)< ((ai bs s).1:Nat):=by omega
  exact Yc
 ·rw[e0,if_neg hm]
  clear e0
  have hm':¬(3:Int)< ((ai bs s).1:Nat):=by omega
  exact Yc
def NW (c:cQ):Value:= .agg #[.int .i64 c.kind,.int .i64 c.tag,.int .i64 c.label]
attribute [go_sem] NW
theorem Nr {S w rb bv bs s} (h:Rd S w rb bv bs s):Calls Tryz.prog 281 #[.pointer (some ⟨rb,0,none⟩)] w fun e w'=>e= .returned (NW (cP bs s).1)∧Rd S w' rb bv bs (cP bs s).2∧Fr [rb] w w':=by
 have hS:=dj.start h
 have hb:(bV bs 3 s).1<256:=kV bs s
 have hw:=IntWalk.wrap64_in (((bV bs 3 s).1:Nat):Int) (by omega)
 clear hb
 by_cases hm:(bV bs 3 s).1<2
 ·have e0:cP bs s=(⟨(bV bs 3 s).1,(aD bs (bV bs 3 s).2).1,(aD bs (aD bs (bV bs 3 s).2).2).1⟩,(aD bs (aD bs (bV bs 3 s).2).2).2):=by
   unfold cP jh
   rw[if_pos hm]
  rw[e0]
  clear e0
  have hm':(((bV bs 3 s).1:Nat):Int)<2:=by omega
  exact X1
 ·have e0:cP bs s=(⟨(bV bs 3 s).1,0,(aD bs (bV bs 3 s).2).1⟩,(aD bs (bV bs 3 s).2).2):=by
   unfold cP jh
   rw[if_neg hm]
  rw[e0]
  clear e0
  have hm':¬(((bV bs 3 s).1:Nat):Int)<2:=by omega
  exact X1
theorem sB {S w rb bv bs s} (h:Rd S w rb bv bs s):
 Calls Tryz.prog 276 #[.pointer (some ⟨rb,0,none⟩),.func (.func 275) #[] #[]] w fun e w'=>
  ∃v,e= .returned v∧dj S w w' rb bv bs (am bs (aD bs) s).2 [.own 3 1 v (am bs (aD bs) s).1.length ((am bs (aD bs) s).1.flatMap gK)]:=by
 have hS:=dj.start h
 have hsm:=h.small
 have hCnt:=cn bs s
 have hl:am bs (aD bs) s=av (aD bs) (af bs s).1 (af bs s).2:=rfl
 rw[hl]
 clear hl
 go_enter Tryz.func276,Tryz.ntmps276
 go_wp2_with (go_at_call 199;(try clear hQ);refine kL (fun h=>cZ h) fun w1 hS hQ hN=> ?_)
 go_loopw [5,6] (fun v n wr=>∃(k:Nat) (xs:List Int) (t:ax),n= .int .i64 k∧dj S w wr rb bv bs t [.own 3 1 v xs.length (xs.flatMap gK)]∧k+xs.length=(af bs s).1∧Hid (av (aD bs) (af bs s).1 (af bs s).2=(xs++(av (aD bs) k t).1,(av (aD bs) k t).2))) (fun _ n _=>(intOf n).toNat)
 case atStart=>exact⟨(af bs s).1,[],_,rfl,hS.nil _ _ _,by simp,Lib.hid rfl⟩
 case round=>
  obtain⟨k,xs,t,rfl,hS,hks,hg⟩:=hrel
  have Hks:=Lib.hid hks
  have hbnd:xs.length+1≤1099511627776∨k=0:=by omega
  clear hks
  have hexit:(k=0∨t.err≠0)→av (aD bs) (af bs s).1 (af bs s).2=(xs,t):=by
   exact Tz
  by_cases hk:k=0
  ·exact Ve
  ·have hkp:0<k:=by omega
   by_cases he:t.err=0
   ·have g1:(t.err !=0)=false:=by simp[he]
    have hx:av (aD bs) k t=(((aD bs) t).1::(av (aD bs) (k-1) ((aD bs) t).2).1,(av (aD bs) (k-1) ((aD bs) t).2).2):=by
     exact KF
    have HX:=Lib.hid hx
    have hb2:xs.length+1≤1099511627776:=by omega
    have hk40:k≤1099511627776:=by have:=Hks.out;omega
    clear hx he hexit hbnd
    go_wp2_with first|(go_at_call 256;(try clear hQ);refine kL (fun h=>eV h) fun w1 hS hQ hN=> ?_)|(go_at_call 275;(try clear hQ);refine kL (fun h=>tq h) fun w1 hS hQ hN=> ?_)|(at_builtin;refine Nz rfl rfl rfl rfl ?_;refine WO ?_;intro vN wN hS;(try clear hQ);have hQ:=St.fq hS.st;(try clear hN);have hN:=St.aq hS.st)
    go_roundw
    case rel=>
     refine⟨k-1,xs++ [((aD bs) t).1],((aD bs) t).2,by go_num,?_,by have:=Hks.out;simp;omega,Lib.hid ?_⟩
     ·have e1:(xs++ [((aD bs) t).1]).length=xs.length+1:=by simp
      have e2:(xs++ [((aD bs) t).1]).flatMap gK=xs.flatMap gK++gK ((aD bs) t).1:=by simp
      rw[e1,e2]
      exact hS.only
     ·rw[hg.out,HX.out];simp
    case measure=>simp[intOf];omega
   ·exact X3
theorem oV {S w rb bv bs s} (h:Rd S w rb bv bs s):
 Calls Tryz.prog 280 #[.pointer (some ⟨rb,0,none⟩),.func (.func 281) #[] #[]] w fun e w'=>
  ∃v,e= .returned v∧dj S w w' rb bv bs (am bs (cP bs) s).2 [.own 300 3 v (am bs (cP bs) s).1.length ((am bs (cP bs) s).1.flatMap gZ)]:=by
 have hS:=dj.start h
 have hsm:=h.small
 have hCnt:=cn bs s
 have hl:am bs (cP bs) s=av (cP bs) (af bs s).1 (af bs s).2:=rfl
 rw[hl]
 clear hl
 go_enter Tryz.func280,Tryz.ntmps280
 go_wp2_with (go_at_call 199;(try clear hQ);refine kL (fun h=>cZ h) fun w1 hS hQ hN=> ?_)
 go_loopw [5,6] (fun v n wr=>∃(k:Nat) (xs:List cQ) (t:ax),n= .int .i64 k∧dj S w wr rb bv bs t [.own 300 3 v xs.length (xs.flatMap gZ)]∧k+xs.length=(af bs s).1∧Hid (av (cP bs) (af bs s).1 (af bs s).2=(xs++(av (cP bs) k t).1,(av (cP bs) k t).2))) (fun _ n _=>(intOf n).toNat)
 case atStart=>exact⟨(af bs s).1,[],_,rfl,hS.nil _ _ _,by simp,Lib.hid rfl⟩
 case round=>
  obtain⟨k,xs,t,rfl,hS,hks,hg⟩:=hrel
  have Hks:=Lib.hid hks
  have hbnd:xs.length+1≤1099511627776∨k=0:=by omega
  clear hks
  have hexit:(k=0∨t.err≠0)→av (cP bs) (af bs s).1 (af bs s).2=(xs,t):=by
   exact Tz
  by_cases hk:k=0
  ·exact Ve
  ·have hkp:0<k:=by omega
   by_cases he:t.err=0
   ·have g1:(t.err !=0)=false:=by simp[he]
    have hx:av (cP bs) k t=(((cP bs) t).1::(av (cP bs) (k-1) ((cP bs) t).2).1,(av (cP bs) (k-1) ((cP bs) t).2).2):=by
     exact KF
    have HX:=Lib.hid hx
    have hb2:xs.length+1≤1099511627776:=by omega
    have hk40:k≤1099511627776:=by have:=Hks.out;omega
    clear hx he hexit hbnd
    go_wp2_with first|(go_at_call 256;(try clear hQ);refine kL (fun h=>eV h) fun w1 hS hQ hN=> ?_)|(go_at_call 281;(try clear hQ);refine kL (fun h=>Nr h) fun w1 hS hQ hN=> ?_)|(at_builtin;refine EK rfl rfl rfl rfl ?_;refine WO ?_;intro vN wN hS;(try clear hQ);have hQ:=St.fq hS.st;(try clear hN);have hN:=St.aq hS.st)
    go_roundw
    case rel=>
     refine⟨k-1,xs++ [((cP bs) t).1],((cP bs) t).2,by go_num,?_,by have:=Hks.out;simp;omega,Lib.hid ?_⟩
     ·have e1:(xs++ [((cP bs) t).1]).length=xs.length+1:=by simp
      have e2:(xs++ [((cP bs) t).1]).flatMap gZ=xs.flatMap gZ++gZ ((cP bs) t).1:=by simp
      rw[e1,e2]
      exact hS.only
     ·rw[hg.out,HX.out];simp
    case measure=>simp[intOf];omega
   ·exact X3
def jb {α:Type} (c:Bool) (e:Int) (a:Nat) (x:α):bb α:=fun _ s=>(x,if c then s.fail e a else s)
theorem iq {α:Type} (c:Bool) (e:Int) (a:Nat) (x:α):ci (jb c e a x):=fun bs s h=>by
 unfold jb
 split
 ·exact fU h _ _
 ·rfl
theorem qZ {α:Type} {c:Bool} (h:c=false) (e:Int) (a:Nat) (x:α):RT (jb c e a x) [] x:=fun bs s l _=>by
 subst h
 rfl
theorem xB {α:Type} {c:Bool} (h:c=true) {e:Int} (he:e≠0) (a:Nat) (x:α):og (jb c e a x):=fun bs s h0=>by
 subst h
 unfold jb
 rw[if_pos rfl,eg h0 he]
 exact he
theorem nh {α:Type} (c:Bool) {e:Int} (he:e≠0) (a:Nat) (x:α):cD (jb c e a x) fun y k=>c=false∧y=x∧k=0:=by
 cases hc:c
 ·exact fun bs s _ ha _=>⟨0,(wY s).symm,by omega,rfl,rfl,rfl⟩
 ·exact(xB rfl he a x).back _
theorem BU {α:Type} (c:Bool) {e:Int} (he:e≠0) (a:Nat) (x:α):pZ (jb c e a x):=by
 cases hc:c
 ·exact oL x
 ·exact(xB rfl he a x).cut
def MQ (l:List (Int×List UInt8)):List Int:=l.flatMap fun p=>(List.range p.2.length).map fun(k:Nat)=>p.1+(k:Int)
theorem yp (op:Int):∀(l:List (Int×List UInt8)) (k:Int),0≤(gr l op k).1→op∈MQ l
 | [],_,h=>by simp[gr]at h
 |(f,s)::r,k,h=>by
  unfold gr at h
  unfold MQ
  rw[List.flatMap_cons,List.mem_append]
  by_cases hc:f≤op∧op-f<s.length
  ·left
   rw[if_pos hc]at h
   have e1:(op-f).toNat<s.length:=by omega
   have e2:f+(((op-f).toNat:Nat):Int)=op:=by omega
   exact List.mem_map.2 ⟨_,List.mem_range.2 e1,e2⟩
  ·right
   rw[if_neg hc]at h
   exact yp op r _ h
def UD (op:Int):Bool:=decide (0≤op)&&(decide (op<251)||decide (op/256=251)||decide (op/256=252))&&!iM op&&decide (ag op≠0)
theorem Tw:(MQ ef).all UD=true:=by decide+kernel
theorem ed {op:Int} (h:ag op≠0):0≤op∧(op<251∨op/256=251∨op/256=252)∧iM op=false:=by
 have h1:0≤(gr ef op 0).1:=by
  unfold ag at h
  split at h
  ·exact absurd rfl h
  ·omega
 have h2:=List.all_eq_true.1 Tw op (yp op ef 0 h1)
 unfold UD at h2
 simp only[Bool.and_eq_true,Bool.or_eq_true,decide_eq_true_eq,Bool.not_eq_true']at h2
 obtain⟨⟨⟨a,b⟩,c⟩,_⟩:=h2
 exact⟨a,by omega,c⟩
theorem CY {op:Int} (h:ag op≠0) (a:Nat) (s:ax):je op a s=(op,s):=by
 unfold je
 rw[(ed h).2.2,if_neg h]
 rfl
def lg (op:Int) (a:Nat):bb Int:=fun _ s=>je op a s
theorem sK (op:Int) (a:Nat):lg op a=jb (iM op||decide (ag op=0)) (if iM op then 61 else 60) a op:=by
 funext bs s
 unfold lg jb je
 cases iM op
 ·by_cases h:ag op=0
  ·simp[h]
  ·simp[h]
 ·simp
theorem RP (op:Int):(if iM op then(61:Int)else 60)≠0:=by split<;>decide
theorem sD:cD (fun bs=>rU bs 32) fun x k=>(aI x).length≤k∧x≤4294967295:=(nS 32 (by decide) (by decide)).mono fun x k h=>⟨h.1,by have:=h.2;omega⟩
def nN (a c n:Nat):bb Int:=fun bs s=>if 255<n then(0,s.fail 60 a)else lg ((c:Int)*256+n) a bs s
def oo (a c:Nat):bb Int:=fun bs s=>if c=251∨c=252 then aJ (fun bs=>rU bs 32) (fun _ n=>nN a c n) bs s else lg c a bs s
theorem r0:bA=aJ ai oo:=by
 funext bs s
 unfold bA aJ oo
 by_cases h:(ai bs s).1=251∨(ai bs s).1=252
 ·rw[if_pos h,if_pos h];rfl
 ·rw[if_neg h,if_neg h];rfl
theorem TL {op:Int} (h:ag op≠0):RT bA (xW op) op:=by
 obtain⟨h0,h1,h2⟩:=ed h
 rw[r0]
 unfold xW
 by_cases hs:op<256
 ·have hb:op<251:=by omega
  rw[if_pos hs]
  have e:(UInt8.ofNat op.toNat).toNat=op.toNat:=fh _ (by omega)
  have:=RT.bind (ep (UInt8.ofNat op.toNat)) (G:=oo) (b2:= []) (y:=op) (fun a bs s l _=>by
   unfold oo
   rw[e,if_neg (by omega)]
   show je _ a s= _
   rw[show((op.toNat:Nat):Int)=op by omega,CY h]
   rfl)
  simpa using this
 ·rw[if_neg hs]
  have e:(UInt8.ofNat (op/256).toNat).toNat=(op/256).toNat:=fh _ (by omega)
  refine RT.bind (ep (UInt8.ofNat (op/256).toNat)) (G:=oo) (b2:=au (op% 256)) (y:=op) (fun a bs s l hl=> ?_)
  unfold oo
  rw[e,if_pos (by omega)]
  have:=RT.bind (vm 32 (op% 256).toNat (by decide) (by decide) (by omega)) (G:=fun _ n=>nN a (op/256).toNat n) (b2:= []) (y:=op) (fun a' bs s l _=>by
   unfold nN
   rw[if_neg (by omega)]
   show je _ a s= _
   rw[show(((op/256).toNat:Nat):Int)*256+((op% 256).toNat:Nat)=op by omega,CY h]
   rfl)
  rw[List.append_nil]at this
  exact this bs s l hl
theorem FH (op:Int):1≤(xW op).length:=by
 unfold xW
 split<;>simp
def Yi (op:Int) (k:Nat):Prop:=ag op≠0∧(xW op).length≤k∧1≤k
theorem ue (op:Int) (a:Nat):cD (lg op a) fun x k=>x=op∧ag op≠0∧k=0:=by
 rw[sK]
 refine(nh _ (RP op) a op).mono fun x k ⟨h1,h2,h3⟩=>⟨h2,?_,h3⟩
 simp only[Bool.or_eq_false_iff,decide_eq_false_iff_not]at h1
 exact h1.2
theorem wQ (op:Int) (a:Nat):pZ (lg op a):=by rw[sK];exact BU _ (RP op) a op
theorem rq (op:Int) (a:Nat):ci (lg op a):=by rw[sK];exact iq _ _ a op
theorem xh (a c n:Nat):ci (nN a c n):=fun bs s h=>by
 unfold nN
 split
 ·exact fU h _ _
 ·exact rq _ _ bs s h
theorem yY (a c n:Nat):cD (nN a c n) fun x k=>x=(c:Int)*256+n∧n≤255∧ag x≠0∧k=0:=by
 by_cases h:255<n
 ·have:og (nN a c n):=fun bs s he=>by
   unfold nN
   rw[if_pos h,eg he (by decide)]
   show(60:Int)≠0
   decide
  exact this.back _
 ·have:nN a c n=lg ((c:Int)*256+n) a:=by
   funext bs s
   unfold nN
   rw[if_neg h]
  rw[this]
  refine(ue _ _).mono fun x k ⟨h1,h2,h3⟩=>⟨h1,by omega,by rw[h1];exact h2,h3⟩
theorem Mo (a c n:Nat):pZ (nN a c n):=by
 by_cases h:255<n
 ·have:og (nN a c n):=fun bs s he=>by
   unfold nN
   rw[if_pos h,eg he (by decide)]
   show(60:Int)≠0
   decide
  exact this.cut
 ·have:nN a c n=lg ((c:Int)*256+n) a:=by
   funext bs s
   unfold nN
   rw[if_neg h]
  rw[this]
  exact wQ _ _
theorem yb (a c:Nat) (hc:c<256):cD (oo a c) fun x k=>ag x≠0∧(xW x).length≤1+k:=by
 by_cases h:c=251∨c=252
 ·have:oo a c=aJ (fun bs=>rU bs 32) (fun _ n=>nN a c n):=by
   funext bs s
   unfold oo
   rw[if_pos h]
  rw[this]
  refine(cD.bind (G:=fun _ n=>nN a c n) (Q:=fun n x k=>x=(c:Int)*256+n∧n≤255∧ag x≠0∧k=0) sD (oJ 32) (fun bs s _=>xh a c _) (fun a' n k _=>yY a c n)).mono ?_
  rintro x k ⟨n,k1,k2,rfl,⟨h1,hb⟩,h2,h3,h4,h5⟩
  clear hb
  refine⟨h4,?_⟩
  subst h2
  unfold xW
  rw[if_neg (by omega),show(((c:Int)*256+n)% 256)=n by omega]
  simp only[List.length_cons,au,Int.toNat_natCast]
  omega
 ·have:oo a c=lg c a:=by
   funext bs s
   unfold oo
   rw[if_neg h]
  rw[this]
  refine(ue _ _).mono ?_
  rintro x k ⟨rfl,h2,rfl⟩
  refine⟨h2,?_⟩
  unfold xW
  rw[if_pos (by omega)]
  simp
theorem LM (a c:Nat):pZ (oo a c):=by
 by_cases h:c=251∨c=252
 ·have:oo a c=aJ (fun bs=>rU bs 32) (fun _ n=>nN a c n):=by
   funext bs s
   unfold oo
   rw[if_pos h]
  rw[this]
  exact pZ.bind (G:=fun _ n=>nN a c n) (Q:=fun n x k=>x=(c:Int)*256+n∧n≤255∧ag x≠0∧k=0) sD (z6 32) (fun bs s _=>xh a c _) (fun a' n k _=>yY a c n) (fun a' n k _=>Mo a c n)
 ·have:oo a c=lg c a:=by
   funext bs s
   unfold oo
   rw[if_neg h]
  rw[this]
  exact wQ _ _
theorem pj (a:Nat):ci (oo a 0):=fun bs s h=>by
 unfold oo
 rw[if_neg (by omega)]
 exact rq _ _ bs s h
theorem JT:ci bA:=fun bs s h=>by
 rw[r0]
 unfold aJ
 have h1:=eF bs s h
 have h2:=kO bs s (by rw[h1];exact h)
 rw[h2,pj _ bs _ (by rw[h1];exact h),h1]
theorem Og:cD bA Yi:=by
 rw[r0]
 refine(cD.bind iw eF (fun bs s hc=>tE pj bs s hc) (fun a c k hk=>yb a c hk.2)).mono ?_
 rintro x k ⟨c,k1,k2,rfl,⟨rfl,_⟩,h1,h2⟩
 exact⟨h1,by omega,by omega⟩
theorem Ra:pZ bA:=by
 rw[r0]
 exact pZ.bind iw sR (fun bs s hc=>tE pj bs s hc) (fun a c k hk=>yb a c hk.2) (fun a c k _=>LM a c)
structure dL {α:Type} (F:bb α) (P:α→Nat→Prop):Prop where
 stuck:ci F
 back:cD F P
 cut:pZ F
theorem dL.mono {α:Type} {F:bb α} {P Q:α→Nat→Prop} (h:dL F P) (hq:∀x k,P x k→Q x k):dL F Q:=⟨h.stuck,h.back.mono hq,h.cut⟩
theorem dL.bind {α β:Type} {F:bb α} {G:Nat→α→bb β} {P:α→Nat→Prop} {Q:α→β→Nat→Prop} (hF:dL F P) (hS:∀a x,ci (G a x)) (hG:∀a x k,P x k→dL (G a x) (Q x)):
 dL (aJ F G) (fun y k=>∃x k1 k2,k=k1+k2∧P x k1∧Q x y k2):=
 ⟨fun bs s h=>by
  unfold aJ
  have h1:=hF.stuck bs s h
  rw[hS _ _ bs _ (by rw[h1];exact h),h1],
  cD.bind hF.back hF.stuck (fun _ _ _=>hS _ _) (fun a x k h=>(hG a x k h).back),
  pZ.bind hF.back hF.cut (fun _ _ _=>hS _ _) (fun a x k h=>(hG a x k h).back) (fun a x k h=>(hG a x k h).cut)⟩
theorem dL.map {α β:Type} {F:bb α} {P:α→Nat→Prop} (h:dL F P) (m:α→β):dL (cM F m) (fun y k=>∃x,y=m x∧P x k):=
 ⟨h.stuck,gS h.back m fun x _ hp=>⟨x,rfl,hp⟩,BB h.cut m⟩
theorem dL.ret {α:Type} (x:α):dL (kc x) (fun y k=>y=x∧k=0):=⟨kT x,mM ⟨rfl,rfl⟩,oL x⟩
theorem dL.bad {α:Type} (c:Bool) {e:Int} (he:e≠0) (a:Nat) (x:α):dL (jb c e a x) (fun y k=>c=false∧y=x∧k=0):=⟨iq c e a x,nh c he a x,BU c he a x⟩
theorem dL.alike {α:Type} {F G:bb α} {P:α→Nat→Prop} (h:mH F G) (hG:dL G P):dL F P:=⟨h.stuck hG.stuck,h.back hG.back,h.cut hG.cut⟩
theorem xf:dL ai fun x k=>k=1∧x<256:=⟨eF,iw,sR⟩
theorem JJ:dL (fun bs=>rU bs 32) fun x k=>(aI x).length≤k∧x≤4294967295:=⟨oJ 32,sD,z6 32⟩
theorem Ot:dL bA Yi:=⟨JT,Og,Ra⟩
theorem oa:dL co us:=⟨Ce,xt,yP⟩
theorem E5:dL eT (qo aj bZ):=⟨pu,qz,J5⟩
def Mv (n:Int) (k:Nat):Prop:=ev n=true∧(au n).length≤k∧1≤k
theorem bz (n:Int):ev n=true↔0≤n∧n≤4294967295:=by simp[ev]
theorem Gs:aD=cM (fun bs=>rU bs 32) fun n=>(n:Int):=rfl
theorem bH:dL aD Mv:=by
 rw[Gs]
 refine(JJ.map _).mono ?_
 rintro y k ⟨x,rfl,h1,h2⟩
 have:=dQ x
 exact⟨(bz _).2 (by omega),by simpa [au]using h1,by omega⟩
theorem dZ {n:Int} (h:ev n=true):RT aD (au n) n:=by
 rw[bz]at h
 rw[Gs]
 have:=(vm 32 n.toNat (by decide) (by decide) (by omega)).map (fun n:Nat=>(n:Int))
 rwa [show((n.toNat:Nat):Int)=n by omega]at this
theorem j9 (n:Int):1≤(au n).length:=dQ _
theorem vA {n:Int} (h:n<128):(au n).length=1:=by
 unfold au
 rw[dH _ (by omega)]
 rfl
def gM {α:Type} (F:bb α):bb (List α):=fun bs s=>am bs (F bs) s
theorem rt {α:Type} (F:bb α):mH (gM F) (fx F):=fun bs s=>⟨rfl,fun h=>by
 show _=ax.told _ _ _
 unfold ax.told
 have h:(av (F bs) (af bs s).1 (af bs s).2).2.err=0:=h
 rw[if_pos h]
 rfl⟩
theorem pw {α:Type} {F:bb α} {P:α→Nat→Prop} {pl:α→Bool} {put:α→List UInt8} (hF:dL F P) (hP:∀x k,P x k→pl x=true∧(put x).length≤k∧1≤k):dL (gM F) (qo pl put):=
 dL.alike (rt F) ⟨rj F,jW hF.back hP,wo hF.back hF.cut fun x k h=>(hP x k h).2.2⟩
theorem kD {α:Type} {F:bb α} {put:α→List UInt8} (l:List α) (hn:l.length<4294967296) (h:∀x,x∈l→RT F (put x) x∧1≤(put x).length):RT (gM F) (ae put l) l:=
 RT.alike (rt F) (kK l hn h)
def nw (most:Nat):bb Nat:=fun bs s=>bV bs most s
theorem rJ (most:Nat):nw most=aJ ai fun a c=>jb (decide (most<c)) 60 a c:=by
 funext bs s
 unfold nw bV aJ jb
 by_cases h:most< (ai bs s).1
 ·rw[if_pos h];simp[h]
 ·rw[if_neg h];simp[h]
theorem r9 (most:Nat):dL (nw most) fun x k=>x≤most∧k=1:=by
 rw[rJ]
 refine(xf.bind (G:=fun a c=>jb (decide (most<c)) 60 a c) (Q:=fun c y k=>decide (most<c)=false∧y=c∧k=0) (fun a c=>iq _ 60 a c) (fun a c k _=>dL.bad _ (by decide) a c)).mono ?_
 rintro x k ⟨c,k1,k2,rfl,⟨rfl,_⟩,h1,rfl,rfl⟩
 exact⟨by simpa using h1,rfl⟩
theorem vw (most:Nat) (c:UInt8) (h:c.toNat≤most):RT (nw most) [c] c.toNat:=by
 rw[rJ]
 have:=(ep c).bind (G:=fun a c=>jb (decide (most<c)) 60 a c) (b2:= []) (y:=c.toNat) (fun a=>qZ (by simp;omega) 60 a _)
 simpa using this
theorem qr:lR=aJ aD fun a x=>jb (decide (127<x)) 60 a x:=by
 funext bs s
 unfold lR aJ jb
 by_cases h:127< (aD bs s).1
 ·rw[if_pos h];simp[h]
 ·rw[if_neg h];simp[h]
def nV (_:Nat) (x:Int):bb (Int×Int):=if 64≤x then cM aD fun y=>(x-64,y)else kc (x,0)
theorem wA:gX=aJ lR nV:=by
 funext bs s
 unfold gX aJ nV
 by_cases h:64≤(lR bs s).1
 ·rw[if_pos h,if_pos h];rfl
 ·rw[if_neg h,if_neg h];rfl
def OK (_:Nat) (p:Int×Int):bb (Int×Int×Nat):=cM (fun bs=>rU bs 64) fun u=>(p.1,p.2,u)
def Sw:bb (Int×Int×Nat):=aJ gX OK
theorem DB:dL lR fun x k=>0≤x∧x≤127∧1≤k:=by
 rw[qr]
 refine(bH.bind (G:=fun a x=>jb (decide (127<x)) 60 a x) (Q:=fun c y k=>decide (127<c)=false∧y=c∧k=0) (fun a c=>iq _ 60 a c) (fun a c k _=>dL.bad _ (by decide) a c)).mono ?_
 rintro x k ⟨c,k1,k2,rfl,⟨h0,_,h2⟩,h1,rfl,rfl⟩
 rw[bz]at h0
 simp only[decide_eq_false_iff_not]at h1
 exact⟨by omega,by omega,by omega⟩
theorem zZ (a:Nat) (x:Int):ci (nV a x):=by
 unfold nV
 split
 ·exact bH.stuck
 ·exact kT _
def xe (x y:Int):List UInt8:=if y=0 then au x else au (x+64)++au y
theorem Dt:dL gX fun p k=>0≤p.1∧p.1<64∧ev p.2=true∧(xe p.1 p.2).length≤k:=by
 rw[wA]
 refine(DB.bind zZ (Q:=fun x p k=>if 64≤x then p.1=x-64∧Mv p.2 k else p=(x,0)∧k=0) (fun a x k _=> ?_)).mono ?_
 ·unfold nV
  by_cases h:64≤x
  ·exact UQ
  ·rw[if_neg h]
   refine(dL.ret _).mono ?_
   rintro p k ⟨rfl,rfl⟩
   rw[if_neg h]
   exact⟨rfl,rfl⟩
 ·rintro⟨p,q⟩ k ⟨x,k1,k2,rfl,⟨h1,h2,h3⟩,h4⟩
  by_cases h:64≤x
  ·rw[if_pos h]at h4
   obtain⟨h5,h6,h7,h8⟩:=h4
   dsimp only at h5 h6 h7⊢
   subst h5
   refine⟨by omega,by omega,h6,?_⟩
   unfold xe
   split
   ·rw[vA (by omega)];omega
   ·rw[List.length_append,vA (by omega)];omega
  ·rw[if_neg h]at h4
   obtain⟨h5,rfl⟩:=h4
   injection h5 with h5 h6
   subst h5 h6
   refine⟨by omega,by omega,rfl,?_⟩
   dsimp only
   unfold xe
   rw[if_pos rfl,vA (by omega)]
   omega
theorem yH:dL (fun bs=>rU bs 64) fun x k=>(aI x).length≤k∧x<18446744073709551616:=⟨oJ 64,(nS 64 (by decide) (by decide)).mono fun x k h=>⟨h.1,by have:=h.2;omega⟩,z6 64⟩
theorem J9:dL Sw fun p k=>0≤p.1∧p.1<64∧ev p.2.1=true∧(xe p.1 p.2.1++aI p.2.2).length≤k∧p.2.2<18446744073709551616:=by
 refine(Dt.bind (G:=OK) (fun a x=>yH.stuck) (fun a x k _=>yH.map _)).mono ?_
 rintro⟨p,q,u⟩ k ⟨⟨x,y⟩,k1,k2,rfl,⟨h1,h2,h3,h4⟩,z,h5,h6,h9⟩
 injection h5 with h5 h7
 injection h7 with h7 h8
 subst h5 h7 h8
 refine⟨h1,h2,h3,?_,h9⟩
 rw[List.length_append]
 dsimp only at h4⊢
 omega
theorem PV {x y:Int} {u:Nat} (h1:0≤x) (h2:x<64) (h3:ev y=true) (h4:u<18446744073709551616):RT Sw (xe x y++aI u) (x,y,u):=by
 refine RT.bind (x:=(x,y)) ?_ (fun a=>(vm 64 u (by decide) (by decide) (by omega)).map _)
 rw[wA]
 unfold xe
 by_cases hy:y=0
 ·rw[if_pos hy]
  have h5:RT lR (au x) x:=by
   rw[qr]
   have:=(dZ ((bz x).2 (by omega))).bind (G:=fun a x=>jb (decide (127<x)) 60 a x) (b2:= []) (y:=x) (fun a=>qZ (by simp;omega) 60 a _)
   simpa using this
  have:=h5.bind (G:=nV) (b2:= []) (y:=(x,y)) (fun a=>by
   unfold nV
   rw[if_neg (by omega),hy]
   exact RT.ret _)
  simpa using this
 ·rw[if_neg hy]
  have h5:RT lR (au (x+64)) (x+64):=by
   rw[qr]
   have:=(dZ ((bz (x+64)).2 (by omega))).bind (G:=fun a x=>jb (decide (127<x)) 60 a x) (b2:= []) (y:=x+64) (fun a=>qZ (by simp;omega) 60 a _)
   simpa using this
  refine h5.bind (G:=nV) (fun a=> ?_)
  unfold nV
  rw[if_pos (by omega)]
  rw[show x+64-64=x by omega]
  exact(dZ h3).map _
def mQ (_:Nat) (c:Nat):bb (Int×Int):=if c<2 then cM aD fun t=>((c:Int),t)else kc ((c:Int),0)
theorem sr:jh=aJ (nw 3) mQ:=by
 funext bs s
 unfold jh aJ mQ nw
 by_cases h:(bV bs 3 s).1<2
 ·rw[if_pos h,if_pos h];rfl
 ·rw[if_neg h,if_neg h];rfl
def Aa (_:Nat) (p:Int×Int):bb cQ:=cM aD fun l=>⟨p.1,p.2,l⟩
theorem tX:cP=aJ jh Aa:=rfl
theorem wZ (a c:Nat):ci (mQ a c):=by
 unfold mQ
 split
 ·exact bH.stuck
 ·exact kT _
def P9 (p:Int×Int) (k:Nat):Prop:=0≤p.1∧p.1≤3∧(if p.1<2 then ev p.2=true∧1+(au p.2).length≤k else p.2=0∧1≤k)
theorem zU:dL jh P9:=by
 rw[sr]
 refine((r9 3).bind wZ (Q:=fun(c:Nat) (p:Int×Int) k=>p.1=(c:Int)∧if c<2 then Mv p.2 k else p.2=0) (fun a c k _=> ?_)).mono ?_
 ·unfold mQ
  by_cases h:c<2
  ·exact UQ
  ·rw[if_neg h]
   refine(dL.ret _).mono ?_
   rintro p k ⟨rfl,rfl⟩
   rw[if_neg h]
   exact⟨rfl,rfl⟩
 ·rintro⟨p,q⟩ k ⟨c,k1,k2,rfl,⟨h1,rfl⟩,h2,h3⟩
  dsimp only at h2 h3
  subst h2
  refine⟨by simp,by simp;omega,?_⟩
  dsimp only
  by_cases h:c<2
  ·rw[if_pos h]at h3
   rw[if_pos (by omega)]
   exact⟨h3.1,by have:=h3.2.1;omega⟩
  ·rw[if_neg h]at h3
   rw[if_neg (by omega)]
   exact⟨h3,by omega⟩
def Tc (c:cQ) (k:Nat):Prop:=dm c=true∧(dM c).length≤k∧1≤k
theorem kr (c:cQ):dm c=true↔0≤c.kind∧c.kind≤3∧ev c.label=true∧(if c.kind<2 then ev c.tag=true else c.tag=0):=by
 unfold dm
 by_cases h1:c.kind=0∨c.kind=1
 ·rw[if_pos h1,if_pos (by omega),Bool.and_eq_true]
  exact US
 ·rw[if_neg h1]
  by_cases h2:c.kind=2∨c.kind=3
  ·rw[if_pos h2,if_neg (by omega),Bool.and_eq_true,decide_eq_true_eq]
   exact US
  ·rw[if_neg h2]
   constructor
   ·intro h;cases h
   ·rintro⟨a,b,_⟩;omega
theorem uo:dL cP Tc:=by
 rw[tX]
 refine(zU.bind (G:=Aa) (fun a x=>bH.stuck) (fun a x k _=>bH.map _)).mono ?_
 rintro c k ⟨⟨p,q⟩,k1,k2,rfl,⟨h1,h2,h3⟩,l,rfl,h4,h5,h6⟩
 dsimp only at h1 h2 h3
 refine⟨(kr _).2 ⟨h1,h2,h4,?_⟩,?_,by omega⟩
 ·dsimp only
  split at h3
  ·rw[if_pos (by assumption)];exact h3.1
  ·rw[if_neg (by assumption)];exact h3.1
 ·unfold dM
  dsimp only
  split at h3
  ·rw[if_pos (by assumption),List.length_cons,List.length_append];omega
  ·rw[if_neg (by assumption),List.length_cons,List.nil_append];omega
theorem IZ {c:cQ} (h:dm c=true):RT cP (dM c) c:=by
 obtain⟨h1,h2,h3,h4⟩:=(kr c).1 h
 obtain⟨k,t,l⟩:=c
 dsimp only at h1 h2 h3 h4
 have e:(UInt8.ofNat k.toNat).toNat=k.toNat:=fh _ (by omega)
 have e2:((k.toNat:Nat):Int)=k:=by omega
 rw[tX]
 have h5:RT jh (UInt8.ofNat k.toNat::(if k<2 then au t else [])) (k,t):=by
  rw[sr]
  refine RT.bind (b1:= [UInt8.ofNat k.toNat]) (b2:=if k<2 then au t else []) (vw 3 _ (by rw[e];omega)) (fun a=> ?_)
  unfold mQ
  rw[e]
  by_cases hk:k<2
  ·rw[if_pos hk]at h4
   rw[if_pos (by omega),if_pos hk]
   have:=(dZ h4).map (fun t=>(((k.toNat:Nat):Int),t))
   rwa [e2]at this⊢
  ·rw[if_neg hk]at h4
   rw[if_neg (by omega),if_neg hk,e2,h4]
   exact RT.ret _
 have h6:=h5.bind (G:=Aa) (fun a=>(dZ h3).map fun l=>(⟨k,t,l⟩:cQ))
 simpa [dM]using h6
theorem qE (c:cQ):1≤(dM c).length:=by simp[dM]
def fB (a c:Nat):bb bJ:=fun bs s=>iU bs c a s
def mC (c:Nat):Int:=(bw [UInt8.ofNat c] ah).2.err
def xw (c:Nat):aF:=(bw [UInt8.ofNat c] ah).1
def Gn (c:Nat):Bool:=(if mC c=0 then aj (xw c)&&decide ((bZ (xw c)).length≤1)else true)&&(if mC c=10 then decide (c=99∨c=100)else true)
theorem Kl:(List.range 128).all Gn=true:=by decide+kernel
theorem O4 {c:Nat} (h:c<128):(mC c=0→aj (xw c)=true∧(bZ (xw c)).length≤1)∧(mC c=10→c=99∨c=100):=by
 have h1:=List.all_eq_true.1 Kl c (List.mem_range.2 h)
 unfold Gn at h1
 rw[Bool.and_eq_true]at h1
 obtain⟨h1,h2⟩:=h1
 refine⟨fun h0=> ?_,fun h0=> ?_⟩
 ·rw[if_pos h0,Bool.and_eq_true,decide_eq_true_eq]at h1
  exact h1
 ·rw[if_pos h0,decide_eq_true_eq]at h2
  exact h2
def TS (b:bJ) (k:Nat):Prop:=cY b=true∧(dp b).length≤1+k
theorem K5:cY bJ.zero=true:=by decide
theorem yr {v:aF} (h:aj v=true):cY ⟨1,v,0⟩=true:=by simp[cY,h]
theorem AF {v:aF} (h:aj v=true):dp ⟨1,v,0⟩=bZ v:=by simp[dp,ig h]
theorem jT (n:Bool) (h:aC):aj ⟨3,n,h⟩=dz h:=by simp[aj,dz]
theorem Vx (n:Bool) (h:aC):(bZ ⟨3,n,h⟩).length≤1+(d8 h).length:=by
 unfold bZ
 simp only
 split
 ·omega
 ·split
  ·omega
  ·split
   ·simp;omega
   ·split
    ·simp;omega
    ·omega
theorem rG (a c:Nat) (hc:c<128):dL (fB a c) TS:=by
 obtain⟨h0,h10⟩:=O4 hc
 by_cases h64:c=64
 ·have:fB a c=kc bJ.zero:=by
   funext bs s
   unfold fB iU
   rw[if_pos h64]
   rfl
  rw[this]
  refine(dL.ret _).mono ?_
  rintro x k ⟨rfl,rfl⟩
  exact⟨K5,by decide⟩
 ·by_cases he:mC c=0
  ·have:fB a c=kc ⟨1,xw c,0⟩:=by
    funext bs s
    unfold fB iU
    unfold mC at he
    rw[if_neg h64,if_pos he]
    rfl
   rw[this]
   refine(dL.ret _).mono ?_
   rintro x k ⟨rfl,rfl⟩
   exact⟨yr (h0 he).1,by rw[AF (h0 he).1];exact(h0 he).2⟩
  ·by_cases he2:mC c=10
   ·have:fB a c=cM co fun h=>⟨1,⟨3,c==99,h⟩,0⟩:=by
     funext bs s
     unfold fB iU
     unfold mC at he he2
     rw[if_neg h64,if_neg he,if_pos he2]
     rfl
    rw[this]
    refine(oa.map _).mono ?_
    rintro x k ⟨h,rfl,h1,h2,h3⟩
    have hp:aj ⟨3,c==99,h⟩=true:=by rw[jT];exact h1
    refine⟨yr hp,?_⟩
    rw[AF hp]
    have:=Vx (c==99) h
    omega
   ·have:fB a c=jb true (mC c) a bJ.zero:=by
     funext bs s
     unfold fB iU
     unfold mC at he he2⊢
     rw[if_neg h64,if_neg he,if_neg he2]
     rfl
    rw[this]
    exact(dL.bad true he a bJ.zero).mono fun x k h=>by cases h.1
def fA (a:Nat) (n:Int):bb bJ:=fun bs s=>if 0≤n then(⟨2,aF.zero,n⟩,s)else if 1<s.at_-a then(bJ.zero,s.fail 60 a)else iU bs (iH n) a s
theorem FO (n:Int):iH n<128:=by unfold iH;omega
theorem nF:mH dT (aJ (fun bs=>rS bs 33) fA):=fun bs s=>by
 unfold dT aJ fA
 by_cases h:(rS bs 33 s).2.err≠0
 ·rw[if_pos h,uL bs 33 s h]
  exact⟨rfl,fun h2=>absurd h2 h⟩
 ·rw[if_neg h]
  exact⟨rfl,fun _=>rfl⟩
theorem AU (a:Nat) (n:Int) (k1:Nat) (hk:(eN n).length≤k1∧n≤4294967295):dL (fA a n) fun x k=>cY x=true∧((dp x).length≤1+k∨(dp x).length≤k1):=by
 by_cases h:0≤n
 ·have:fA a n=kc ⟨2,aF.zero,n⟩:=by
   funext bs s
   unfold fA
   rw[if_pos h]
   rfl
  rw[this]
  refine(dL.ret _).mono ?_
  rintro x k ⟨rfl,rfl⟩
  refine⟨?_,.inr ?_⟩
  ·simp[cY,ev,h,hk.2]
  ·simpa [dp]using hk.1
 ·have hV:=rG a (iH n) (FO n)
  refine⟨fun bs s hs=> ?_,fun bs s he ha h0=> ?_,fun bs s k he ha hk c hac hc=> ?_⟩
  ·unfold fA
   rw[if_neg h]
   split
   ·exact fU hs _ _
   ·exact hV.stuck bs s hs
  ·unfold fA at h0⊢
   rw[if_neg h]at h0⊢
   by_cases h1:1<s.at_-a
   ·rw[if_pos h1,eg he (by decide)]at h0
    exact absurd h0 (by show(60:Int)≠0;decide)
   ·rw[if_neg h1]at h0⊢
    obtain⟨k,e1,e2,e3⟩:=hV.back bs s he ha h0
    exact⟨k,e1,e2,e3.1,.inl e3.2⟩
  ·by_cases h1:1<s.at_-a
   ·unfold fA at hk
    rw[if_neg h,if_pos h1,eg he (by decide)]at hk
    have:=congrArg ax.err hk
    simp only[adv_err,he]at this
    exact absurd this (by decide)
   ·have hE:∀bs,fA a n bs s=fB a (iH n) bs s:=fun bs=>by
     unfold fA
     rw[if_neg h,if_neg h1]
     rfl
    have:=hV.cut bs s k he ha (by rw[←hE];exact hk) c hac hc
    unfold oe at this⊢
    rw[hE,hE]
    exact this
theorem xP (a:Nat) (n:Int):ci (fA a n):=fun bs s hs=>by
 unfold fA
 split
 ·rfl
 ·split
  ·exact fU hs _ _
  ·exact(rG a (iH n) (FO n)).stuck bs s hs
def Ub (b:bJ) (k:Nat):Prop:=cY b=true∧(dp b).length≤k∧1≤k
theorem Ka:dL (fun bs=>rS bs 33) fun x k=>(eN x).length≤k∧x≤4294967295:=⟨qY 33,(uJ 33 (by decide) (by decide)).mono fun x k h=>⟨h.1,by have:=h.2.2;omega⟩,Aw 33⟩
theorem uh:dL dT Ub:=by
 refine dL.alike nF ((Ka.bind (G:=fA) xP (Q:=fun n x k=>cY x=true∧((dp x).length≤1+k∨(dp x).length≤(eN n).length)) (fun a n k hk=>AU a n (eN n).length ⟨Nat.le_refl _,hk.2⟩)).mono ?_)
 rintro x k ⟨n,k1,k2,rfl,⟨h1,_⟩,h2,h3⟩
 have:=rg n
 exact⟨h2,by omega,by omega⟩
theorem jw {c:Nat} (h1:64≤c) (h2:c<128) {b2:List UInt8} {y:bJ} (hV:∀a,RT (fB a c) b2 y):RT dT (UInt8.ofNat c::b2) y:=by
 refine RT.alike nF ?_
 have e:eN ((c:Int)-128)= [UInt8.ofNat c]:=by
  rw[eI _ (by omega) (by omega)]
  congr 2
  omega
 have hS:=Ca 33 ((c:Int)-128) (by decide) (by decide) (by omega) (by omega)
 rw[e]at hS
 intro bs s l h
 have h:At bs s ([UInt8.ofNat c]++(b2++l)):=by simpa using h
 unfold aJ
 rw[hS bs s _ h]
 unfold fA
 have h3:¬(0:Int)≤(c:Int)-128:=by omega
 have h4:¬1< (s.adv [UInt8.ofNat c].length).at_-s.at_:=by simp
 have h5:iH ((c:Int)-128)=c:=by unfold iH;omega
 simp only[h3,h4,h5,if_false]
 have:=hV s.at_ bs (s.adv [UInt8.ofNat c].length) l h.adv
 unfold fB at this
 rw[this,dt]
 simp[Nat.add_comm]
theorem oE {v:aF} {c:Nat} (h1:64≤c) (h2:c<128) (h64:c≠64) (hp:aj v=true) (he:bZ v= [UInt8.ofNat c]) (a:Nat):RT (fB a c) [] ⟨1,v,0⟩:=by
 have h:=nU v hp [UInt8.ofNat c] ah [] ⟨rfl,by simp[ah],by simp[ah,he]⟩
 intro bs s l _
 have hE:(bw [UInt8.ofNat c] ah).2.err=0:=by rw[h];rfl
 have hV:(bw [UInt8.ofNat c] ah).1=v:=by rw[h]
 unfold fB iU
 rw[if_neg h64,if_pos hE,hV]
 rfl
theorem ua {c:Nat} (h:c=99∨c=100) {hp:aC} (hh:dz hp=true) (a:Nat):RT (fB a c) (d8 hp) ⟨1,⟨3,c==99,hp⟩,0⟩:=by
 have e:(bw [UInt8.ofNat c] ah).2.err=10:=by rcases h with rfl|rfl<;>decide
 intro bs s l hl
 have h64:c≠64:=by omega
 unfold fB iU
 rw[if_neg h64,if_neg (by rw[e];decide),if_pos e,mY hp hh bs s l hl]
theorem ns (b:bJ):cY b=true↔b=bJ.zero∨(b.kind=1∧aj b.val=true∧b.n=0)∨(b.kind=2∧b.val=aF.zero∧ev b.n=true):=by
 unfold cY
 by_cases h0:b.kind=0
 ·rw[if_pos h0,decide_eq_true_eq]
  constructor
  ·exact .inl
  ·rintro(h|h|h)
   ·exact h
   ·omega
   ·omega
 ·have hz:b≠bJ.zero:=fun h=>h0 (by rw[h];rfl)
  rw[if_neg h0]
  by_cases h1:b.kind=1
  ·rw[if_pos h1,Bool.and_eq_true,decide_eq_true_eq]
   constructor
   ·rintro⟨a,c⟩;exact .inr (.inl ⟨h1,a,c⟩)
   ·rintro(h|h|h)
    ·exact absurd h hz
    ·exact h.2
    ·omega
  ·rw[if_neg h1]
   by_cases h2:b.kind=2
   ·rw[if_pos h2,Bool.and_eq_true,decide_eq_true_eq]
    constructor
    ·rintro⟨a,c⟩;exact .inr (.inr ⟨h2,a,c⟩)
    ·rintro(h|h|h)
     ·exact absurd h hz
     ·omega
     ·exact h.2
   ·rw[if_neg h2]
    constructor
    ·intro h;cases h
    ·rintro(h|h|h)
     ·exact absurd h hz
     ·omega
     ·omega
theorem zj {b:bJ} (h:cY b=true):RT dT (dp b) b:=by
 rcases(ns b).1 h with rfl|⟨h1,h2,h3⟩|⟨h1,h2,h3⟩
 ·exact jw (c:=64) (by decide) (by decide) (fun a bs s l _=>rfl)
 ·obtain⟨k,v,n⟩:=b
  dsimp only at h1 h2 h3
  subst h1 h3
  rw[AF h2]
  obtain⟨k,nl,hp⟩:=v
  by_cases k1:k=1
  ·subst k1
   have e:(⟨1,nl,hp⟩:aF)=⟨1,false,⟨0,0⟩⟩:=by simpa [aj]using h2
   rw[e]
   exact jw (c:=127) (by decide) (by decide) (oE (by decide) (by decide) (by decide) (by decide) (by decide))
  ·by_cases k2:k=2
   ·subst k2
    have e:(⟨2,nl,hp⟩:aF)=⟨2,false,⟨0,0⟩⟩:=by simpa [aj]using h2
    rw[e]
    exact jw (c:=126) (by decide) (by decide) (oE (by decide) (by decide) (by decide) (by decide) (by decide))
   ·have k3:k=3:=by
     unfold aj at h2
     rw[if_neg (by simp only;omega)]at h2
     split at h2
     ·assumption
     ·cases h2
    subst k3
    have hh:dz hp=true:=by rw[←jT nl];exact h2
    cases nl
    ·have e:bZ ⟨3,false,hp⟩=UInt8.ofNat 100::d8 hp:=by simp[bZ]
     rw[e]
     exact jw (c:=100) (by decide) (by decide) (ua (.inr rfl) hh)
    ·by_cases k13:hp.kind=13
     ·have e:bZ ⟨3,true,hp⟩=UInt8.ofNat 99::d8 hp:=by simp[bZ,k13]
      rw[e]
      exact jw (c:=99) (by decide) (by decide) (ua (.inl rfl) hh)
     ·have hg:jd hp=true:=by
       unfold dz at hh
       rw[Bool.or_eq_true]at hh
       rcases hh with hh|hh
       ·exact hh
       ·simp only[bQ,decide_eq_true_eq]at hh
        exact absurd hh.1 k13
      simp only[jd,decide_eq_true_eq]at hg
      obtain⟨g1,g2,g3⟩:=hg
      obtain⟨c,c1,c2,c3⟩:∃c:Nat,105≤c∧c≤116∧cz c=hp.kind:=by
       obtain⟨k,n⟩:=hp
       simp only at g1 g2⊢
       rcases(show k=1∨k=2∨k=3∨k=4∨k=5∨k=6∨k=7∨k=8∨k=9∨k=10∨k=11∨k=12 by omega)with h|h|h|h|h|h|h|h|h|h|h|h
       all_goals subst h
       ·exact⟨110,by decide,by decide,by decide⟩
       ·exact⟨109,by decide,by decide,by decide⟩
       ·exact⟨108,by decide,by decide,by decide⟩
       ·exact⟨107,by decide,by decide,by decide⟩
       ·exact⟨106,by decide,by decide,by decide⟩
       ·exact⟨113,by decide,by decide,by decide⟩
       ·exact⟨112,by decide,by decide,by decide⟩
       ·exact⟨115,by decide,by decide,by decide⟩
       ·exact⟨111,by decide,by decide,by decide⟩
       ·exact⟨114,by decide,by decide,by decide⟩
       ·exact⟨105,by decide,by decide,by decide⟩
       ·exact⟨116,by decide,by decide,by decide⟩
      have e:bZ ⟨3,true,hp⟩= [UInt8.ofNat c]:=by
       have hb:=(nA (c:=c) (by rw[c3];omega)).2.2.1
       rw[c3]at hb
       unfold bZ
       simp only
       rw[if_neg (by decide),if_neg (by decide),if_neg (by decide),if_neg k13]
       unfold d8
       rw[if_neg k13]
       exact hb
      rw[e]
      exact jw (c:=c) (by omega) (by omega) (oE (by omega) (by omega) (by omega) h2 e)
 ·obtain⟨k,v,n⟩:=b
  dsimp only at h1 h2 h3
  subst h1 h2
  rw[bz]at h3
  have e:dp ⟨2,aF.zero,n⟩=eN n++ []:=by simp[dp]
  rw[e]
  refine RT.alike nF ((Ca 33 n (by decide) (by decide) (by omega) (by omega)).bind (G:=fA) (fun a bs s l _=> ?_))
  unfold fA
  rw[if_pos h3.1]
  rfl
def fw (op:Int):bb aa:=fun bs s=>cA bs op s
theorem NG {op:Int} (h:ag op=4∨ag op=6):fw op=cM aD fun x=>{aa.of op with x:=x}:=by
 funext bs s;unfold fw cA;rw[if_pos h];rfl
theorem RF {op:Int} (h:ag op=7):fw op=aJ aD fun _ x=>cM aD fun y=>{aa.of op with x:=x,y:=y}:=by
 exact PB
theorem RJ {op:Int} (h:ag op=5):fw op=aJ (gM aD) fun _ l=>cM aD fun x=>{aa.of op with labels:=l,x:=x}:=by
 exact PB
theorem RX {op:Int} (h:ag op=8):fw op=cM Sw fun p=>{aa.of op with x:=p.1,y:=p.2.1,u:=p.2.2}:=by
 exact PB
theorem RK {op:Int} (h:ag op=9):fw op=cM (fun bs=>rS bs 32) fun n=>{aa.of op with u:=(n% 4294967296).toNat}:=by
 exact PB
theorem Ll {op:Int} (h:ag op=10):fw op=cM (fun bs=>rS bs 64) fun n=>{aa.of op with u:=(n% 18446744073709551616).toNat}:=by
 exact PB
theorem Lp {op:Int} (h:ag op=11):fw op=cM co fun x=>{aa.of op with heap:=x}:=by
 exact PB
theorem N1 {op:Int} (h:ag op=12):fw op=cM eT fun x=>{aa.of op with types:=x}:=by
 exact PB
theorem RB {op:Int} (h:ag op=2):fw op=cM dT fun x=>{aa.of op with block:=x}:=by
 exact PB
theorem RD {op:Int} (h:ag op=3):fw op=aJ dT fun _ b=>cM (gM cP) fun l=>{aa.of op with block:=b,catches:=l}:=by
 exact PB
def MK (op:Int) (c:Nat) (x:Int) (a:aC):bb aa:=cM co fun b=>{aa.of op with null:=c% 2==1,null2:=c/2% 2==1,x:=x,heap:=a,heap2:=b}
def Qf (op:Int) (c:Nat) (x:Int):bb aa:=aJ co fun _ a=>MK op c x a
def Rl (op:Int) (c:Nat):bb aa:=aJ aD fun _ x=>Qf op c x
theorem Nn {op:Int} (h:ag op=13):fw op=aJ (nw 3) fun _ c=>Rl op c:=by
 exact PB
def oS (op:Int):Prop:=ag op≠4∧ag op≠6∧ag op≠7∧ag op≠5∧ag op≠8∧ag op≠9∧ag op≠10∧ag op≠11∧ag op≠12∧ag op≠2∧ag op≠3∧ag op≠13
theorem FG {op:Int} (h:oS op):fw op=kc (aa.of op):=by
 obtain⟨h4,h6,h7,h5,h8,h9,h10,h11,h12,h2,h3,h13⟩:=h
 funext bs s;unfold fw cA;simp[h4,h6,h7,h5,h8,h9,h10,h11,h12,h2,h3,h13];rfl
theorem fL (op:Int):oS op∨(ag op=4∨ag op=6)∨ag op=7∨ag op=5∨ag op=8∨ag op=9∨ag op=10∨ag op=11∨ag op=12∨ag op=2∨ag op=3∨ag op=13:=by
 unfold oS;omega
theorem zN {i:aa} (h:ag i.op≠0):dx i=((cu i).1&&decide ((cu i).2=aa.of i.op)):=by
 unfold dx;rw[if_neg h]
theorem cU {i:aa} (h:dx i=true):ag i.op≠0:=by
 intro h0
 unfold dx at h
 rw[if_pos h0]at h
 cases h
theorem Wh {op x:Int} (h:ag op=4∨ag op=6):dx {aa.of op with x:=x}=ev x:=by
 rw[zN (by show ag op≠0;omega)]
 have h':ag (aa.of op).op=4∨ag (aa.of op).op=6:=h
 simp only[cu,h',if_true]
 simp[aa.of]
theorem wc {i:aa} (h:ag i.op=4∨ag i.op=6) (hm:dx i=true):ev i.x=true∧i={aa.of i.op with x:=i.x}:=by
 rw[zN (by omega)]at hm
 simp only[cu,h,if_true,Bool.and_eq_true,decide_eq_true_eq]at hm
 refine⟨hm.1,?_⟩
 obtain⟨op,x,y,u,a,b,c,d,e,f,g,j⟩:=i
 have:=hm.2
 simp only[aa.of,aa.mk.injEq]at this⊢
 simp[this]
theorem iJ {i:aa} {b:Bool} {j:aa} (h:ag i.op≠0) (hp:cu i=(b,j)):dx i=(b&&decide (j=aa.of i.op)):=by
 rw[zN h,hp]
theorem x6 {i:aa} (h:ag i.op=7):cu i=(ev i.x&&ev i.y,{i with x:=0,y:=0}):=by simp[cu,h]
theorem zd {i:aa} (h:ag i.op=5):cu i=(ev i.x&&i.labels.all ev,{i with x:=0,labels:= []}):=by simp[cu,h]
theorem yF {i:aa} (h:ag i.op=8):cu i=(decide (0≤i.x)&&decide (i.x<64)&&ev i.y,{i with x:=0,y:=0,u:=0}):=by simp[cu,h]
theorem ym {i:aa} (h:ag i.op=9):cu i=(decide (i.u<4294967296),{i with u:=0}):=by simp[cu,h]
theorem zO {i:aa} (h:ag i.op=10):cu i=(true,{i with u:=0}):=by simp[cu,h]
theorem tj {i:aa} (h:ag i.op=11):cu i=(ja i.heap,{i with heap:=aC.zero}):=by simp[cu,h]
theorem qU {i:aa} (h:ag i.op=12):cu i=(i.types.all aj,{i with types:= []}):=by simp[cu,h]
theorem yt {i:aa} (h:ag i.op=2):cu i=(cY i.block,{i with block:=bJ.zero}):=by simp[cu,h]
theorem yC {i:aa} (h:ag i.op=3):cu i=(cY i.block&&i.catches.all dm,{i with block:=bJ.zero,catches:= []}):=by simp[cu,h]
theorem tt {i:aa} (h:ag i.op=13):cu i=(ev i.x&&ja i.heap&&ja i.heap2,{i with x:=0,null:=false,null2:=false,heap:=aC.zero,heap2:=aC.zero}):=by simp[cu,h]
theorem FD {i:aa} (h:oS i.op):cu i=(true,i):=by
 obtain⟨h4,h6,h7,h5,h8,h9,h10,h11,h12,h2,h3,h13⟩:=h
 simp[cu,h4,h6,h7,h5,h8,h9,h10,h11,h12,h2,h3,h13]
def lJ (i:aa) (k:Nat):Prop:=i.u<18446744073709551616∧i.labels.length≤k∧i.types.length≤k∧i.catches.length≤k
def VC (op:Int) (i:aa) (k:Nat):Prop:=i.op=op∧dx i=true∧(aW i).length≤k∧lJ i k
theorem mc {i:aa} (k:Nat) (hu:i.u=0) (h1:i.labels= []) (h2:i.types= []) (h3:i.catches= []):lJ i k:=⟨by omega,by simp[h1],by simp[h2],by simp[h3]⟩
theorem xr {α:Type} {put:α→List UInt8} {l:List α} {k:Nat} (h:∀x,x∈l→1≤(put x).length) (hk:(ae put l).length≤k):l.length≤k:=by
 have:=fZ put l h
 simp only[ae,List.length_append]at hk
 omega
theorem vz {i:aa} (h:ag i.op=4∨ag i.op=6):aW i=au i.x:=by unfold aW;rw[if_neg (by omega),if_pos h]
theorem FI {i:aa} (h:ag i.op=7):aW i=au i.x++au i.y:=by simp[aW,h]
theorem A8 {i:aa} (h:ag i.op=5):aW i=ae au i.labels++au i.x:=by simp[aW,h,ae]
theorem F6 {i:aa} (h:ag i.op=8):aW i=xe i.x i.y++aI i.u:=by simp[aW,h,xe]
theorem F3 {i:aa} (h:ag i.op=9):aW i=eN (j0 i.u):=by simp[aW,h]
theorem zB {i:aa} (h:ag i.op=10):aW i=eN (fC i.u):=by simp[aW,h]
theorem A1 {i:aa} (h:ag i.op=11):aW i=jt i.heap:=by simp[aW,h]
theorem xu {i:aa} (h:ag i.op=12):aW i=oj i.types:=by simp[aW,h]
theorem GK {i:aa} (h:ag i.op=2):aW i=dp i.block:=by simp[aW,h]
theorem CE {i:aa} (h:ag i.op=3):aW i=dp i.block++ae dM i.catches:=by simp[aW,h,ae]
theorem AC {i:aa} (h:ag i.op=13):aW i= [ke i.null i.null2]++(au i.x++(jt i.heap++jt i.heap2)):=by simp[aW,h]
theorem FC {i:aa} (h:oS i.op):aW i= []:=by
 obtain⟨h4,h6,h7,h5,h8,h9,h10,h11,h12,h2,h3,h13⟩:=h
 simp[aW,h4,h6,h7,h5,h8,h9,h10,h11,h12,h2,h3,h13]
theorem kN {h:aC} (p:dz h=true):jt h=d8 h:=ng (by rw[jT];exact p)
theorem pH (h:aC):ja h=dz h:=jT false h
theorem Di (n:Int) (h1: -2147483648≤n) (h2:n<2147483648):j0 (n% 4294967296).toNat=n:=by unfold j0;split<;>omega
theorem Es (n:Int) (h1: -9223372036854775808≤n) (h2:n<9223372036854775808):fC (n% 18446744073709551616).toNat=n:=by unfold fC;split<;>omega
theorem Ig:dL (fun bs=>rS bs 32) fun x k=>(eN x).length≤k∧ -2147483648≤x∧x<2147483648:=⟨qY 32,(uJ 32 (by decide) (by decide)).mono fun x k h=>⟨h.1,by have:=h.2.1;omega,by have:=h.2.2;omega⟩,Aw 32⟩
theorem KS:dL (fun bs=>rS bs 64) fun x k=>(eN x).length≤k∧ -9223372036854775808≤x∧x<9223372036854775808:=⟨qY 64,(uJ 64 (by decide) (by decide)).mono fun x k h=>⟨h.1,by have:=h.2.1;omega,by have:=h.2.2;omega⟩,Aw 64⟩
theorem vj {op:Int} (h0:ag op≠0):dL (fw op) (VC op):=by
 rcases fL op with h|h|h|h|h|h|h|h|h|h|h|h
 ·rw[FG h]
  refine(dL.ret _).mono ?_
  rintro i k ⟨rfl,rfl⟩
  exact⟨rfl,by rw[iJ (i:=aa.of op) h0 (FD h)];simp[aa.of],by rw[FC (i:=aa.of op) h];exact Nat.le_refl _,mc _ rfl rfl rfl rfl⟩
 ·rw[NG h]
  refine(bH.map _).mono ?_
  rintro i k ⟨x,rfl,h1,h2,_⟩
  exact⟨rfl,by rw[Wh h];exact h1,by rw[vz (i:={aa.of op with x:=x}) h];exact h2,mc _ rfl rfl rfl rfl⟩
 ·rw[RF h]
  refine(bH.bind (G:=fun _ x=>cM aD fun y=>{aa.of op with x:=x,y:=y}) (fun a x=>bH.stuck) (fun a x k _=>bH.map _)).mono ?_
  rintro i k ⟨x,k1,k2,rfl,⟨h1,h2,_⟩,y,rfl,h3,h4,_⟩
  refine⟨rfl,?_,?_,mc _ rfl rfl rfl rfl⟩
  ·rw[iJ (i:={aa.of op with x:=x,y:=y}) h0 (x6 h)];simp[aa.of,h1,h3]
  ·rw[FI (i:={aa.of op with x:=x,y:=y}) h,List.length_append];simp only;omega
 ·rw[RJ h]
  refine((pw bH (fun _ _ h=>h)).bind (G:=fun _ l=>cM aD fun x=>{aa.of op with labels:=l,x:=x}) (fun a x=>bH.stuck) (fun a x k _=>bH.map _)).mono ?_
  rintro i k ⟨l,k1,k2,rfl,⟨h1,h2,_⟩,x,rfl,h3,h4,_⟩
  refine⟨rfl,?_,?_,⟨(by decide:(0:Nat)< _),Nat.le_trans (xr (fun x _=>j9 x) h2) (Nat.le_add_right _ _),Nat.zero_le _,Nat.zero_le _⟩⟩
  ·rw[iJ (i:={aa.of op with labels:=l,x:=x}) h0 (zd h)];simp only[h1,h3];simp[aa.of]
  ·rw[A8 (i:={aa.of op with labels:=l,x:=x}) h,List.length_append];simp only;omega
 ·rw[RX h]
  refine(J9.map _).mono ?_
  rintro i k ⟨⟨x,y,u⟩,rfl,h1,h2,h3,h4,h5⟩
  dsimp only at h1 h2 h3 h4 h5
  refine⟨rfl,?_,?_,⟨by simpa using h5,Nat.zero_le _,Nat.zero_le _,Nat.zero_le _⟩⟩
  ·rw[iJ (i:={aa.of op with x:=x,y:=y,u:=u}) h0 (yF h)];simp[aa.of,h1,h2,h3]
  ·rw[F6 (i:={aa.of op with x:=x,y:=y,u:=u}) h];exact h4
 ·rw[RK h]
  refine(Ig.map _).mono ?_
  rintro i k ⟨n,rfl,h1,h2,h3⟩
  refine⟨rfl,?_,?_,⟨by show(n% 4294967296).toNat< _;omega,Nat.zero_le _,Nat.zero_le _,Nat.zero_le _⟩⟩
  ·rw[iJ (i:={aa.of op with u:=(n% 4294967296).toNat}) h0 (ym h)];simp[aa.of];omega
  ·rw[F3 (i:={aa.of op with u:=(n% 4294967296).toNat}) h];simp only;rw[Di n h2 h3];exact h1
 ·rw[Ll h]
  refine(KS.map _).mono ?_
  rintro i k ⟨n,rfl,h1,h2,h3⟩
  refine⟨rfl,?_,?_,⟨by show(n% 18446744073709551616).toNat< _;omega,Nat.zero_le _,Nat.zero_le _,Nat.zero_le _⟩⟩
  ·rw[iJ (i:={aa.of op with u:=(n% 18446744073709551616).toNat}) h0 (zO h)];simp[aa.of]
  ·rw[zB (i:={aa.of op with u:=(n% 18446744073709551616).toNat}) h];simp only;rw[Es n h2 h3];exact h1
 ·rw[Lp h]
  refine(oa.map _).mono ?_
  rintro i k ⟨x,rfl,h1,h2,_⟩
  refine⟨rfl,?_,?_,mc _ rfl rfl rfl rfl⟩
  ·rw[iJ (i:={aa.of op with heap:=x}) h0 (tj h)];simp[aa.of,pH,h1]
  ·rw[A1 (i:={aa.of op with heap:=x}) h];simp only;rw[kN h1];exact h2
 ·rw[N1 h]
  refine(E5.map _).mono ?_
  rintro i k ⟨x,rfl,h1,h2,_⟩
  refine⟨rfl,?_,?_,⟨(by decide:(0:Nat)< _),Nat.zero_le _,xr (fun x hx=>iR x (List.all_eq_true.1 h1 x hx)) h2,Nat.zero_le _⟩⟩
  ·rw[iJ (i:={aa.of op with types:=x}) h0 (qU h)];simp only[h1];simp[aa.of]
  ·rw[xu (i:={aa.of op with types:=x}) h];simp only;rw[tr h1];exact h2
 ·rw[RB h]
  refine(uh.map _).mono ?_
  rintro i k ⟨x,rfl,h1,h2,_⟩
  refine⟨rfl,?_,?_,mc _ rfl rfl rfl rfl⟩
  ·rw[iJ (i:={aa.of op with block:=x}) h0 (yt h)];simp[aa.of,h1]
  ·rw[GK (i:={aa.of op with block:=x}) h];exact h2
 ·rw[RD h]
  refine(uh.bind (G:=fun _ b=>cM (gM cP) fun l=>({aa.of op with block:=b,catches:=l}:aa)) (fun a x=>(pw uo (fun _ _ h=>h)).stuck) (fun a x k _=>(pw uo (fun _ _ h=>h)).map _)).mono ?_
  rintro i k ⟨b,k1,k2,rfl,⟨h1,h2,_⟩,l,rfl,h3,h4,_⟩
  refine⟨rfl,?_,?_,⟨(by decide:(0:Nat)< _),Nat.zero_le _,Nat.zero_le _,Nat.le_trans (xr (fun x _=>qE x) h4) (Nat.le_add_left _ _)⟩⟩
  ·rw[iJ (i:={aa.of op with block:=b,catches:=l}) h0 (yC h)];simp only[h1,h3];simp[aa.of]
  ·rw[CE (i:={aa.of op with block:=b,catches:=l}) h,List.length_append];simp only;omega
 ·rw[Nn h]
  have hb:∀c x a,dL (MK op c x a) fun i k=>∃b,i={aa.of op with null:=c% 2==1,null2:=c/2% 2==1,x:=x,heap:=a,heap2:=b}∧us b k:=fun c x a=>oa.map _
  have ha:∀c x,dL (Qf op c x) fun i k=>∃a k1 k2,k=k1+k2∧us a k1∧∃b,i={aa.of op with null:=c% 2==1,null2:=c/2% 2==1,x:=x,heap:=a,heap2:=b}∧us b k2:=fun c x=>oa.bind (G:=fun _ a=>MK op c x a) (fun _ a=>(hb c x a).stuck) (fun _ a k _=>hb c x a)
  have hx:∀c,dL (Rl op c) fun i k=>∃x k1 k2,k=k1+k2∧Mv x k1∧∃a k3 k4,k2=k3+k4∧us a k3∧∃b,i={aa.of op with null:=c% 2==1,null2:=c/2% 2==1,x:=x,heap:=a,heap2:=b}∧us b k4:=fun c=>bH.bind (G:=fun _ x=>Qf op c x) (fun _ x=>(ha c x).stuck) (fun _ x k _=>ha c x)
  refine((r9 3).bind (G:=fun _ c=>Rl op c) (fun _ c=>(hx c).stuck) (fun _ c k _=>hx c)).mono ?_
  rintro i k ⟨c,k0,k9,rfl,⟨_,rfl⟩,x,k1,k2,rfl,⟨h1,h2,_⟩,a,k3,k4,rfl,⟨h3,h4,_⟩,b,rfl,h5,h6,_⟩
  refine⟨rfl,?_,?_,mc _ rfl rfl rfl rfl⟩
  ·rw[iJ (i:={aa.of op with null:=c% 2==1,null2:=c/2% 2==1,x:=x,heap:=a,heap2:=b}) h0 (tt h)];simp[aa.of,pH,h1,h3,h5]
  ·rw[AC (i:={aa.of op with null:=c% 2==1,null2:=c/2% 2==1,x:=x,heap:=a,heap2:=b}) h];simp only;rw[kN h3,kN h5];simp only[List.length_append,List.length_cons,List.length_nil];omega
theorem Oo (a0 a1 a2 a3 a4 a5 a6 a7 a8 a9 a10 a11 a12 a13 a14 a15 a16 a17 a18:Value):Instr.fill (fun i=>some (i*19,19)) ((Array.range (1*19)).map ((Value.agg (cp (aa.of 0) (.slice none 0 0) (.slice none 0 0) (.slice none 0 0)).toArray).cells[·% (Value.agg (cp (aa.of 0) (.slice none 0 0) (.slice none 0 0) (.slice none 0 0)).toArray).cells.size]!)) [(0,.agg #[a0,a1,a2,a3,a4,a5,a6,a7,a8,a9,a10,a11,a12,a13,a14,a15,a16,a17,a18])]=some #[a0,a1,a2,a3,a4,a5,a6,a7,a8,a9,a10,a11,a12,a13,a14,a15,a16,a17,a18]:=by
 kernel_rfl
theorem lW {w:World} {ops:Array Oper} {rest:List Oper} {o:Oper} {a:Act} {Q:Exit→Act→World→Prop} {x:Operand} {i:aa} {tv lv cv:Value} (hg:o.guard=none) (ho:o.op= .buildSlice 53 1 #[(0,x)]) (hx:a.eval x= .agg (cp i tv lv cv).toArray)
 (h:wpList Tryz.prog ops Q rest (a.put o.dst (.slice (some ⟨w.heap.size,0,none⟩) 1 1)) (w.alloc (.cells (cp i tv lv cv).toArray 177))):wpList Tryz.prog ops Q (o::rest) a w:=by
 obtain⟨i0,hi,hz0,hz1,hz2⟩:=info_parts Bq
 refine wpList_buildSlice hg _ _ 1 _ ho _ i0 _ vT hi hz0 (by rw[hz1];decide) (by rw[hz1];decide) ?_ h
 rw[hz1]
 have e:((#[(0,x)]:Array (Nat×Operand)).map fun(i,x)=>(i,a.eval x)).toList= [(0,a.eval x)]:=by simp
 rw[e,hx]
 exact Oo _ _ _ _ _ _ _ _ _ _ _ _ _ _ _ _ _ _ _
end Go.Proofs.YtpdlmdlkecnpgaaGreatDoor
