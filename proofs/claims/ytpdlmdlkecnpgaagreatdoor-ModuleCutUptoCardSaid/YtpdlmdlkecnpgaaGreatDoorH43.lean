/- Texts: ArgM MdPm MdPn MdRx MdKw. -/
import Derived.Test.YtpdlmdlkecnpgaaGreatDoorH0
import Derived.Test.YtpdlmdlkecnpgaaGreatDoorH42
import Derived.Test.YtpdlmdlkecnpgaaGreatDoorRows
import Derived.Test.YtpdlmdlkecnpgaaGreatDoorH38
import Derived.Test.YtpdlmdlkecnpgaaGreatDoorH40
set_option linter.unusedSimpArgs false
set_option linter.unusedVariables false
namespace Go.Proofs.YtpdlmdlkecnpgaaGreatDoor
open Go.ChangeShapes Go.WideShapes Go.ChangeAt Go.RowKit Go.Joins
set_option maxRecDepth 100000
theorem oz {H:Type} (d:DataW H):1≤Rows.uptoBulk d:=by
 cases d with
 |lit l=>cases l<;>simp[Rows.uptoBulk]
 |nil=>simp[Rows.uptoBulk]
 |ptr d=>simp[Rows.uptoBulk]
 |slice elems spare=>simp[Rows.uptoBulk]
 |agg parts=>simp[Rows.uptoBulk]
 |iface t d=>simp[Rows.uptoBulk]
 |map entries=>simp[Rows.uptoBulk]
 |held h=>simp[Rows.uptoBulk]
theorem vR {H:Type} {α:Type} {wt:α→Nat} {A:Nat→α} {D:Nat→DataW H}:∀(n:Nat),(∀i,i<n→wt (A i)≤Rows.uptoBulk (D i))→(((List.range n).map A).map wt).sum≤Rows.uptoBulkAll ((List.range n).map D)
 |0,_=>by simp
 |n+1,h=>by
  have h1:=vR n fun i hi=>h i (by omega)
  have h2:=h n (by omega)
  have e:∀(l:List (DataW H)) (d:DataW H),Rows.uptoBulkAll (l++ [d])=Rows.uptoBulkAll l+Rows.uptoBulk d:=by
   intro l d
   induction l with
   |nil=>simp[Rows.uptoBulkAll]
   |cons x l ih=>simp only[List.cons_append,Rows.uptoBulkAll,ih];omega
  simp only[List.range_succ,List.map_append,List.map_cons,List.map_nil,List.sum_append,List.sum_cons,List.sum_nil,e]
  omega
theorem an.flat {α:Type} {k:Nat} {C:α→List Value} {v:Value} {xs:List α} {w:World} (h:an k (aE C) v xs w):Sl [] w k v xs.length (xs.flatMap C):=by
 obtain⟨cs,h1,h2⟩:=h
 rwa [bU.plain h2]at h1
theorem Cm {α:Type} {R:α→List Value→World→Prop} {w:World}:∀(l:List (α×List Value)),(∀a,a∈l→R a.1 a.2 w)→bU R (l.map (·.1)) (l.flatMap (·.2)) w
 | [],_=>rfl
 |a::l,h=>⟨a.2,l.flatMap (·.2),rfl,h a (by simp),Cm l fun b hb=>h b (by simp[hb])⟩
section
variable {H : Type} {enc : TypeId × Value → H} {w : World} {sp : Nat → Bool} {held : Bool} {fuel : Nat} {cs : List Value} {x : DataW H × List MemPlace}
def tw (enc:TypeId×Value→H) (w:World) (sp:Nat→Bool) (held:Bool) {α:Type} (t:TypeId) (R:α→List Value→World→Prop) (wt:α→Nat) (Q:α→Prop):Prop:=
 ∀(fuel:Nat) (cs:List Value) (x:DataW H×List MemPlace),DataW.trod enc Tryz.prog w 0 sp held fuel t cs=some x→∃a,R a cs w∧Q a∧wt a≤Rows.uptoBulk x.1
theorem dU {α:Type} [Inhabited α] {R:α→List Value→World→Prop} {k:Nat} {wt:α→Nat} {Q:α→Prop} (hR:uO R k) (hk0:0<k) {t e:TypeId} (ht:Tryz.prog.underlying t=some (.slice e)) (hk:Tryz.prog.cellsOf e=k) (hel:tw enc w sp held e R wt Q)
 (h:DataW.trod enc Tryz.prog w 0 sp held fuel t cs=some x):∃(v:Value) (l:List α),cs= [v]∧an k R v l w∧(∀a,a∈l→Q a)∧1+(l.map wt).sum≤Rows.uptoBulk x.1:=by
 rcases Go.Deep.open_slice ht h with⟨rfl,rfl⟩|⟨a,len,cap,m,n,D,Pl,rfl,_,hl,hm,hmm,rfl,hx⟩
 ·exact⟨_,[],rfl,an.nil _ _ _,(fun _ h=>by cases h),by simp[Rows.uptoBulk]⟩
 ·have hlm:len≤m:=by rw[hmm];split<;>omega
  obtain⟨A,hA⟩:=Go.Deep.choose_lt (α:=α×List Value) (p:=fun i b=>w.cells? 0 (a.add (i*Tryz.prog.cellsOf e)) (Tryz.prog.cellsOf e)=some b.2∧(R b.1 b.2 w∧Q b.1∧wt b.1≤Rows.uptoBulk (D i))) (n:=m) (fun i hi=>by
   obtain⟨cs',c1,c2⟩:=hx i hi
   obtain⟨a',q⟩:=hel _ _ _ c2
   exact⟨(a',cs'),c1,q⟩)
  rw[hk]at hA
  have hf:∀i,i<m→(A i).2.length=k:=fun i hi=>hR.len _ _ _ (hA i hi).2.1
  let L:=(List.range len).map A
  have hLen:L.length=len:=by simp[L]
  have hQ:∀a',a'∈L→∃i,i<m∧a'=A i:=by
   intro a' ha'
   obtain⟨i,hi,rfl⟩:=List.mem_map.1 ha'
   exact⟨i,by have:=List.mem_range.1 hi;omega,rfl⟩
  refine⟨_,L.map (·.1),rfl,⟨L.flatMap (·.2),?_,Cm L fun a' ha'=> ?_⟩,fun b hb=> ?_,?_⟩
  ·rw[List.length_map,hLen]
   refine⟨?_,?_,some a,cap,rfl,hl,hm,fun h=>(by cases h),?_⟩
   ·have:∀(l:List (α×List Value)),(∀b,b∈l→b.2.length=k)→(l.flatMap (·.2)).length=l.length*k:=by
     intro l
     induction l with
     |nil=>simp
     |cons b l ih=>
      intro hb
      rw[List.flatMap_cons,List.length_append,hb b (by simp),ih fun c hc=>hb c (by simp[hc]),List.length_cons,Nat.add_mul]
      omega
    rw[this L (fun b hb=>by obtain⟨i,hi,rfl⟩:=hQ b hb;exact hf i hi),hLen]
   ·intro u hu
    obtain⟨a',ha',hu⟩:=List.mem_flatMap.1 hu
    obtain⟨i,hi,rfl⟩:=hQ a' ha'
    exact hR.one _ _ _ (hA i hi).2.1 u hu
   ·by_cases h0:len=0
    ·exact .inl h0
    ·right
     obtain⟨b,off,spot⟩:=a
     have hcell:∀i,i<len→∀r,r<k→w.cell? (((⟨b,off,spot⟩:Addr).add (i*k)).add r)=(A i).2[r]? :=fun i hi r hr=>(World.cells?_some (hA i (by omega)).1).2.2 r hr
     have hspot:spot=none:=by
      have hc0:=hcell 0 (by omega) 0 hk0
      rw[List.getElem?_eq_getElem (by rw[hf 0 (by omega)];exact hk0)]at hc0
      simpa [Addr.add]using World.cell?_spot hc0
     subst hspot
     have hcell':∀i,i<len→∀r,r<k→w.cell? ⟨b,off+(i*k+r),none⟩=(A i).2[r]? :=fun i hi r hr=>by
      rw[←hcell i hi r hr,ru,ru,Nat.add_assoc]
     refine⟨b,off,rfl,by simp,?_,fun j hj=> ?_⟩
     ·have hc0:=hcell' 0 (by omega) 0 hk0
      rw[List.getElem?_eq_getElem (by rw[hf 0 (by omega)];exact hk0)]at hc0
      exact U3
     ·have hjd:j=(j/k)*k+j% k:=by rw[Nat.mul_comm];exact(Nat.div_add_mod j k).symm
      have hjk:j/k<len:=Nat.div_lt_of_lt_mul (by rw[Nat.mul_comm];exact hj)
      have hjr:j% k<k:=Nat.mod_lt _ hk0
      rw[hjd,hcell' _ hjk _ hjr]
      obtain⟨c,g1,g2⟩:=bU.get (R:=fun b c _=>c=b.2∧c.length=k) (w:=w) (k:=k) (fun _ _ h=>h.2) (xs:=L) (cs:=L.flatMap (·.2)) (by
       have:∀(l:List (α×List Value)),(∀b,b∈l→b.2.length=k)→bU (fun b c _=>c=b.2∧c.length=k) l (l.flatMap (·.2)) w:=by
        intro l
        induction l with
        |nil=>exact fun _=>rfl
        |cons b l ih=>exact fun hb=>⟨b.2,l.flatMap (·.2),rfl,⟨rfl,hb b (by simp)⟩,ih fun c hc=>hb c (by simp[hc])⟩
       exact this L fun b hb=>by obtain⟨i,hi,rfl⟩:=hQ b hb;exact hf i hi) (j/k) (A (j/k)) (by simp[L,hjk])
      rw[g2.2 _ hjr,g1.1]
  ·obtain⟨i,hi,rfl⟩:=hQ a' ha'
   exact(hA i hi).2.1
  ·obtain⟨a',ha',rfl⟩:=List.mem_map.1 hb
   obtain⟨i,hi,rfl⟩:=hQ a' ha'
   exact(hA i hi).2.2.1
  ·have h1:=vR (A:=A) (wt:=fun b=>wt b.1) (D:=D) len fun i hi=>(hA i (by omega)).2.2.2
   simp only[Rows.uptoBulk]
   have e:(L.map (·.1)).map wt=((List.range len).map A).map fun b=>wt b.1:=by simp[L]
   rw[e]
   omega
theorem Af {α:Type} (l:List α):(l.map fun _=>1).sum=l.length:=by
 induction l with
 |nil=>rfl
 |cons a l ih=>rw[List.map_cons,List.sum_cons,ih,List.length_cons];omega
theorem gz {α:Type} [Inhabited α] {C:α→List Value} {k:Nat} {Q:α→Prop} (hC:∀x,(C x).length=k) (h1:∀x,∀u∈C x,u.oneCell'=true) (hk0:0<k) {t e:TypeId} (ht:Tryz.prog.underlying t=some (.slice e)) (hk:Tryz.prog.cellsOf e=k) (hel:∀fuel cs x,DataW.trod enc Tryz.prog w 0 sp held fuel e cs=some x→∃a,cs=C a∧Q a)
 (h:DataW.trod enc Tryz.prog w 0 sp held fuel t cs=some x):∃(v:Value) (l:List α),cs= [v]∧Sl [] w k v l.length (l.flatMap C)∧(∀a,a∈l→Q a)∧1+l.length≤Rows.uptoBulk x.1:=by
 obtain⟨v,l,e,h2,h3,h4⟩:=dU (R:=aE C) (wt:=fun _=>1) (Q:=Q) (kG hC h1) hk0 ht hk (fun f c x hh=>by
  obtain⟨a,e,q⟩:=hel f c x hh
  exact⟨a,e,q,oz _⟩) h
 rw[Af]at h4
 exact⟨v,l,e,h2.flat,h3,h4⟩
theorem ve {t:TypeId} (ht:Tryz.prog.underlying t=some .string) (h:DataW.trod enc Tryz.prog w 0 sp held fuel t cs=some x):∃s:List UInt8,cs= [iI s]∧s.length+1≤Rows.uptoBulk x.1:=by
 obtain⟨s,rfl,hx,hs⟩:=DataW.trod_string ht h
 refine⟨s.data.toList,by simp[iI],?_⟩
 subst hx
 simp[Rows.uptoBulk]
theorem jV {t:TypeId} {f0 f1:Field} (ht:Tryz.prog.underlying t=some (.struct #[f0,f1])) (h:DataW.trod enc Tryz.prog w 0 sp held fuel t cs=some x):
 ∃y0 y1 n,Rows.uptoBulk x.1=Rows.uptoBulk y0.1+Rows.uptoBulk y1.1+1∧cs.length=Tryz.prog.cellsOf t∧DataW.trod enc Tryz.prog w 0 sp held n f0.type ((cs.drop f0.offset).take (Tryz.prog.cellsOf f0.type))=some y0∧DataW.trod enc Tryz.prog w 0 sp held n f1.type ((cs.drop f1.offset).take (Tryz.prog.cellsOf f1.type))=some y1:=by
 obtain⟨xs,n,_,rfl,hl,hlen,hf⟩:=DataW.trod_struct ht h
 match xs,hlen with
 | [y0,y1],_=>exact⟨y0,y1,n,by first|(simp[Rows.uptoBulk,Rows.uptoBulkAll];done)|(simp[Rows.uptoBulk,Rows.uptoBulkAll];omega),hl,by simpa using hf 0 f0 rfl,by simpa using hf 1 f1 rfl⟩
theorem ie {t:TypeId} {f0 f1 f2:Field} (ht:Tryz.prog.underlying t=some (.struct #[f0,f1,f2])) (h:DataW.trod enc Tryz.prog w 0 sp held fuel t cs=some x):
 ∃y0 y1 y2 n,Rows.uptoBulk x.1=Rows.uptoBulk y0.1+Rows.uptoBulk y1.1+Rows.uptoBulk y2.1+1∧cs.length=Tryz.prog.cellsOf t∧DataW.trod enc Tryz.prog w 0 sp held n f0.type ((cs.drop f0.offset).take (Tryz.prog.cellsOf f0.type))=some y0∧DataW.trod enc Tryz.prog w 0 sp held n f1.type ((cs.drop f1.offset).take (Tryz.prog.cellsOf f1.type))=some y1∧DataW.trod enc Tryz.prog w 0 sp held n f2.type ((cs.drop f2.offset).take (Tryz.prog.cellsOf f2.type))=some y2:=by
 obtain⟨xs,n,_,rfl,hl,hlen,hf⟩:=DataW.trod_struct ht h
 match xs,hlen with
 | [y0,y1,y2],_=>exact⟨y0,y1,y2,n,by first|(simp[Rows.uptoBulk,Rows.uptoBulkAll];done)|(simp[Rows.uptoBulk,Rows.uptoBulkAll];omega),hl,by simpa using hf 0 f0 rfl,by simpa using hf 1 f1 rfl,by simpa using hf 2 f2 rfl⟩
theorem mB {t:TypeId} {f0 f1 f2 f3:Field} (ht:Tryz.prog.underlying t=some (.struct #[f0,f1,f2,f3])) (h:DataW.trod enc Tryz.prog w 0 sp held fuel t cs=some x):
 ∃y0 y1 y2 y3 n,Rows.uptoBulk x.1=Rows.uptoBulk y0.1+Rows.uptoBulk y1.1+Rows.uptoBulk y2.1+Rows.uptoBulk y3.1+1∧cs.length=Tryz.prog.cellsOf t∧DataW.trod enc Tryz.prog w 0 sp held n f0.type ((cs.drop f0.offset).take (Tryz.prog.cellsOf f0.type))=some y0∧DataW.trod enc Tryz.prog w 0 sp held n f1.type ((cs.drop f1.offset).take (Tryz.prog.cellsOf f1.type))=some y1∧DataW.trod enc Tryz.prog w 0 sp held n f2.type ((cs.drop f2.offset).take (Tryz.prog.cellsOf f2.type))=some y2∧DataW.trod enc Tryz.prog w 0 sp held n f3.type ((cs.drop f3.offset).take (Tryz.prog.cellsOf f3.type))=some y3:=by
 obtain⟨xs,n,_,rfl,hl,hlen,hf⟩:=DataW.trod_struct ht h
 match xs,hlen with
 | [y0,y1,y2,y3],_=>exact⟨y0,y1,y2,y3,n,by first|(simp[Rows.uptoBulk,Rows.uptoBulkAll];done)|(simp[Rows.uptoBulk,Rows.uptoBulkAll];omega),hl,by simpa using hf 0 f0 rfl,by simpa using hf 1 f1 rfl,by simpa using hf 2 f2 rfl,by simpa using hf 3 f3 rfl⟩
theorem qi {t:TypeId} {f0 f1 f2 f3 f4:Field} (ht:Tryz.prog.underlying t=some (.struct #[f0,f1,f2,f3,f4])) (h:DataW.trod enc Tryz.prog w 0 sp held fuel t cs=some x):
 ∃y0 y1 y2 y3 y4 n,Rows.uptoBulk x.1=Rows.uptoBulk y0.1+Rows.uptoBulk y1.1+Rows.uptoBulk y2.1+Rows.uptoBulk y3.1+Rows.uptoBulk y4.1+1∧cs.length=Tryz.prog.cellsOf t∧DataW.trod enc Tryz.prog w 0 sp held n f0.type ((cs.drop f0.offset).take (Tryz.prog.cellsOf f0.type))=some y0∧DataW.trod enc Tryz.prog w 0 sp held n f1.type ((cs.drop f1.offset).take (Tryz.prog.cellsOf f1.type))=some y1∧DataW.trod enc Tryz.prog w 0 sp held n f2.type ((cs.drop f2.offset).take (Tryz.prog.cellsOf f2.type))=some y2∧DataW.trod enc Tryz.prog w 0 sp held n f3.type ((cs.drop f3.offset).take (Tryz.prog.cellsOf f3.type))=some y3∧DataW.trod enc Tryz.prog w 0 sp held n f4.type ((cs.drop f4.offset).take (Tryz.prog.cellsOf f4.type))=some y4:=by
 obtain⟨xs,n,_,rfl,hl,hlen,hf⟩:=DataW.trod_struct ht h
 match xs,hlen with
 | [y0,y1,y2,y3,y4],_=>exact⟨y0,y1,y2,y3,y4,n,by first|(simp[Rows.uptoBulk,Rows.uptoBulkAll];done)|(simp[Rows.uptoBulk,Rows.uptoBulkAll];omega),hl,by simpa using hf 0 f0 rfl,by simpa using hf 1 f1 rfl,by simpa using hf 2 f2 rfl,by simpa using hf 3 f3 rfl,by simpa using hf 4 f4 rfl⟩
theorem xE {t:TypeId} {f0 f1 f2 f3 f4 f5 f6 f7 f8 f9 f10:Field} (ht:Tryz.prog.underlying t=some (.struct #[f0,f1,f2,f3,f4,f5,f6,f7,f8,f9,f10])) (h:DataW.trod enc Tryz.prog w 0 sp held fuel t cs=some x):
 ∃y0 y1 y2 y3 y4 y5 y6 y7 y8 y9 xI n,Rows.uptoBulk x.1=Rows.uptoBulk y0.1+Rows.uptoBulk y1.1+Rows.uptoBulk y2.1+Rows.uptoBulk y3.1+Rows.uptoBulk y4.1+Rows.uptoBulk y5.1+Rows.uptoBulk y6.1+Rows.uptoBulk y7.1+Rows.uptoBulk y8.1+Rows.uptoBulk y9.1+Rows.uptoBulk xI.1+1∧cs.length=Tryz.prog.cellsOf t∧DataW.trod enc Tryz.prog w 0 sp held n f0.type ((cs.drop f0.offset).take (Tryz.prog.cellsOf f0.type))=some y0∧DataW.trod enc Tryz.prog w 0 sp held n f1.type ((cs.drop f1.offset).take (Tryz.prog.cellsOf f1.type))=some y1∧DataW.trod enc Tryz.prog w 0 sp held n f2.type ((cs.drop f2.offset).take (Tryz.prog.cellsOf f2.type))=some y2∧DataW.trod enc Tryz.prog w 0 sp held n f3.type ((cs.drop f3.offset).take (Tryz.prog.cellsOf f3.type))=some y3∧DataW.trod enc Tryz.prog w 0 sp held n f4.type ((cs.drop f4.offset).take (Tryz.prog.cellsOf f4.type))=some y4∧DataW.trod enc Tryz.prog w 0 sp held n f5.type ((cs.drop f5.offset).take (Tryz.prog.cellsOf f5.type))=some y5∧DataW.trod enc Tryz.prog w 0 sp held n f6.type ((cs.drop f6.offset).take (Tryz.prog.cellsOf f6.type))=some y6∧DataW.trod enc Tryz.prog w 0 sp held n f7.type ((cs.drop f7.offset).take (Tryz.prog.cellsOf f7.type))=some y7∧DataW.trod enc Tryz.prog w 0 sp held n f8.type ((cs.drop f8.offset).take (Tryz.prog.cellsOf f8.type))=some y8∧DataW.trod enc Tryz.prog w 0 sp held n f9.type ((cs.drop f9.offset).take (Tryz.prog.cellsOf f9.type))=some y9∧DataW.trod enc Tryz.prog w 0 sp held n f10.type ((cs.drop f10.offset).take (Tryz.prog.cellsOf f10.type))=some xI:=by
 obtain⟨xs,n,_,rfl,hl,hlen,hf⟩:=DataW.trod_struct ht h
 match xs,hlen with
 | [y0,y1,y2,y3,y4,y5,y6,y7,y8,y9,xI],_=>exact⟨y0,y1,y2,y3,y4,y5,y6,y7,y8,y9,xI,n,by first|(simp[Rows.uptoBulk,Rows.uptoBulkAll];done)|(simp[Rows.uptoBulk,Rows.uptoBulkAll];omega),hl,by simpa using hf 0 f0 rfl,by simpa using hf 1 f1 rfl,by simpa using hf 2 f2 rfl,by simpa using hf 3 f3 rfl,by simpa using hf 4 f4 rfl,by simpa using hf 5 f5 rfl,by simpa using hf 6 f6 rfl,by simpa using hf 7 f7 rfl,by simpa using hf 8 f8 rfl,by simpa using hf 9 f9 rfl,by simpa using hf 10 f10 rfl⟩
theorem ww {t:TypeId} {f0 f1 f2 f3 f4 f5 f6 f7 f8 f9 f10 f11:Field} (ht:Tryz.prog.underlying t=some (.struct #[f0,f1,f2,f3,f4,f5,f6,f7,f8,f9,f10,f11])) (h:DataW.trod enc Tryz.prog w 0 sp held fuel t cs=some x):
 ∃y0 y1 y2 y3 y4 y5 y6 y7 y8 y9 xI Gu n,Rows.uptoBulk x.1=Rows.uptoBulk y0.1+Rows.uptoBulk y1.1+Rows.uptoBulk y2.1+Rows.uptoBulk y3.1+Rows.uptoBulk y4.1+Rows.uptoBulk y5.1+Rows.uptoBulk y6.1+Rows.uptoBulk y7.1+Rows.uptoBulk y8.1+Rows.uptoBulk y9.1+Rows.uptoBulk xI.1+Rows.uptoBulk Gu.1+1∧cs.length=Tryz.prog.cellsOf t∧DataW.trod enc Tryz.prog w 0 sp held n f0.type ((cs.drop f0.offset).take (Tryz.prog.cellsOf f0.type))=some y0∧DataW.trod enc Tryz.prog w 0 sp held n f1.type ((cs.drop f1.offset).take (Tryz.prog.cellsOf f1.type))=some y1∧DataW.trod enc Tryz.prog w 0 sp held n f2.type ((cs.drop f2.offset).take (Tryz.prog.cellsOf f2.type))=some y2∧DataW.trod enc Tryz.prog w 0 sp held n f3.type ((cs.drop f3.offset).take (Tryz.prog.cellsOf f3.type))=some y3∧DataW.trod enc Tryz.prog w 0 sp held n f4.type ((cs.drop f4.offset).take (Tryz.prog.cellsOf f4.type))=some y4∧DataW.trod enc Tryz.prog w 0 sp held n f5.type ((cs.drop f5.offset).take (Tryz.prog.cellsOf f5.type))=some y5∧DataW.trod enc Tryz.prog w 0 sp held n f6.type ((cs.drop f6.offset).take (Tryz.prog.cellsOf f6.type))=some y6∧DataW.trod enc Tryz.prog w 0 sp held n f7.type ((cs.drop f7.offset).take (Tryz.prog.cellsOf f7.type))=some y7∧DataW.trod enc Tryz.prog w 0 sp held n f8.type ((cs.drop f8.offset).take (Tryz.prog.cellsOf f8.type))=some y8∧DataW.trod enc Tryz.prog w 0 sp held n f9.type ((cs.drop f9.offset).take (Tryz.prog.cellsOf f9.type))=some y9∧DataW.trod enc Tryz.prog w 0 sp held n f10.type ((cs.drop f10.offset).take (Tryz.prog.cellsOf f10.type))=some xI∧DataW.trod enc Tryz.prog w 0 sp held n f11.type ((cs.drop f11.offset).take (Tryz.prog.cellsOf f11.type))=some Gu:=by
 obtain⟨xs,n,_,rfl,hl,hlen,hf⟩:=DataW.trod_struct ht h
 match xs,hlen with
 | [y0,y1,y2,y3,y4,y5,y6,y7,y8,y9,xI,Gu],_=>exact⟨y0,y1,y2,y3,y4,y5,y6,y7,y8,y9,xI,Gu,n,by first|(simp[Rows.uptoBulk,Rows.uptoBulkAll];done)|(simp[Rows.uptoBulk,Rows.uptoBulkAll];omega),hl,by simpa using hf 0 f0 rfl,by simpa using hf 1 f1 rfl,by simpa using hf 2 f2 rfl,by simpa using hf 3 f3 rfl,by simpa using hf 4 f4 rfl,by simpa using hf 5 f5 rfl,by simpa using hf 6 f6 rfl,by simpa using hf 7 f7 rfl,by simpa using hf 8 f8 rfl,by simpa using hf 9 f9 rfl,by simpa using hf 10 f10 rfl,by simpa using hf 11 f11 rfl⟩
theorem GI:Tryz.prog.underlying 71=some (.int .i64):=by kernel_rfl
theorem yR:Tryz.prog.cellsOf 71=1:=by kernel_rfl
theorem Gp:Tryz.prog.underlying 63=some (.int .i64):=by kernel_rfl
theorem yK:Tryz.prog.cellsOf 63=1:=by kernel_rfl
theorem xi:Tryz.prog.underlying 9=some .string:=by kernel_rfl
theorem vd:Tryz.prog.cellsOf 9=1:=by kernel_rfl
theorem nO:Tryz.prog.cellsOf 50=4:=by kernel_rfl
theorem np:Tryz.prog.cellsOf 73=8:=by kernel_rfl
theorem nR:Tryz.prog.cellsOf 75=5:=by kernel_rfl
theorem vp:Tryz.prog.cellsOf 77=19:=by kernel_rfl
theorem wh:Tryz.prog.cellsOf 79=21:=by kernel_rfl
theorem xy:Tryz.prog.cellsOf 182=5:=by kernel_rfl
theorem vU:Tryz.prog.cellsOf 55=3:=by kernel_rfl
theorem xA:Tryz.prog.cellsOf 86=10:=by kernel_rfl
theorem wE:Tryz.prog.cellsOf 93=6:=by kernel_rfl
theorem vS:Tryz.prog.cellsOf 97=3:=by kernel_rfl
theorem uc:Tryz.prog.cellsOf 65=8:=by kernel_rfl
theorem wJ:Tryz.prog.cellsOf 67=4:=by kernel_rfl
theorem Dh:Tryz.prog.cellsOf 33=11:=by kernel_rfl
theorem J2:Tryz.prog.underlying 22=some (.slice 51):=by kernel_rfl
theorem Ek:Tryz.prog.cellsOf 22=1:=by kernel_rfl
theorem Ib:Tryz.prog.underlying 23=some (.slice 79):=by kernel_rfl
theorem ES:Tryz.prog.cellsOf 23=1:=by kernel_rfl
theorem IM:Tryz.prog.underlying 24=some (.slice 55):=by kernel_rfl
theorem Dl:Tryz.prog.cellsOf 24=1:=by kernel_rfl
theorem KW:Tryz.prog.underlying 25=some (.slice 86):=by kernel_rfl
theorem DK:Tryz.prog.cellsOf 25=1:=by kernel_rfl
theorem Jv:Tryz.prog.underlying 26=some (.slice 50):=by kernel_rfl
theorem Fc:Tryz.prog.cellsOf 26=1:=by kernel_rfl
theorem IP:Tryz.prog.underlying 28=some (.slice 93):=by kernel_rfl
theorem Ep:Tryz.prog.cellsOf 28=1:=by kernel_rfl
theorem Hw:Tryz.prog.underlying 29=some (.slice 97):=by kernel_rfl
theorem Et:Tryz.prog.cellsOf 29=1:=by kernel_rfl
theorem DN:Tryz.prog.underlying 30=some (.slice 65):=by kernel_rfl
theorem BJ:Tryz.prog.cellsOf 30=1:=by kernel_rfl
theorem G9:Tryz.prog.underlying 31=some (.slice 67):=by kernel_rfl
theorem DE:Tryz.prog.cellsOf 31=1:=by kernel_rfl
theorem Ji:Tryz.prog.underlying 52=some (.slice 182):=by kernel_rfl
theorem EZ:Tryz.prog.cellsOf 52=1:=by kernel_rfl
theorem Kz:Tryz.prog.underlying 62=some (.slice 53):=by kernel_rfl
theorem Ex:Tryz.prog.cellsOf 62=1:=by kernel_rfl
theorem DG:Tryz.prog.cellsOf 51=1:=by kernel_rfl
theorem zY:Tryz.prog.cellsOf 34=1:=by kernel_rfl
theorem jC:Tryz.prog.cellsOf 53=1:=by kernel_rfl
theorem Fl:Tryz.prog.underlying 51=some (.slice 136):=by kernel_rfl
theorem xb (h:DataW.trod enc Tryz.prog w 0 sp held fuel 48 cs=some x):∃n:Nat,cs= [.int .u64 (n:Int)]∧n<18446744073709551616:=by
 obtain⟨n,rfl,_,w0⟩:=DataW.trod_int QN h
 obtain⟨u1,u2⟩:=So w0
 obtain⟨m,rfl⟩:=Int.eq_ofNat_of_zero_le u1
 exact⟨m,rfl,by omega⟩
theorem zT (h:DataW.trod enc Tryz.prog w 0 sp held fuel 50 cs=some x):∃l:eA,cs=du l∧fK l:=by
 obtain⟨y0,y1,y2,y3,n,hb,hl,h0,h1,h2,h3⟩:=mB Tryz.underlying50 h
 rw[nO]at hl
 match cs,hl with
 | [c0,c1,c2,c3],_=>
  simp only[List.drop,List.take,ir,x0]at h0 h1 h2 h3
  obtain⟨a,e0,_⟩:=DataW.trod_bool ji h0
  obtain⟨m,e1,w1⟩:=xb h1
  obtain⟨k,e2,w2⟩:=xb h2
  obtain⟨b,e3,_⟩:=DataW.trod_bool ji h3
  simp only[List.cons.injEq,and_true]at e0 e1 e2 e3
  subst e0 e1 e2 e3
  exact⟨⟨a,m,k,b⟩,rfl,w1,w2⟩
theorem yG (h:DataW.trod enc Tryz.prog w 0 sp held fuel 73 cs=some x):∃t:dJ,cs=dv t∧t.elem.heap.ok∧fK t.lim:=by
 obtain⟨y0,y1,n,hb,hl,h0,h1⟩:=jV Tryz.underlying73 h
 rw[np]at hl
 match cs,hl with
 | [c0,c1,c2,c3,c4,c5,c6,c7],_=>
  simp only[List.drop,List.take,gf,nO]at h0 h1
  obtain⟨a,e0,q0⟩:=kA h0
  obtain⟨b,e1,q1⟩:=zT h1
  refine⟨⟨a,b⟩,?_,q0.2,q1⟩
  show [c0,c1,c2,c3,c4,c5,c6,c7]=cj a++du b
  rw[←e0,←e1]
  rfl
theorem zi (h:DataW.trod enc Tryz.prog w 0 sp held fuel 75 cs=some x):∃t:dW,cs=dK t∧t.val.heap.ok:=by
 obtain⟨y0,y1,n,hb,hl,h0,h1⟩:=jV Tryz.underlying75 h
 rw[nR]at hl
 match cs,hl with
 | [c0,c1,c2,c3,c4],_=>
  simp only[List.drop,List.take,gf,ir]at h0 h1
  obtain⟨a,e0,q0⟩:=kA h0
  obtain⟨b,e1,_⟩:=DataW.trod_bool ji h1
  refine⟨⟨a,b⟩,?_,q0.2⟩
  show [c0,c1,c2,c3,c4]=cj a++ [.bool b]
  rw[←e0,←e1]
  rfl
theorem PC (h:DataW.trod enc Tryz.prog w 0 sp held fuel 77 cs=some x):∃t:i9,cs=lz t∧IH t:=by
 obtain⟨y0,y1,y2,y3,y4,n,hb,hl,h0,h1,h2,h3,h4⟩:=qi Tryz.underlying77 h
 rw[vp]at hl
 match cs,hl with
 | [c0,c1,c2,c3,c4,c5,c6,c7,c8,c9,c10,c11,c12,c13,c14,c15,c16,c17,c18],_=>
  simp only[List.drop,List.take,yR,eh,np,nO,nR]at h0 h1 h2 h3 h4
  obtain⟨k,e0,_,_⟩:=DataW.trod_int GI h0
  obtain⟨m,e1,_,w1⟩:=DataW.trod_int fg h1
  obtain⟨a,e2,q2,q3⟩:=yG h2
  obtain⟨b,e3,q4⟩:=zT h3
  obtain⟨c,e4,q5⟩:=zi h4
  simp only[List.cons.injEq,and_true]at e0 e1
  refine⟨⟨k,m,a,b,c⟩,?_,⟨iy w1,q2,q3,q4,q5⟩⟩
  show _= .int .i64 k:: .int .i64 m::(dv a++(du b++dK c))
  rw[←e2,←e3,←e4,←e0,←e1]
  rfl
theorem Q5:tw enc w sp held 79 (aE eR) sU fun i=>IH i.what:=fun fuel cs x h=>by
 obtain⟨y0,y1,y2,n,hb,hl,h0,h1,h2⟩:=ie Tryz.underlying79 h
 rw[wh]at hl
 match cs,hl with
 | [c0,c1,c2,c3,c4,c5,c6,c7,c8,c9,c10,c11,c12,c13,c14,c15,c16,c17,c18,c19,c20],_=>
  simp only[List.drop,List.take,vd,vp]at h0 h1 h2
  obtain⟨s,e0,b0⟩:=ve xi h0
  obtain⟨u,e1,b1⟩:=ve xi h1
  obtain⟨a,e2,q2⟩:=PC h2
  have b2:=oz y2.1
  simp only[List.cons.injEq,and_true]at e0 e1
  refine⟨⟨s,u,a⟩,?_,q2,by unfold sU;dsimp only;omega⟩
  show _=iI s::iI u::lz a
  rw[←e2,←e0,←e1]
theorem P7 (h:DataW.trod enc Tryz.prog w 0 sp held fuel 182 cs=some x):∃t:fN,cs=fk t∧(sw t.n∧t.val.heap.ok):=by
 obtain⟨y0,y1,n,hb,hl,h0,h1⟩:=jV Tryz.underlying182 h
 rw[xy]at hl
 match cs,hl with
 | [c0,c1,c2,c3,c4],_=>
  simp only[List.drop,List.take,gf,eh]at h0 h1
  obtain⟨k,e0,_,w0⟩:=DataW.trod_int fg h0
  obtain⟨a,e1,q1⟩:=kA h1
  simp only[List.cons.injEq,and_true]at e0
  refine⟨⟨k,a⟩,?_,iy w0,q1.2⟩
  show _= .int .i64 k::cj a
  rw[←e1,←e0]
theorem Q6:tw enc w sp held 97 (aE gw) tA fun i=>sw i.n:=fun fuel cs x h=>by
 obtain⟨y0,y1,y2,n,hb,hl,h0,h1,h2⟩:=ie Tryz.underlying97 h
 rw[vS]at hl
 match cs,hl with
 | [c0,c1,c2],_=>
  simp only[List.drop,List.take,vd,yR,eh]at h0 h1 h2
  obtain⟨s,e0,b0⟩:=ve xi h0
  obtain⟨k,e1,_,_⟩:=DataW.trod_int GI h1
  obtain⟨m,e2,_,w2⟩:=DataW.trod_int fg h2
  simp only[List.cons.injEq,and_true]at e0 e1 e2
  subst e0 e1 e2
  exact⟨⟨s,k,m⟩,rfl,iy w2,by unfold tA;dsimp only;omega⟩
structure rk (i:aa):Prop where
 num:Xy i
 x:sw i.x
theorem Ph:tw enc w sp held 177 KU wI rk:=fun fuel cs x h=>by
 obtain⟨y0,y1,y2,y3,y4,y5,y6,y7,y8,y9,xI,Gu,n,hb,hl,h0,h1,h2,h3,h4,h5,h6,h7,h8,h9,h10,h11⟩:=ww Tryz.underlying177 h
 rw[ul]at hl
 match cs,hl with
 | [c0,c1,c2,c3,c4,c5,c6,c7,c8,c9,c10,c11,c12,c13,c14,c15,c16,c17,c18],_=>
  simp only[List.drop,List.take,xj,eh,x0,nJ,ir,vV,wK,uu,xQ]at h0 h1 h2 h3 h4 h5 h6 h7 h8 h9 h10 h11
  obtain⟨o,e0,_,w0⟩:=DataW.trod_int zD h0
  obtain⟨x1,e1,_,w1⟩:=DataW.trod_int fg h1
  obtain⟨x2,e2,_,_⟩:=DataW.trod_int fg h2
  obtain⟨m,e3,w3⟩:=xb h3
  obtain⟨t4,e4,_⟩:=se h4
  obtain⟨t5,e5,_⟩:=se h5
  obtain⟨b6,e6,_⟩:=DataW.trod_bool ji h6
  obtain⟨b7,e7,_⟩:=DataW.trod_bool ji h7
  obtain⟨tv,ts,e8,s8,_,k8⟩:=gz (C:=cj) (k:=4) (Q:=aF.ok) (fun _=>rfl) (fun x=>by simp[cj,Value.oneCell']) (by decide) ph gf (fun _ _ _ h=>kA h) h8
  obtain⟨lv,ls,e9,s9,_,k9⟩:=gz (C:=gK) (k:=1) (Q:=sw) (fun _=>rfl) (fun x=>by simp[gK,Value.oneCell']) (by decide) x9 eh (fun _ _ _ h=>CA h) h9
  obtain⟨b,e10⟩:=Jb h10
  obtain⟨cv,cl,e11,s11,_,k11⟩:=gz (C:=gZ) (k:=3) (Q:=fun _=>True) (fun _=>rfl) (fun x=>by simp[gZ,Value.oneCell']) (by decide) z7 ub (fun _ _ _ h=>Ff h) h11
  simp only[ju,List.cons.injEq,and_true]at e0 e1 e2 e3 e4 e5 e6 e7 e8 e9 e10 e11
  obtain⟨e4,e4'⟩:=e4
  obtain⟨e5,e5'⟩:=e5
  obtain⟨f1,f2,f3,f4,f5,f6⟩:=e10
  subst e0 e1 e2 e3 e4 e4' e5 e5' e6 e7 e8 e9 f1 f2 f3 f4 f5 f6 e11
  refine⟨⟨o,x1,x2,m,t4,t5,b6,b7,ts,ls,b,cl⟩,⟨c10,c11,c18,rfl,⟨s8,s9,s11⟩⟩,⟨⟨iy w0,w3⟩,iy w1⟩,?_⟩
  unfold wI
  dsimp only
  omega
theorem pB:tw enc w sp held 53 ou gh fun l=>∀i,i∈l→rk i:=fun fuel cs x h=>by
 obtain⟨v,l,e,h2,h3,h4⟩:=dU no (by decide) GY ul Ph h
 exact⟨l,⟨v,e,h2⟩,h3,h4⟩
theorem NC:tw enc w sp held 136 Pv qW bu.num:=fun fuel cs x h=>by
 obtain⟨y0,y1,y2,n,hb,hl,h0,h1,h2⟩:=ie Tryz.underlying136 h
 rw[yJ]at hl
 match cs,hl with
 | [c0,c1,c2,c3,c4,c5],_=>
  simp only[List.drop,List.take,ir,B4,EB]at h0 h1 h2
  obtain⟨z0,z1,z2,z3,m,hb2,_,g0,g1,g2,g3⟩:=mB Tryz.underlying134 h2
  simp only[List.drop,List.take,Ck,vV,Au]at g0 g1 g2 g3
  obtain⟨b,e0,_⟩:=DataW.trod_bool ji h0
  obtain⟨hv,hl,e1,s1,q1,k1⟩:=gz (C:=ju) (k:=2) (Q:=aC.ok) (fun _=>rfl) (fun x=>by simp[ju,Value.oneCell']) (by decide) tL nJ (fun _ _ _ h=>se h) h1
  obtain⟨k,e2,_,w2⟩:=DataW.trod_int KJ g0
  obtain⟨pv,pl,e3,s3,q3,k3⟩:=gz (C:=cj) (k:=4) (Q:=aF.ok) (fun _=>rfl) (fun x=>by simp[cj,Value.oneCell']) (by decide) ph gf (fun _ _ _ h=>kA h) g1
  obtain⟨rv,rl,e4,s4,q4,k4⟩:=gz (C:=cj) (k:=4) (Q:=aF.ok) (fun _=>rfl) (fun x=>by simp[cj,Value.oneCell']) (by decide) ph gf (fun _ _ _ h=>kA h) g2
  obtain⟨fv,fl,e5,s5,q5,k5⟩:=gz (C:=fG) (k:=6) (Q:=ey.ok) (fun _=>rfl) (fun x=>by simp[fG,Value.oneCell']) (by decide) qx uz (fun _ _ _ h=>IK h) g3
  simp only[List.cons.injEq,and_true]at e0 e1 e2 e3 e4 e5
  subst e0 e1 e2 e3 e4 e5
  refine⟨⟨b,hl,⟨k,pl,rl,fl⟩⟩,⟨c1,c3,c4,c5,rfl,⟨s1,s3,s4,s5⟩⟩,⟨iy w2,q1,q3,q4,q5⟩,?_⟩
  unfold qW bu.len
  dsimp only
  omega
theorem G0 {g:List bu}:∀{cs:List Value} {w:World},bU Pv g cs w→di [] w g cs:=by
 induction g with
 |nil=>exact fun h=>h
 |cons t ts ih=>exact fun⟨c,r,e,⟨hv,pv,rv,fv,e2,h1⟩,h2⟩=>⟨hv,pv,rv,fv,r,by rw[e,e2];rfl,h1,ih h2⟩
theorem P0:tw enc w sp held 51 xU uG fun g=>∀t,t∈g→t.num:=fun fuel cs x h=>by
 obtain⟨v,l,e,⟨ds,h2,h2'⟩,h3,h4⟩:=dU zQ (by decide) Fl yJ NC h
 exact⟨l,⟨v,e,ds,h2,G0 h2'⟩,h3,h4⟩
theorem QF:tw enc w sp held 55 ku tF fun f=>sw f.type∧(∀r,r∈f.locals→sw r.n∧r.val.heap.ok)∧∀i,i∈f.body→rk i:=fun fuel cs x h=>by
 obtain⟨y0,y1,y2,n,hb,hl,h0,h1,h2⟩:=ie Tryz.underlying55 h
 rw[vU]at hl
 match cs,hl with
 | [c0,c1,c2],_=>
  simp only[List.drop,List.take,eh,EZ,jC]at h0 h1 h2
  obtain⟨k,e0,_,w0⟩:=DataW.trod_int fg h0
  obtain⟨v1,l1,e1,s1,q1,k1⟩:=dU (R:=aE fk) (wt:=fun _=>1) (Q:=fun r=>sw r.n∧r.val.heap.ok) ik (by decide) Ji xy (fun _ _ _ h=>by obtain⟨a,e,q⟩:=P7 h;exact⟨a,e,q,oz _⟩) h1
  obtain⟨l2,⟨v2,e2,s2⟩,q2,k2⟩:=pB _ _ _ h2
  rw[Af]at k1
  simp only[List.cons.injEq,and_true]at e0 e1 e2
  subst e0 e1 e2
  exact⟨⟨k,l1,l2⟩,⟨c1,c2,rfl,s1,s2⟩,⟨iy w0,q1,q2⟩,by unfold tF;dsimp only;omega⟩
theorem Qb:tw enc w sp held 86 qG sA fun t=>(t.type.elem.heap.ok∧fK t.type.lim)∧∀i,i∈t.init→rk i:=fun fuel cs x h=>by
 obtain⟨y0,y1,y2,n,hb,hl,h0,h1,h2⟩:=ie Tryz.underlying86 h
 rw[xA]at hl
 match cs,hl with
 | [c0,c1,c2,c3,c4,c5,c6,c7,c8,c9],_=>
  simp only[List.drop,List.take,np,ir,jC]at h0 h1 h2
  obtain⟨a,e0,q0⟩:=yG h0
  obtain⟨b,e1,_⟩:=DataW.trod_bool ji h1
  obtain⟨l2,⟨v2,e2,s2⟩,q2,k2⟩:=pB _ _ _ h2
  simp only[List.cons.injEq,and_true]at e1 e2
  subst e1 e2
  refine⟨⟨a,b,l2⟩,⟨c9,?_,s2⟩,⟨q0,q2⟩,by unfold sA;dsimp only;omega⟩
  show _=dv a++ [.bool b,c9]
  rw[←e0]
  rfl
theorem Qm:tw enc w sp held 93 qR tJ fun t=>t.type.val.heap.ok∧∀i,i∈t.init→rk i:=fun fuel cs x h=>by
 obtain⟨y0,y1,n,hb,hl,h0,h1⟩:=jV Tryz.underlying93 h
 rw[wE]at hl
 match cs,hl with
 | [c0,c1,c2,c3,c4,c5],_=>
  simp only[List.drop,List.take,nR,jC]at h0 h1
  obtain⟨a,e0,q0⟩:=zi h0
  obtain⟨l2,⟨v2,e2,s2⟩,q2,k2⟩:=pB _ _ _ h1
  simp only[List.cons.injEq,and_true]at e2
  subst e2
  refine⟨⟨a,l2⟩,⟨c5,?_,s2⟩,⟨q0,q2⟩,by unfold tJ;dsimp only;omega⟩
  show _=dK a++ [c5]
  rw[←e0]
  rfl
theorem Nb:tw enc w sp held 65 gD mJ fun e=>(e.type.heap.ok∧sw e.table)∧(∀l,l∈e.inits→∀i,i∈l→rk i)∧∀i,i∈e.offset→rk i:=fun fuel cs x h=>by
 obtain⟨y0,y1,y2,y3,y4,n,hb,hl,h0,h1,h2,h3,h4⟩:=qi Tryz.underlying65 h
 rw[uc]at hl
 match cs,hl with
 | [c0,c1,c2,c3,c4,c5,c6,c7],_=>
  simp only[List.drop,List.take,gf,Ex,yK,eh,jC]at h0 h1 h2 h3 h4
  obtain⟨a,e0,q0⟩:=kA h0
  obtain⟨v1,l1,e1,s1,q1,k1⟩:=dU i7 (by decide) Kz jC pB h1
  obtain⟨k,e2,_,_⟩:=DataW.trod_int Gp h2
  obtain⟨m,e3,_,w3⟩:=DataW.trod_int fg h3
  obtain⟨l4,⟨v4,e4,s4⟩,q4,k4⟩:=pB _ _ _ h4
  simp only[List.cons.injEq,and_true]at e1 e2 e3 e4
  subst e1 e2 e3 e4
  refine⟨⟨a,l1,k,m,l4⟩,⟨c4,c7,?_,s1,s4⟩,⟨⟨q0.2,iy w3⟩,q1,q4⟩,by unfold mJ;dsimp only;omega⟩
  show _=cj a++ [c4,.int .i64 k,.int .i64 m,c7]
  rw[←e0]
  rfl
theorem P8:tw enc w sp held 67 rK tp fun d=>sw d.mem∧∀i,i∈d.offset→rk i:=fun fuel cs x h=>by
 obtain⟨y0,y1,y2,y3,n,hb,hl,h0,h1,h2,h3⟩:=mB Tryz.underlying67 h
 rw[wJ]at hl
 match cs,hl with
 | [c0,c1,c2,c3],_=>
  simp only[List.drop,List.take,yK,eh,jC,zY]at h0 h1 h2 h3
  obtain⟨k,e0,_,_⟩:=DataW.trod_int Gp h0
  obtain⟨m,e1,_,w1⟩:=DataW.trod_int fg h1
  obtain⟨l2,⟨v2,e2,s2⟩,q2,k2⟩:=pB _ _ _ h2
  obtain⟨v3,l3,e3,s3,_,k3⟩:=gz (C:=B8) (k:=1) (Q:=fun _=>True) (fun _=>rfl) (fun x=>by simp[B8,B,Value.oneCell']) (by decide) aB Cu (fun _ _ _ h=>(My h).imp fun _ h=>⟨h,trivial⟩) h3
  rw[Gj]at s3
  simp only[List.cons.injEq,and_true]at e0 e1 e2 e3
  subst e0 e1 e2 e3
  exact⟨⟨k,m,l2,l3⟩,⟨c2,c3,rfl,s2,s3⟩,⟨iy w1,q2⟩,by unfold tp;dsimp only;omega⟩
structure xk (m:aV):Prop where
 types:∀g,g∈m.types→∀t,t∈g→t.num
 imports:∀i,i∈m.imports→IH i.what
 funcs:∀f,f∈m.funcs→sw f.type∧(∀r,r∈f.locals→sw r.n∧r.val.heap.ok)∧∀i,i∈f.body→rk i
 tables:∀t,t∈m.tables→(t.type.elem.heap.ok∧fK t.type.lim)∧∀i,i∈t.init→rk i
 mems:∀l,l∈m.mems→fK l
 tags:∀n,n∈m.tags→sw n
 globals:∀g,g∈m.globals→g.type.val.heap.ok∧∀i,i∈g.init→rk i
 exports:∀e,e∈m.exports→sw e.n
 start:sw m.start
 elems:∀e,e∈m.elems→(e.type.heap.ok∧sw e.table)∧(∀l,l∈e.inits→∀i,i∈l→rk i)∧∀i,i∈e.offset→rk i
 datas:∀d,d∈m.datas→sw d.mem∧∀i,i∈d.offset→rk i
theorem GA:tw enc w sp held 33 (fun m c w=>cI c m w) ip xk:=fun fuel cs x h=>by
 obtain⟨y0,y1,y2,y3,y4,y5,y6,y7,y8,y9,xI,n,hb,hl,h0,h1,h2,h3,h4,h5,h6,h7,h8,h9,h10⟩:=xE Tryz.underlying33 h
 rw[Dh]at hl
 match cs,hl with
 | [c0,c1,c2,c3,c4,c5,c6,c7,c8,c9,c10],_=>
  simp only[List.drop,List.take,Ek,ES,Dl,DK,Fc,wK,Ep,Et,eh,BJ,DE]at h0 h1 h2 h3 h4 h5 h6 h7 h8 h9 h10
  obtain⟨v0,l0,e0,s0,q0,k0⟩:=dU gv (by decide) J2 DG P0 h0
  obtain⟨v1,l1,e1,s1,q1,k1⟩:=dU gp (by decide) Ib wh Q5 h1
  obtain⟨v2,l2,e2,s2,q2,k2⟩:=dU dG (by decide) IM vU QF h2
  obtain⟨v3,l3,e3,s3,q3,k3⟩:=dU jj (by decide) KW xA Qb h3
  obtain⟨v4,l4,e4,s4,q4,k4⟩:=dU (R:=aE du) (wt:=fun _=>1) (Q:=fK) fR (by decide) Jv nO (fun _ _ _ h=>by obtain⟨a,e,q⟩:=zT h;exact⟨a,e,q,oz _⟩) h4
  obtain⟨v5,l5,e5,s5,q5,k5⟩:=dU (R:=aE gK) (wt:=fun _=>1) (Q:=sw) gj (by decide) x9 eh (fun _ _ _ h=>by obtain⟨a,e,q⟩:=CA h;exact⟨a,e,q,oz _⟩) h5
  obtain⟨v6,l6,e6,s6,q6,k6⟩:=dU jm (by decide) IP wE Qm h6
  obtain⟨v7,l7,e7,s7,q7,k7⟩:=dU gq (by decide) Hw vS Q6 h7
  obtain⟨k,e8,_,w8⟩:=DataW.trod_int fg h8
  obtain⟨v9,l9,e9,s9,q9,k9⟩:=dU fH (by decide) DN uc Nb h9
  obtain⟨v10,l10,e10,s10,q10,k10⟩:=dU gP (by decide) G9 wJ P8 h10
  rw[Af]at k4 k5
  simp only[List.cons.injEq,and_true]at e0 e1 e2 e3 e4 e5 e6 e7 e8 e9 e10
  subst e0 e1 e2 e3 e4 e5 e6 e7 e8 e9 e10
  refine⟨⟨l0,l1,l2,l3,l4,l5,l6,l7,k,l9,l10⟩,⟨c0,c1,c2,c3,c4,c5,c6,c7,c9,c10,rfl,s0,s1,s2,s3,s4,s5,s6,s7,s9,s10⟩,⟨q0,q1,q2,q3,q4,q5,q6,q7,iy w8,q9,q10⟩,?_⟩
  unfold ip
  dsimp only
  omega
end
open Go.RowKit
theorem lj {i:aa} (hm:dx i=true):(0≤i.op∧i.op<65536)∧(0≤i.x∧i.x≤4294967295):=by
 have hb:=ed (cU hm)
 refine⟨⟨hb.1,by omega⟩,?_⟩
 rcases fL i.op with h|h|h|h|h|h|h|h|h|h|h|h
 ·have e:=(aQ hm (FD h)).2
  exact SB
 ·exact(bz _).1 (wc h hm).1
 ·have hp:=(aQ hm (x6 h)).1
  simp only[Bool.and_eq_true,bz]at hp
  exact hp.1
 ·have hp:=(aQ hm (zd h)).1
  simp only[Bool.and_eq_true,bz]at hp
  exact hp.1
 ·have hp:=(aQ hm (yF h)).1
  simp only[Bool.and_eq_true,bz,decide_eq_true_eq]at hp
  omega
 ·have e:=(aQ hm (ym h)).2
  exact SB
 ·have e:=(aQ hm (zO h)).2
  exact SB
 ·have e:=(aQ hm (tj h)).2
  exact SB
 ·have e:=(aQ hm (qU h)).2
  exact SB
 ·have e:=(aQ hm (yt h)).2
  exact SB
 ·have e:=(aQ hm (yC h)).2
  exact SB
 ·have hp:=(aQ hm (tt h)).1
  simp only[Bool.and_eq_true,bz]at hp
  exact hp.1.1
theorem eM {i:aa} {op:Int} (e:i=aa.of op):i.types.length=0∧i.labels.length=0∧i.catches.length=0:=by
 subst e
 exact⟨rfl,rfl,rfl⟩
theorem Xi {i:aa} (hm:dx i=true):wI i≤1+(aW i).length:=by
 unfold wI
 rcases fL i.op with h|h|h|h|h|h|h|h|h|h|h|h
 ·have e:=eM (aQ hm (FD h)).2
  omega
 ·have e:=(wc h hm).2
  have e1:=congrArg (fun j=>j.types.length) e
  have e2:=congrArg (fun j=>j.labels.length) e
  have e3:=congrArg (fun j=>j.catches.length) e
  simp only[aa.of,List.length_nil]at e1 e2 e3
  omega
 ·have e:=eM (aQ hm (x6 h)).2
  dsimp only at e
  omega
 ·have e:=eM (aQ hm (zd h)).2
  dsimp only at e
  have:=fZ au i.labels fun x _=>j9 x
  rw[A8 h]
  unfold ae
  exact Px
 ·have e:=eM (aQ hm (yF h)).2
  dsimp only at e
  omega
 ·have e:=eM (aQ hm (ym h)).2
  dsimp only at e
  omega
 ·have e:=eM (aQ hm (zO h)).2
  dsimp only at e
  omega
 ·have e:=eM (aQ hm (tj h)).2
  dsimp only at e
  omega
 ·have e:=eM (aQ hm (qU h)).2
  dsimp only at e
  have hp:=(aQ hm (qU h)).1
  have:=fZ bZ i.types fun x hx=>iR x (List.all_eq_true.1 hp x hx)
  rw[xu h]
  unfold oj
  rw[if_pos hp]
  unfold ae
  exact Px
 ·have e:=eM (aQ hm (yt h)).2
  dsimp only at e
  omega
 ·have e:=eM (aQ hm (yC h)).2
  dsimp only at e
  have:=fZ dM i.catches fun x _=>qE x
  rw[CE h]
  unfold ae
  exact Px
 ·have e:=eM (aQ hm (tt h)).2
  dsimp only at e
  omega
theorem Pa {i:aa} (hm:dx i=true):wI i≤(de i).length:=by
 have:=Xi hm
 have:=FH i.op
 unfold de
 exact zV
theorem pT {α:Type} {p:α→List UInt8} {wt:α→Nat} (c:Nat):∀{l:List α},(∀x,x∈l→wt x≤c*(p x).length)→(l.map wt).sum≤c*(l.flatMap p).length
 | [],_=>by simp
 |a::l,h=>by
  have h1:=h a (by simp)
  have h2:=pT c (l:=l) fun x hx=>h x (by simp[hx])
  rw[List.flatMap_cons,List.length_append,List.map_cons,List.sum_cons,Nat.mul_add]
  omega
theorem sY {l:List aa}:cG l=true↔l.all dx=true∧jI l=true:=by unfold cG;rw[Bool.and_eq_true]
theorem sV {l:List aa} (h:cG l=true):gh l≤(al l).length:=by
 have h2:=sY.1 h
 have:=pT (p:=de) (wt:=wI) 1 (l:=l) fun i hi=>by
  have:=Pa (List.all_eq_true.1 h2.1 i hi)
  omega
 unfold al gh
 rw[if_pos (by simpa using h2),List.length_append,List.length_singleton]
 omega
theorem DL (h:aC):1≤(aZ h).length:=by unfold aZ;exact dQ _
theorem M9 {t:bu} (h:bP t=true):qW t≤(dg t).length:=by
 unfold bP at h
 simp only[Bool.and_eq_true]at h
 obtain⟨⟨h1,⟨h2,h3⟩,h4⟩,h5⟩:=h
 have l1:=fZ aZ t.supers fun x _=>DL x
 have l2:=fZ bZ t.comp.params fun x hx=>iR x (List.all_eq_true.1 h2 x hx)
 have l3:=fZ bZ t.comp.results fun x hx=>iR x (List.all_eq_true.1 h3 x hx)
 have l4:=fZ bj t.comp.fields fun x _=>nB x
 have e1:t.supers.length≤(if t.final_=false then 80::ae aZ t.supers else if 0<t.supers.length then 79::ae aZ t.supers else []).length:=by
  split
  ·simp only[ae,List.length_cons,List.length_append];omega
  ·split
   ·simp only[ae,List.length_cons,List.length_append];omega
   ·omega
 have e2:1+(t.comp.params.length+t.comp.results.length+t.comp.fields.length)≤(if t.comp.kind=1 then 96::(ae bZ t.comp.params++ae bZ t.comp.results)else if t.comp.kind=2 then 95::ae bj t.comp.fields else 94::t.comp.fields.head?.elim [] bj).length:=by
  by_cases k1:t.comp.kind=1
  ·rw[if_pos k1]at h5⊢
   simp only[beq_iff_eq]at h5
   exact S6
  ·rw[if_neg k1]at h5⊢
   by_cases k2:t.comp.kind=2
   ·rw[if_pos k2]at h5⊢
    simp only[beq_iff_eq]at h5
    exact S6
   ·rw[if_neg k2]at h5⊢
    by_cases k3:t.comp.kind=3
    ·rw[if_pos k3]at h5
     simp only[Bool.and_eq_true,beq_iff_eq]at h5
     obtain⟨f,hf⟩:=List.length_eq_one_iff.1 h5.2
     rw[hf]
     have:=nB f
     simp
     omega
    ·rw[if_neg k3]at h5
     cases h5
 unfold dg qW bu.len
 exact zV
theorem TW {g:List bu} (h:g.all bP=true):uG g≤2*(cm g).length:=by
 have h1:=pT (p:=dg) (wt:=qW) 1 (l:=g) fun t ht=>by
  have:=M9 (List.all_eq_true.1 h t ht)
  omega
 unfold uG cm
 split
 ·rename_i h0
  have:g= []:=List.length_eq_zero_iff.1 h0
  subst this
  decide
 ·unfold qO
  rw[if_pos h]
  split
  ·rename_i h0;simp at h0
  ·rename_i t _
   have h2:=M9 (t:=t) (by simpa using h)
   have h3:=Bo t
   simp only[List.map_cons,List.map_nil,List.sum_cons,List.sum_nil]
   omega
  ·simp only[ae,List.length_cons,List.length_append]
   have:=dQ g.length
   omega
theorem zR (s:List UInt8):1+s.length≤(dX s).length:=by
 have:=dQ s.length
 unfold dX
 exact zV
theorem SP (i:jp):sU i≤2*(dR i).length:=by
 have:=zR i.modu
 have:=zR i.name
 unfold sU dR
 exact Px
theorem QU {f:dh} (h:cG f.body=true):tF f≤2*(dq f).length:=by
 have h1:=sV h
 have h2:=fZ ee f.locals fun x _=>wT x
 have h3:=dQ (ae ee f.locals++al f.body).length
 have h4:f.locals.length≤(ae ee f.locals).length:=by
  exact xX
 rw[List.length_append]at h3
 unfold tF dq aX
 rw[List.length_append,List.length_append]
 omega
theorem wv {l:List aa} (h:l.length=0):gh l=1:=by
 rw[List.length_eq_zero_iff.1 h]
 rfl
theorem Sj {t:lO} (h:gC t=true):sA t≤2*(fD t).length:=by
 have hp:=xx h
 unfold gC at h
 simp only[Bool.and_eq_true,Bool.or_eq_true,decide_eq_true_eq]at h
 unfold sA
 rcases h.2 with h2|h2
 ·have:=sV h.1.2
  unfold fD
  rw[if_pos h2]
  exact Sv
 ·have:=wv h2
  omega
theorem TF {g:mD} (h:hJ g=true):tJ g≤2*(gg g).length:=by
 unfold hJ at h
 simp only[Bool.and_eq_true]at h
 have:=sV h.2
 have:=vZ g.init
 unfold tJ gg
 exact zV
theorem TG (e:kB):tA e≤2*(fF e).length:=by
 have:=zR e.name
 unfold tA fF
 exact zV
theorem NO {i:aa} (h:i.op=210):ag i.op=4∨ag i.op=6:=by
 rw[h]
 decide+kernel
theorem LP {l:List aa} (h:cG l=true) (hn:cW l=true):gh l≤2*(ch l).length:=by
 unfold cW at hn
 simp only[Bool.and_eq_true,decide_eq_true_eq]at hn
 obtain⟨i,rfl⟩:=List.length_eq_one_iff.1 hn.1
 have hi:dx i=true:=by
  have:=(sY.1 h).1
  simpa using this
 have ho:i.op=210:=by simpa using hn.2
 have e:=(wc (NO ho) hi).2
 have e1:=congrArg (fun j=>j.types.length) e
 have e2:=congrArg (fun j=>j.labels.length) e
 have e3:=congrArg (fun j=>j.catches.length) e
 simp only[aa.of,List.length_nil]at e1 e2 e3
 have:=j9 ((([i]:List aa).head?.map (·.x)).getD 0)
 unfold gh ch wI
 simp only[List.map_cons,List.map_nil,List.sum_cons,List.sum_nil]
 omega
theorem QP {e:eb} (h:fP e=true):mJ e≤2*(cw e).length:=by
 unfold fP at h
 split at h
 ·rename_i h1
  simp only[Bool.and_eq_true]at h1
  have ho:gh e.offset≤1+(if e.mode=1 then al e.offset else []).length:=by
   by_cases m1:e.mode=1
   ·rw[if_pos m1]at h⊢
    simp only[Bool.and_eq_true]at h
    have:=sV h.2
    omega
   ·rw[if_neg m1]at h
    split at h
    ·simp only[Bool.and_eq_true,decide_eq_true_eq]at h
     have:=wv h.2
     omega
    ·cases h
  rw[sH]
  unfold mJ
  by_cases hn:aG e=true
  ·rw[if_pos hn]
   have ha:e.inits.all cW=true:=by
    unfold aG at hn
    simp only[Bool.and_eq_true]at hn
    exact hn.2
   have:=pT (p:=ch) (wt:=gh) 2 (l:=e.inits) fun l hl=>LP (List.all_eq_true.1 h1.2 l hl) (List.all_eq_true.1 ha l hl)
   exact xX
  ·rw[if_neg hn]
   have:=pT (p:=al) (wt:=gh) 1 (l:=e.inits) fun l hl=>by
    have:=sV (List.all_eq_true.1 h1.2 l hl)
    omega
   exact xX
 ·cases h
theorem TH {d:jG} (h:ix d=true):tp d≤2*(eu d).length:=by
 have hs:d.bytes.length+1≤(aX d.bytes).length:=by
  have:=dQ d.bytes.length
  unfold aX
  exact zV
 have h2:1+gh d.offset≤2*(if d.mode=0 then [1]else if d.mem=0 then 0::al d.offset else 2::(au d.mem++al d.offset)).length:=by
  unfold ix at h
  by_cases m1:d.mode=1
  ·rw[if_pos m1]at h
   simp only[Bool.and_eq_true]at h
   have:=sV h.2
   rw[if_neg (by omega)]
   split<;>simp<;>omega
  ·rw[if_neg m1]at h
   by_cases m0:d.mode=0
   ·rw[if_pos m0]at h⊢
    simp only[Bool.and_eq_true,decide_eq_true_eq]at h
    have:=wv h.2
    simp
    omega
   ·rw[if_neg m0]at h
    cases h
 unfold tp eu
 exact zV
theorem mz {α:Type} {p:α→List UInt8} {wt:α→Nat} {id:UInt8} {l:List α} (h:∀x,x∈l→wt x≤2*(p x).length):(l.map wt).sum≤2*(bO id l p).length:=by
 have h1:=pT (p:=p) (wt:=wt) 2 h
 unfold bO
 split
 ·rename_i h0
  rw[List.length_eq_zero_iff.1 h0]
  simp
 ·unfold aX ae
  exact Sv
theorem FU {α:Type} {p:α→List UInt8} {id:UInt8} {l:List α} (h:∀x,x∈l→1≤(p x).length):l.length≤(bO id l p).length:=by
 have h1:=fZ p l h
 unfold bO
 split
 ·omega
 ·unfold aX ae
  exact Sv
structure Xg (m:aV):Prop where
 types:∀g,g∈m.types→g.all bP=true
 imports:∀i,i∈m.imports→kl i=true
 funcs:∀f,f∈m.funcs→kY f=true
 tables:∀t,t∈m.tables→gC t=true
 mems:∀l,l∈m.mems→jD l=true
 tags:∀n,n∈m.tags→ev n=true
 globals:∀g,g∈m.globals→hJ g=true
 exports:∀e,e∈m.exports→kj e=true
 start:m.start= -1∨ev m.start=true
 elems:∀e,e∈m.elems→fP e=true
 datas:∀d,d∈m.datas→ix d=true
theorem sn {m:aV} (h:cy m=true):Xg m:=by
 unfold cy at h
 simp only[Bool.and_eq_true,Bool.or_eq_true,decide_eq_true_eq]at h
 obtain⟨⟨⟨⟨⟨⟨⟨⟨⟨⟨y1,y2⟩,y3⟩,y4⟩,y5⟩,y6⟩,y7⟩,y8⟩,y9⟩,xI⟩,Gu⟩:=h
 exact⟨List.all_eq_true.1 y1,List.all_eq_true.1 y2,List.all_eq_true.1 y3,List.all_eq_true.1 y4,List.all_eq_true.1 y5,List.all_eq_true.1 y6,List.all_eq_true.1 y7,List.all_eq_true.1 y8,y9,List.all_eq_true.1 xI,List.all_eq_true.1 Gu⟩
theorem qQ {f:dh} (h:kY f=true):ev f.type=true∧(∀r,r∈f.locals→ev r.n=true∧aj r.val=true)∧gY f.locals≤4294967295∧cG f.body=true:=by
 unfold kY at h
 simp only[Bool.and_eq_true,List.all_eq_true,decide_eq_true_eq]at h
 exact⟨h.1.1.1,h.1.1.2,h.1.2,h.2⟩
theorem SD {m:aV} (h:cy m=true):ip m≤2*(dy m).length:=by
 have hm:=sn h
 have e:(dy m).length=(aP++(km m).flatten).length:=by unfold dy;rw[if_pos h]
 rw[e,jP]
 have a0:=mz (id:=1) (p:=cm) (wt:=uG) fun g hg=>TW (hm.types g hg)
 have a1:=mz (id:=2) (p:=dR) (wt:=sU) (l:=m.imports) fun g _=>SP g
 have a2:=mz (id:=10) (p:=dq) (wt:=tF) fun g hg=>QU (qQ (hm.funcs g hg)).2.2.2
 have a3:=mz (id:=4) (p:=fD) (wt:=sA) fun g hg=>Sj (hm.tables g hg)
 have a4:=FU (id:=5) (p:=ea) (l:=m.mems) fun g _=>vJ g
 have a5:=FU (id:=13) (p:=eW) (l:=m.tags) fun g _=>by simp[eW]
 have a6:=mz (id:=6) (p:=gg) (wt:=tJ) fun g hg=>TF (hm.globals g hg)
 have a7:=mz (id:=7) (p:=fF) (wt:=tA) (l:=m.exports) fun g _=>TG g
 have a9:=mz (id:=9) (p:=cw) (wt:=mJ) fun g hg=>QP (hm.elems g hg)
 have a10:=mz (id:=11) (p:=eu) (wt:=tp) fun g hg=>TH (hm.datas g hg)
 have e8:aP.length=8:=rfl
 unfold ip
 exact Px
structure xN (m:aV):Prop where
 imports:∀i,i∈m.imports→yw i.what
 funcs:∀f,f∈m.funcs→∀i,i∈f.body→i.u<18446744073709551616
 tables:∀t,t∈m.tables→fK t.type.lim∧∀i,i∈t.init→i.u<18446744073709551616
 mems:∀l,l∈m.mems→fK l
 globals:∀g,g∈m.globals→∀i,i∈g.init→i.u<18446744073709551616
 elems:∀e,e∈m.elems→(∀l,l∈e.inits→∀i,i∈l→i.u<18446744073709551616)∧∀i,i∈e.offset→i.u<18446744073709551616
 datas:∀d,d∈m.datas→∀i,i∈d.offset→i.u<18446744073709551616
theorem nC {m:aV} (h:xk m):xN m where
 imports i hi:=⟨(h.imports i hi).m2,(h.imports i hi).m1⟩
 funcs f hf i hi:=((h.funcs f hf).2.2 i hi).num.2
 tables t ht:=⟨(h.tables t ht).1.2,fun i hi=>((h.tables t ht).2 i hi).num.2⟩
 mems:=h.mems
 globals g hg i hi:=((h.globals g hg).2 i hi).num.2
 elems e he:=⟨fun l hl i hi=>((h.elems e he).2.1 l hl i hi).num.2,fun i hi=>((h.elems e he).2.2 i hi).num.2⟩
 datas d hd i hi:=((h.datas d hd).2 i hi).num.2
theorem Oi {m:aV} (h:ii m):xN m where
 imports i hi:=(h.imports i hi).2.2
 funcs f hf i hi:=((h.codes f hf).1.2 i hi).1
 tables t ht:=⟨(h.tables t ht).1,fun i hi=>((h.tables t ht).2 i hi).1⟩
 mems:=h.mems
 globals g hg i hi:=(h.globals g hg i hi).1
 elems e he:=⟨fun l hl i hi=>((h.elems e he).2.1 l hl i hi).1,fun i hi=>((h.elems e he).2.2 i hi).1⟩
 datas d hd i hi:=((h.datas d hd).1 i hi).1
theorem aR {α:Type} {wt:α→Nat} {l:List α} {x:α} {n:Nat} (h:x∈l) (hn:(l.map wt).sum≤n):wt x≤n:=Nat.le_trans (Gg wt h) hn
theorem bN {m:aV} {N:Nat} (h:ip m≤N):(m.types.map uG).sum≤N∧(m.imports.map sU).sum≤N∧(m.funcs.map tF).sum≤N∧(m.tables.map sA).sum≤N∧m.mems.length≤N∧m.tags.length≤N∧(m.globals.map tJ).sum≤N∧(m.exports.map tA).sum≤N∧(m.elems.map mJ).sum≤N∧(m.datas.map tp).sum≤N:=by
 unfold ip at h
 omega
theorem RC {l:List aa} {N:Nat} (h:gh l≤N):l.length≤N∧∀i,i∈l→wI i≤N:=by
 unfold gh at h
 have:=fV Si l
 exact⟨by omega,fun i hi=>aR hi (by omega)⟩
theorem S7 {i:aa} (h:wI i≤1048576) (hu:i.u<18446744073709551616):Dz i:=by
 unfold wI at h
 exact⟨by omega,by omega,by omega,hu⟩
theorem lD {l:List aa} (h:gh l≤1048576) (ho:∀i,i∈l→ -9223372036854775808≤i.op∧i.op<9223372036854775808):lB l:=by
 obtain⟨h1,h2⟩:=RC h
 refine⟨fun i hi=> ?_,by omega⟩
 have h3:=h2 i hi
 unfold wI at h3
 exact⟨(ho i hi).1,(ho i hi).2,by omega,by omega,by omega⟩
theorem Bw {l:List aa} (h:gh l≤1048576) (hu:∀i,i∈l→i.u<18446744073709551616):∀i,i∈l→Dz i:=fun i hi=>S7 ((RC h).2 i hi) (hu i hi)
theorem pF {l:List aa} (h:gh l≤1048576) (hm:∀i,i∈l→dx i=true) (hu:∀i,i∈l→i.u<18446744073709551616):jq l:=by
 refine⟨lD h fun i hi=> ?_,Bw h hu,?_⟩
 ·have:=(lj (hm i hi)).1
  omega
 ·have:=mp (Bw h hu)
  omega
theorem jg {l:List aa} (h:cG l=true):∀i,i∈l→dx i=true:=List.all_eq_true.1 (sY.1 h).1
theorem Gd {l:List aa} (h:l.length=0):∀i,i∈l→dx i=true:=by
 rw[List.length_eq_zero_iff.1 h]
 intro i hi
 cases hi
theorem pJ:aC.ok ⟨0,0⟩:=⟨⟨by decide,by decide⟩,by decide,by decide⟩
theorem vf {v:aF} (h:fy v=true):v.heap.ok:=by
 unfold fy at h
 simp only[Bool.and_eq_true]at h
 exact db h.2
theorem uB {t:dJ} (h:eL t=true):t.elem.heap.ok:=by
 unfold eL at h
 simp only[Bool.and_eq_true]at h
 exact vf h.1
theorem zt {x:i9} (h:ez x=true):(0≤x.n∧x.n≤4294967295)∧x.table.elem.heap.ok∧x.global.val.heap.ok:=by
 unfold ez at h
 split at h
 ·simp only[Bool.and_eq_true,bz,decide_eq_true_eq]at h
  rw[h.2]
  exact⟨h.1,pJ,pJ⟩
 ·split at h
  ·simp only[Bool.and_eq_true,decide_eq_true_eq]at h
   rw[h.2]
   exact⟨⟨(by show(0:Int)≤0;decide),(by show(0:Int)≤4294967295;decide)⟩,uB h.1,pJ⟩
  ·split at h
   ·simp only[Bool.and_eq_true,decide_eq_true_eq]at h
    rw[h.2]
    exact⟨⟨(by show(0:Int)≤0;decide),(by show(0:Int)≤4294967295;decide)⟩,pJ,pJ⟩
   ·split at h
    ·simp only[Bool.and_eq_true,decide_eq_true_eq]at h
     rw[h.2]
     exact⟨⟨(by show(0:Int)≤0;decide),(by show(0:Int)≤4294967295;decide)⟩,pJ,db h.1⟩
    ·cases h
theorem xm {i:jp} (h:kl i=true):ez i.what=true:=by
 unfold kl at h
 simp only[Bool.and_eq_true]at h
 exact h.2
theorem vr {t:lO} (h:gC t=true):eL t.type=true∧cG t.init=true:=by
 unfold gC at h
 simp only[Bool.and_eq_true]at h
 exact⟨h.1.1,h.1.2⟩
theorem vv {g:mD} (h:hJ g=true):g.type.val.heap.ok∧cG g.init=true:=by
 unfold hJ at h
 simp only[Bool.and_eq_true]at h
 exact⟨db h.1,h.2⟩
theorem Fd {e:kB} (h:kj e=true):0≤e.n∧e.n≤4294967295:=by
 unfold kj at h
 simp only[Bool.and_eq_true,bz]at h
 exact h.2
theorem oy {e:eb} (h:fP e=true):e.type.heap.ok∧(0≤e.table∧e.table≤4294967295)∧(e.mode=0∨e.mode=1∨e.mode=2)∧(∀i,i∈e.offset→dx i=true)∧∀l,l∈e.inits→cG l=true:=by
 unfold fP at h
 split at h
 ·rename_i h1
  simp only[Bool.and_eq_true]at h1
  refine⟨vf h1.1,?_⟩
  split at h
  ·rename_i h2
   simp only[Bool.and_eq_true,bz]at h
   exact⟨h.1,.inr (.inl h2),jg h.2,List.all_eq_true.1 h1.2⟩
  ·split at h
   ·rename_i h2
    simp only[Bool.and_eq_true,decide_eq_true_eq]at h
    exact⟨by omega,by omega,Gd h.2,List.all_eq_true.1 h1.2⟩
   ·cases h
 ·cases h
theorem vE {d:jG} (h:ix d=true):(0≤d.mem∧d.mem≤4294967295)∧∀i,i∈d.offset→dx i=true:=by
 unfold ix at h
 split at h
 ·simp only[Bool.and_eq_true,bz]at h
  exact⟨h.1,jg h.2⟩
 ·split at h
  ·simp only[Bool.and_eq_true,decide_eq_true_eq]at h
   exact⟨by omega,Gd h.2⟩
  ·cases h
theorem oP {α:Type} {p:α→List UInt8} {wt:α→Nat} {l:List α} (h1:∀x,1≤wt x) (h:∀x,x∈l→(p x).length≤100*wt x) (hs:(l.map wt).sum≤1048576):(ae p l).length≤104857610:=by
 have:=pI h
 have:=fV h1 l
 have:=si p l (by omega)
 omega
theorem Ee {α:Type} {p:α→List UInt8} {l:List α} (h:∀x,x∈l→(p x).length≤100) (hs:l.length≤1048576):(ae p l).length≤104857610:=by
 have:=iC l h
 have:=si p l (by omega)
 omega
structure Xm (m:aV):Prop where
 types:(ae cm m.types).length≤104857610
 imports:(ae dR m.imports).length≤104857610
 funcs:(ae (fun f:dh=>au f.type) m.funcs).length≤104857610
 tables:(ae fD m.tables).length≤104857610
 mems:(ae ea m.mems).length≤104857610
 tags:(ae eW m.tags).length≤104857610
 globals:(ae gg m.globals).length≤104857610
 exports:(ae fF m.exports).length≤104857610
 start:(au m.start).length≤104857610
 elems:(ae cw m.elems).length≤104857610
 count:(aI m.datas.length).length≤104857610
 codes:(ae dq m.funcs).length≤104857610
 datas:(ae eu m.datas).length≤104857610
theorem Ad {m:aV} (_:cy m=true) (_:xN m) (hw:ip m≤1048576):∀g,g∈m.types→L4 g:=fun g hg=>by
 have h1:=aR hg (bN hw).1
 unfold uG at h1
 have h2:=fV Bo g
 refine⟨fun t ht=> ?_,by omega⟩
 have h3:=aR ht (show(g.map qW).sum≤1048576 by omega)
 unfold qW at h3
 omega
theorem ND {m:aV} (hm:cy m=true) (_:xN m) (hw:ip m≤1048576):∀e,e∈m.exports→e.name.length≤1048576∧0≤e.n∧e.n≤4294967295:=fun e he=>by
 have h1:=aR he (bN hw).2.2.2.2.2.2.2.1
 unfold tA at h1
 exact⟨by omega,Fd ((sn hm).exports e he)⟩
theorem kJ {l:List aa} (h:jq l):gu l 4294967295:=fun i hi=>by
 have h1:=h.sm i hi
 exact⟨h1.u,by have:=h1.ls;omega,by have:=h1.ts;omega,by have:=h1.cs;omega⟩
theorem BD {m:aV} (hm:cy m=true) (hu:xN m) (hw:ip m≤1048576):∀i,i∈m.imports→IH i.what∧i.modu.length≤1048576∧i.name.length≤1048576:=fun i hi=>by
 have h1:=aR hi (bN hw).2.1
 unfold sU at h1
 obtain⟨e1,e2,e3⟩:=zt (xm ((sn hm).imports i hi))
 have e4:=hu.imports i hi
 exact⟨⟨⟨by omega,by omega⟩,e2,e4.2,e4.1,e3⟩,by omega,by omega⟩
theorem F4 {m:aV} (hm:cy m=true) (hu:xN m) (hw:ip m≤1048576):∀f,f∈m.funcs→(0≤f.type∧f.type≤4294967295)∧(∀r,r∈f.locals→(0≤r.n∧r.n≤4294967295)∧r.val.heap.ok)∧f.locals.length≤1048576∧gh f.body≤1048576∧jq f.body:=fun f hf=>by
 have h1:=aR hf (bN hw).2.2.1
 unfold tF at h1
 obtain⟨e1,e2,_,e3⟩:=qQ ((sn hm).funcs f hf)
 exact⟨(bz _).1 e1,fun r hr=>⟨(bz _).1 (e2 r hr).1,db (e2 r hr).2⟩,by omega,by omega,pF (by omega) (jg e3) (hu.funcs f hf)⟩
theorem O5 {m:aV} (hm:cy m=true) (hu:xN m) (hw:ip m≤1048576):∀t,t∈m.tables→t.type.elem.heap.ok∧fK t.type.lim∧gh t.init≤1048576∧jq t.init:=fun t ht=>by
 have h1:=aR ht (bN hw).2.2.2.1
 unfold sA at h1
 obtain⟨e1,e2⟩:=vr ((sn hm).tables t ht)
 exact⟨uB e1,(hu.tables t ht).1,by omega,pF (by omega) (jg e2) (hu.tables t ht).2⟩
theorem LC {m:aV} (hm:cy m=true) (hu:xN m) (hw:ip m≤1048576):∀g,g∈m.globals→g.type.val.heap.ok∧gh g.init≤1048576∧jq g.init:=fun g hg=>by
 have h1:=aR hg (bN hw).2.2.2.2.2.2.1
 unfold tJ at h1
 obtain⟨e1,e2⟩:=vv ((sn hm).globals g hg)
 exact⟨e1,by omega,pF (by omega) (jg e2) (hu.globals g hg)⟩
theorem DC {m:aV} (hm:cy m=true) (hu:xN m) (hw:ip m≤1048576):∀e,e∈m.elems→e.type.heap.ok∧(0≤e.table∧e.table≤4294967295)∧(e.mode=0∨e.mode=1∨e.mode=2)∧gh e.offset≤1048576∧jq e.offset∧e.inits.length≤1048576∧(∀l,l∈e.inits→gh l≤1048576∧jq l∧∀i,i∈l→dx i=true):=fun e he=>by
 have h1:=aR he (bN hw).2.2.2.2.2.2.2.2.1
 unfold mJ at h1
 have h2:=fV vZ e.inits
 obtain⟨e1,e2,e3,e4,e5⟩:=oy ((sn hm).elems e he)
 refine⟨e1,e2,e3,by omega,pF (by omega) e4 (hu.elems e he).2,by omega,fun l hl=> ?_⟩
 have h3:=aR hl (show(e.inits.map gh).sum≤1048576 by omega)
 exact⟨h3,pF h3 (jg (e5 l hl)) ((hu.elems e he).1 l hl),jg (e5 l hl)⟩
theorem LD {m:aV} (hm:cy m=true) (hu:xN m) (hw:ip m≤1048576):∀d,d∈m.datas→(0≤d.mem∧d.mem≤4294967295)∧gh d.offset≤1048576∧jq d.offset∧d.bytes.length≤1048576:=fun d hd=>by
 have h1:=aR hd (bN hw).2.2.2.2.2.2.2.2.2
 unfold tp at h1
 obtain⟨e1,e2⟩:=vE ((sn hm).datas d hd)
 exact⟨e1,by omega,pF (by omega) e2 (hu.datas d hd),by omega⟩
theorem FR {m:aV} (hm:cy m=true) (hu:xN m) (hw:ip m≤1048576):Xm m where
 types:=oP Cg (fun g hg=>CN (Ad hm hu hw g hg)) (bN hw).1
 imports:=oP C1 (fun i hi=>TR (BD hm hu hw i hi).1 (BD hm hu hw i hi).2.1 (BD hm hu hw i hi).2.2) (bN hw).2.1
 funcs:=Ee (fun f hf=>by
  have h1:=(F4 hm hu hw f hf).1
  have:=az f.type (by omega)
  omega) (by
  have:=fV xa m.funcs
  have:=(bN hw).2.2.1
  omega)
 tables:=oP CJ (fun t ht=>by
  obtain⟨h1,h2,h3,h4⟩:=O5 hm hu hw t ht
  exact SQ h1 h2 h4.sm) (bN hw).2.2.2.1
 mems:=Ee (fun l hl=>by
  have:=Ey (hu.mems l hl)
  omega) (bN hw).2.2.2.2.1
 tags:=Ee (fun n hn=>by
  have h1:=(bz _).1 ((sn hm).tags n hn)
  have:=Pk (n:=n) (by omega)
  omega) (bN hw).2.2.2.2.2.1
 globals:=oP Cv (fun g hg=>by
  obtain⟨h1,h2,h3⟩:=LC hm hu hw g hg
  exact Te h1 h3.sm) (bN hw).2.2.2.2.2.2.1
 exports:=oP Ct (fun e he=>by
  obtain⟨h1,h2,h3⟩:=ND hm hu hw e he
  exact Sx (by omega) h1) (bN hw).2.2.2.2.2.2.2.1
 start:=by
  have h1:m.start<9223372036854775808:=by
   rcases(sn hm).start with h|h
   ·omega
   ·have:=(bz _).1 h
    omega
  have:=az m.start h1
  omega
 elems:=oP yf (fun e he=>by
  obtain⟨h1,h2,h3,h4,h5,h6,h7⟩:=DC hm hu hw e he
  exact Gi ⟨by omega,by omega⟩ h1 (fun l hl i hi=>⟨(h7 l hl).2.1.sm i hi,by have:=(lj ((h7 l hl).2.2 i hi)).2;exact⟨by omega,by omega⟩⟩) h5.sm h6) (bN hw).2.2.2.2.2.2.2.2.1
 count:=by
  have h1:=fV we m.datas
  have h2:=(bN hw).2.2.2.2.2.2.2.2.2
  have:=bG m.datas.length (by omega)
  omega
 codes:=oP xa (fun f hf=>by
  obtain⟨h1,h2,h3,h4,h5⟩:=F4 hm hu hw f hf
  exact Qv (fun r hr=>⟨⟨by have:=(h2 r hr).1;omega,by have:=(h2 r hr).1;omega⟩,(h2 r hr).2⟩) h3 h5.sm h4) (bN hw).2.2.1
 datas:=oP we (fun d hd=>by
  obtain⟨h1,h2,h3,h4⟩:=LD hm hu hw d hd
  exact T9 ⟨by omega,by omega⟩ h3.sm h4) (bN hw).2.2.2.2.2.2.2.2.2
theorem Fy {m:aV} (hm:cy m=true) (hu:xN m) (hw:ip m≤1048576):((km m).flatten).length≤2147483648:=by
 have h:=FR hm hu hw
 have e:=congrArg List.length (jP m)
 have hs:∀{α:Type} (id:UInt8) (l:List α) (p:α→List UInt8),(ae p l).length≤104857610→(bO id l p).length≤104857621:=fun id l p hp=>by
  unfold bO
  split
  ·simp
  ·have:=pf (ae p l) (by omega)
   exact Dj
 have a1:=hs 1 _ _ h.types
 have a2:=hs 2 _ _ h.imports
 have a3:=hs 3 _ _ h.funcs
 have a4:=hs 4 _ _ h.tables
 have a5:=hs 5 _ _ h.mems
 have a6:=hs 13 _ _ h.tags
 have a7:=hs 6 _ _ h.globals
 have a8:=hs 7 _ _ h.exports
 have a9:=hs 9 _ _ h.elems
 have a10:=hs 10 _ _ h.codes
 have a11:=hs 11 _ _ h.datas
 have a12:(pn m.start).length≤104857621:=by
  unfold pn
  split
  ·have:=pf (au m.start) (by have:=h.start;omega)
   have:=h.start
   exact Dj
  ·simp
 have a13:(oT (m.funcs.any fun f=>bD f.body) m.datas.length).length≤104857621:=by
  unfold oT
  split
  ·have:=pf (aI m.datas.length) (by have:=h.count;omega)
   have:=h.count
   exact Dj
  ·simp
 simp only[List.length_append]at e
 omega
theorem wX {m:aV} (hm:cy m=true) (hu:xN m) (hw:ip m≤1048576):PM m where
 types g hg:=by
  have h1:=Ad hm hu hw g hg
  refine⟨h1,?_⟩
  have:=CN h1
  have:=aR hg (bN hw).1
  omega
 imports i hi:=by
  obtain⟨h1,h2,h3⟩:=BD hm hu hw i hi
  obtain⟨e1,_,_⟩:=zt (xm ((sn hm).imports i hi))
  exact⟨by omega,by omega,⟨by omega,by omega⟩,h1.ok1,h1.m1.1,h1.m1.2,h1.m2.1,h1.m2.2,h1.ok2⟩
 funcs f hf:=by
  obtain⟨h1,h2,h3,h4,h5⟩:=F4 hm hu hw f hf
  refine⟨by omega,fun r hr=>⟨by have:=(h2 r hr).1;omega,(h2 r hr).2⟩,h5,?_⟩
  have:=Fm (l:=f.locals) (fun r hr=>⟨⟨by have:=(h2 r hr).1;omega,by have:=(h2 r hr).1;omega⟩,(h2 r hr).2⟩) h3
  omega
 tables t ht:=by
  obtain⟨h1,h2,h3,h4⟩:=O5 hm hu hw t ht
  exact⟨h1,h2,h4⟩
 mems:=hu.mems
 tags n hn:=by
  have:=(bz _).1 ((sn hm).tags n hn)
  omega
 globals g hg:=by
  obtain⟨h1,h2,h3⟩:=LC hm hu hw g hg
  exact⟨h1,h3⟩
 exports e he:=by
  obtain⟨h1,h2,h3⟩:=ND hm hu hw e he
  exact⟨by omega,h2,by omega⟩
 start:=by
  rcases(sn hm).start with h|h
  ·omega
  ·have:=(bz _).1 h
   omega
 elems e he:=by
  obtain⟨h1,h2,h3,h4,h5,h6,h7⟩:=DC hm hu hw e he
  refine⟨h1,by omega,h3,h5,fun l hl=>⟨(h7 l hl).2.1,fun i hi _=> ?_⟩,?_⟩
  ·have:=(lj ((h7 l hl).2.2 i hi)).2
   omega
  ·have:=Gi (e:=e) ⟨by omega,by omega⟩ h1 (fun l hl i hi=>⟨(h7 l hl).2.1.sm i hi,by have:=(lj ((h7 l hl).2.2 i hi)).2;exact⟨by omega,by omega⟩⟩) h5.sm h6
   have:=aR he (bN hw).2.2.2.2.2.2.2.2.1
   omega
 datas d hd:=by
  obtain⟨h1,h2,h3,h4⟩:=LD hm hu hw d hd
  exact⟨by omega,h3,by omega⟩
 tot:=by
  have:=Fy hm hu hw
  omega
theorem oB {m:aV} (hm:cy m=true) (hu:xN m) (hw:ip m≤1048576):ii m where
 types g hg:=by
  have h1:=Ad hm hu hw g hg
  refine⟨by have:=h1.2;omega,fun t ht=> ?_⟩
  have h2:=h1.1 t ht
  unfold bu.len at h2
  exact⟨by omega,by omega,by omega,by omega⟩
 imports i hi:=by
  obtain⟨h1,h2,h3⟩:=BD hm hu hw i hi
  exact⟨by omega,by omega,hu.imports i hi⟩
 tables t ht:=by
  obtain⟨h1,h2,h3,h4⟩:=O5 hm hu hw t ht
  exact⟨h2,kJ h4⟩
 mems:=hu.mems
 globals g hg:=by
  obtain⟨h1,h2,h3⟩:=LC hm hu hw g hg
  exact kJ h3
 exports e he:=by
  obtain⟨h1,h2,h3⟩:=ND hm hu hw e he
  show e.name.length≤4294967295
  omega
 elems e he:=by
  obtain⟨h1,h2,h3,h4,h5,h6,h7⟩:=DC hm hu hw e he
  exact⟨by omega,fun l hl=>kJ (h7 l hl).2.1,kJ h5⟩
 codes f hf:=by
  obtain⟨h1,h2,h3,h4,h5⟩:=F4 hm hu hw f hf
  refine⟨⟨by dsimp only;omega,kJ h5⟩,?_⟩
  have a1:=Fm (l:=f.locals) (fun r hr=>⟨⟨by have:=(h2 r hr).1;omega,by have:=(h2 r hr).1;omega⟩,(h2 r hr).2⟩) h3
  have a2:=mp h5.sm
  exact zV
 datas d hd:=by
  obtain⟨h1,h2,h3,h4⟩:=LD hm hu hw d hd
  exact⟨kJ h3,by omega⟩
 lens:=by
  obtain⟨a1,a2,a3,a4,a5,a6,a7,a8,a9,a10⟩:=bN hw
  have b1:=fV Cg m.types
  have b2:=fV C1 m.imports
  have b3:=fV xa m.funcs
  have b4:=fV CJ m.tables
  have b7:=fV Cv m.globals
  have b8:=fV Ct m.exports
  have b9:=fV yf m.elems
  have b10:=fV we m.datas
  omega
 secs p hp:=by
  have h:=FR hm hu hw
  have key:∀{id:Nat} {c:List UInt8} {b:Bool},c.length≤104857610→p∈aU id c b→p.2.length<4294967296:=fun {id c b} hc hp=>by
   unfold aU at hp
   split at hp
   ·obtain rfl:=List.mem_singleton.1 hp
    dsimp only
    omega
   ·cases hp
  unfold secs at hp
  simp only[List.mem_append]at hp
  rcases hp with hp|hp|hp|hp|hp|hp|hp|hp|hp|hp|hp|hp|hp
  ·exact key h.types hp
  ·exact key h.imports hp
  ·exact key h.funcs hp
  ·exact key h.tables hp
  ·exact key h.mems hp
  ·exact key h.tags hp
  ·exact key h.globals hp
  ·exact key h.exports hp
  ·exact key h.start hp
  ·exact key h.elems hp
  ·exact key h.count hp
  ·exact key h.codes hp
  ·exact key h.datas hp
theorem RZ {m:aV} (hw:ip m≤1048576) (h1:∀f,f∈m.funcs→∀i,i∈f.body→ -9223372036854775808≤i.op∧i.op<9223372036854775808) (h2:∀t,t∈m.tables→∀i,i∈t.init→ -9223372036854775808≤i.op∧i.op<9223372036854775808)
 (h3:∀t,t∈m.globals→∀i,i∈t.init→ -9223372036854775808≤i.op∧i.op<9223372036854775808) (h4:∀e,e∈m.elems→(∀l,l∈e.inits→∀i,i∈l→ -9223372036854775808≤i.op∧i.op<9223372036854775808)∧∀i,i∈e.offset→ -9223372036854775808≤i.op∧i.op<9223372036854775808)
 (h5:∀d,d∈m.datas→∀i,i∈d.offset→ -9223372036854775808≤i.op∧i.op<9223372036854775808):NY m:=by
 obtain⟨a1,a2,a3,a4,a5,a6,a7,a8,a9,a10⟩:=bN hw
 refine⟨fun g hg t ht=> ?_,fun i hi=> ?_,fun f hf=> ?_,fun t ht=> ?_,fun t ht=> ?_,fun e he=> ?_,fun e he=> ?_,fun d hd=> ?_⟩
 ·have h:=aR hg a1
  unfold uG at h
  have h':=aR ht (show(g.map qW).sum≤1048576 by omega)
  unfold qW bu.len at h'
  exact⟨by omega,by omega,by omega,by omega⟩
 ·have h:=aR hi a2
  unfold sU at h
  omega
 ·have h:=aR hf a3
  unfold tF at h
  exact⟨lD (by omega) (h1 f hf),by omega⟩
 ·have h:=aR ht a4
  unfold sA at h
  exact lD (by omega) (h2 t ht)
 ·have h:=aR ht a7
  unfold tJ at h
  exact lD (by omega) (h3 t ht)
 ·have h:=aR he a8
  unfold tA at h
  omega
 ·have h:=aR he a9
  unfold mJ at h
  refine⟨lD (by omega) (h4 e he).2,fun l hl=> ?_⟩
  have h':=aR hl (show(e.inits.map gh).sum≤1048576 by omega)
  exact lD h' ((h4 e he).1 l hl)
 ·have h:=aR hd a10
  unfold tp at h
  exact lD (by omega) (h5 d hd)
theorem sZ {m:aV} (hn:xk m) (hw:ip m≤1048576):NY m:=
 RZ hw (fun f hf i hi=>((hn.funcs f hf).2.2 i hi).num.1) (fun t ht i hi=>((hn.tables t ht).2 i hi).num.1) (fun t ht i hi=>((hn.globals t ht).2 i hi).num.1)
  (fun e he=>⟨fun l hl i hi=>((hn.elems e he).2.1 l hl i hi).num.1,fun i hi=>((hn.elems e he).2.2 i hi).num.1⟩) (fun d hd i hi=>((hn.datas d hd).2 i hi).num.1)
theorem Kt {i:aa} (h:dx i=true): -9223372036854775808≤i.op∧i.op<9223372036854775808:=by
 have:=(lj h).1
 omega
theorem A0 {m:aV} (hm:cy m=true) (hw:ip m≤1048576):NY m:=by
 have h:=sn hm
 exact RZ hw (fun f hf i hi=>Kt (jg (qQ (h.funcs f hf)).2.2.2 i hi)) (fun t ht i hi=>Kt (jg (vr (h.tables t ht)).2 i hi)) (fun t ht i hi=>Kt (jg (vv (h.globals t ht)).2 i hi))
  (fun e he=>⟨fun l hl i hi=>Kt (jg ((oy (h.elems e he)).2.2.2.2 l hl) i hi),fun i hi=>Kt ((oy (h.elems e he)).2.2.2.1 i hi)⟩) (fun d hd i hi=>Kt ((vE (h.datas d hd)).2 i hi))
theorem Ag {b:List UInt8} (hb:b.length≤500000) (h:(dw b).2.1=0):cy (dw b).1=true∧NY (dw b).1∧PM (dw b).1∧ii (dw b).1∧(dy (dw b).1).length≤b.length+7∧dw (dy (dw b).1)=((dw b).1,0,0):=by
 obtain⟨h1,h2,h3,h4,_⟩:=IT (by omega) h
 have h5:=SD h1
 have hw:ip (dw b).1≤1048576:=by omega
 exact⟨h1,A0 h1 hw,wX h1 (Oi h2) hw,h2,h3,h4⟩
theorem ce:Tryz.prog.underlying 33=some ((Tryz.prog.underlying 33).get (by kernel_rfl)):=by kernel_rfl
theorem br:(Tryz.prog.info? 33).map (·.size)=some 11:=by kernel_rfl
theorem ur:(Tryz.prog.info? 108).map (·.size)=some 15:=by kernel_rfl
theorem Eg:Tryz.prog.underlying 108=some ((Tryz.prog.underlying 108).get (by kernel_rfl)):=by kernel_rfl
def Gv:LV:=⟨.slice none 0 0,.slice none 0 0,.slice none 0 0,.slice none 0 0,.slice none 0 0,.slice none 0 0,.slice none 0 0,.slice none 0 0,.slice none 0 0,.slice none 0 0,[],([],fun _=> .cells #[] 0)⟩
def Mp:List Value:= [.slice none 0 0,.slice none 0 0,.slice none 0 0,.slice none 0 0,.slice none 0 0,.slice none 0 0,.slice none 0 0,.slice none 0 0,.int .i64 (-1),.slice none 0 0,.slice none 0 0]
theorem cI.nil (w:World):cI Mp aV.none w:=⟨_,_,_,_,_,_,_,_,_,_,rfl,an.nil _ _ _,an.nil _ _ _,an.nil _ _ _,an.nil _ _ _,an.nil _ _ _,an.nil _ _ _,an.nil _ _ _,an.nil _ _ _,an.nil _ _ _,an.nil _ _ _⟩
theorem ow.modS {w0 w:World} {lb:Nat} {V:LV} {L:bT} (h:ow w0 w lb [] V L):cE V.xs w (cI ((om V L).take 11) L.m):=by
 have hfu:cE V.xs w (fun w=>Sl [] w 3 V.fu L.m.funcs.length V.fcs):=Sl.stay (h.own.sl (S':=V.xs) fun b hb hm=>(h.xl b hm).2.2.2.1 hb)
 have hs:=h.stay.sub (S':=V.xs) fun b _ hb=>by simp only[LV.Z,List.nil_append,List.mem_cons,List.mem_append];exact .inr (.inr hb)
 exact(hs.and hfu).imp fun w hw=>by
  obtain⟨⟨p0,p1,p2,p3,p4,p5,p6,p7,p8,p9⟩,hq⟩:=hw
  exact⟨V.ty,V.im,V.fu,V.ta,V.me,V.tg,V.gl,V.ex,V.el,V.da,rfl,p0,p1,⟨V.fcs,hq,p2⟩,p3,p4,p5,p6,p7,p8,p9⟩
theorem ow.start {w w1:World} {lb:Nat} {xs:List Nat} {f:Nat→Obj} (hf:Fr [] w w1) (hl:bB w1 lb (om Gv cg) 108) (hlb:w.heap.size≤lb) (hx:∀x,x∈xs→x≠lb∧w1.heap[x]? =some (f x)):ow w w1 lb [] {Gv with xo:=(xs,f)} cg:=
 ⟨hf,hl,bf.nil _ _ _ _,hlb,jS.nil _,by simp[Gv,Value.blk],(fun _ h=>by cases h),fun x h=>⟨trivial,(hx x h).1,by simp,by simp[Gv,Value.blk],(hx x h).2⟩,fun w' _ _ _=>⟨an.nil _ _ _,an.nil _ _ _,rfl,an.nil _ _ _,an.nil _ _ _,an.nil _ _ _,an.nil _ _ _,an.nil _ _ _,an.nil _ _ _,an.nil _ _ _⟩⟩
theorem St.one {w w2:World} {b:Nat} {cs:List Value} {T:TypeId} (hf:Fr [] w w2) (hl:bB w2 b cs T) (hb:w.heap.size≤b):St [] w w2 [.loc b cs T]:=
 ⟨hf,fun r hr=>by
  obtain rfl:=List.mem_singleton.1 hr
  exact hl,fun r hr c hc=>by
  obtain rfl:=List.mem_singleton.1 hr
  simp[bt.blk]at hc
  omega,List.pairwise_singleton _ _⟩
theorem qq {P:Program} {fn:Func} {p u v:Tmp} {ty:TypeId} (h:fn.results= #[.cell p ty,.tmp u,.tmp v]) (tmps:Array Value) (w:World) (g:Nat) (t:TypeId) (cs:Array Value) (fr:Nat×Nat) (d:TypeDesc)
 (hp:tmps.getD p undef= .pointer (some ⟨g,0,none⟩)) (hL:w.heap[g]? =some (.cells cs t (0,0))) (hu:P.underlying ty=some d) (hd:(match d with| .struct _| .array _ _=>true| _=>false)=true) (hi:(P.info? ty).map (·.size)=some cs.size):
 (results fn tmps).run P w= .ok (.tuple #[.agg cs,tmps.getD u undef,tmps.getD v undef]) w:=by
 have hp':tmps[p]?.getD undef= .pointer (some ⟨g,0,none⟩):=by simpa using hp
 simp[results,h,hp',asAddr,run_loadVar_row w g t ty cs (0,0) d hL hu hd hi]
theorem cI.one {c:List Value} {m:aV} {w:World} (h:cI c m w):c.length=11∧∀u∈c,u.oneCell'=true:=by
 obtain⟨ty,im,fu,ta,me,tg,gl,ex,el,da,rfl,h0,h1,h2,h3,h4,h5,h6,h7,h8,h9⟩:=h
 obtain⟨_,_,rfl⟩:=h0.shape
 obtain⟨_,_,rfl⟩:=h1.shape
 obtain⟨_,_,rfl⟩:=h2.shape
 obtain⟨_,_,rfl⟩:=h3.shape
 obtain⟨_,_,rfl⟩:=h4.shape
 obtain⟨_,_,rfl⟩:=h5.shape
 obtain⟨_,_,rfl⟩:=h6.shape
 obtain⟨_,_,rfl⟩:=h7.shape
 obtain⟨_,_,rfl⟩:=h8.shape
 obtain⟨_,_,rfl⟩:=h9.shape
 exact⟨rfl,by simp[Value.oneCell']⟩
def wF:List Value:= [.slice none 0 0,.slice none 0 0,.slice none 0 0,.slice none 0 0,.slice none 0 0,.slice none 0 0,.slice none 0 0,.slice none 0 0,.int .i64 0,.slice none 0 0,.slice none 0 0]
theorem P1 {bs:List UInt8} (h:(eE bs).2.1=0):dw bs=((eE bs).1.m,0,0):=by unfold dw;rw[if_pos h]
theorem Qd {bs:List UInt8} (h:(eE bs).2.1≠0):dw bs=(aV.none,(eE bs).2.1,(eE bs).2.2):=by unfold dw;rw[if_neg h]
theorem KH {w:World} {ops:Array Oper} {rest:List Oper} {o:Oper} {a:Act} {Q:Exit→Act→World→Prop} {x y:Operand} {b:Nat} {c cs:List Value} {T:TypeId} (hgd:o.guard=none) (ho:o.op= .store 33 x y) (hx:a.eval x= .pointer (some ⟨b,0,none⟩)) (hy:a.eval y= .agg c.toArray)
 (hl:bB w b cs T) (hc:c.length=cs.length) (hi:(Tryz.prog.info? 33).map (·.size)=some c.length) (h1:∀v∈c,v.oneCell'=true) (h:wpList Tryz.prog ops Q rest (a.put o.dst undef) (w.setCells b 0 c)):wpList Tryz.prog ops Q (o::rest) a w:=by
 refine wpList_store_mid hgd 33 x y ho b 0 c.toArray hx hy ?_ (by simpa using hi) (all_oneCell_toArray h1) (by simpa using h)
 have:=hl.there
 simpa [hc]using this
set_option maxRecDepth 100000
set_option maxHeartbeats 3200000
theorem Pp {w:World} {bv:Value} {bs:List UInt8} {E:List Nat} {f:Nat→Obj} (hE:∀x,x∈E→w.heap[x]? =some (f x)) (hb:Sl E w 1 bv bs.length (bs.map B)) (hg:cq E w) (hsm:bs.length≤274877906944):
 Calls Tryz.prog 9 #[bv] w fun e w'=>∃c,e= .returned (.tuple #[.agg c.toArray,.int .i64 (dw bs).2.1,.int .i64 (dw bs).2.2])∧c.length=11∧(∀u∈c,u.oneCell'=true)∧cE E w' (fun w2=>cI c (dw bs).1 w2)∧Fr [] w w':=by
 by_cases h0:(eE bs).2.1=0
 ·have q:((eE bs).2.1 !=0)=false:=by simp[h0]
  rw[P1 h0]
  clear h0
  have hS:=St.start [] w
  go_enter Tryz.func9,Tryz.ntmps9
  go_wp2_with first|(refine cd (ty:=108) rfl rfl rfl rfl ?_;refine UV ?_;intro wN hS)|fail
  have hlr:bB wN w.heap.size wF 33:=hS.loc (G':= [_]) (.there .here)
  have hlt:∀x,x∈E→x<w.heap.size:=fun x hx=>(Array.getElem?_eq_some_iff.1 (hE x hx)).1
  have hL:=ow.start (xs:=w.heap.size::E) (f:=fun x=>if x=w.heap.size then .cells wF.toArray 33 (0,0)else f x) hS.fr (hS.loc .here) (by omega) (fun x hx=>by
   rcases List.mem_cons.1 hx with rfl|hx
   ·exact⟨by omega,by rw[if_pos rfl];exact hlr⟩
   ·have h1:=hlt x hx
    exact⟨by omega,by rw[if_neg (by omega),hS.fr.block x h1 (by simp)];exact hE x hx⟩)
  have hsub:∀b,b<w.heap.size→b∈w.heap.size::E→b∈E:=fun b hlt hb=>(List.mem_cons.1 hb).elim (fun h=>by omega) (fun h=>h)
  refine(wl hL (hb.sub hsub) (hg.sub hsub) hsm).mono ?_
  rintro e w2 ⟨rfl,V,hx,hL2⟩
  have hx3:=hL2.xl w.heap.size (by unfold LV.xs;rw[hx];simp)
  rw[hx]at hx3
  have hl2:bB w2 w.heap.size wF 33:=by
   have:=hx3.2.2.2.2
   dsimp only at this
   rw[if_pos rfl]at this
   exact this
  have hxE:∀b,b∈E→b∈V.xs:=fun b hb=>by unfold LV.xs;rw[hx];exact List.mem_cons_of_mem _ hb
  have hS2:=St.one hL2.fr hl2 (Nat.le_refl _)
  clear hS
  have hS:=hS2
  have hm:=hL2.modS
  have hxin:w.heap.size∈V.xs:=by unfold LV.xs;rw[hx];simp
  have hrg:w2.rangeAt (w.heap.size+1) 0 ((om V (eE bs).1).take 11):=fun j v hv=>by
   rw[List.getElem?_take]at hv
   split at hv
   ·exact hL2.loc.range j v hv
   ·cases hv
  obtain⟨hc1,hc2⟩:=cI.one hm.now
  generalize (om V (eE bs).1).take 11=c at hm hrg hc1 hc2
  have hsz:(Tryz.prog.info? 33).map (·.size)=some c.length:=by rw[hc1];exact br
  go_wp2_with first|(refine bC (ty:=33) rfl rfl rfl ce rfl ?_;refine⟨_,_,_,c,hS,.elem hrg,hsz,?_⟩)|(refine KH (c:=c) rfl rfl rfl rfl hl2 hc1 hsz hc2 ?_)|fail
  have hlw:=bB.setAll c [] wF w2 hl2 hc1
  have hfw:=Fr.setCells (b:=w.heap.size) c 0 w2
  refine bodyPost_ret (qq rfl _ _ _ _ _ (0,0) _ rfl hlw ce rfl (by simpa using hsz)) rfl ?_
  exact⟨c,rfl,hc1,hc2,hm.go hfw (fun b _ hb=>by simp at hb;subst hb;exact hxin) (fun b _ hb=>hxE b hb),hL2.fr.then hfw (fun b hb=>by simp at hb;subst hb;exact .inr (Nat.le_refl _))⟩
 ·have q:((eE bs).2.1 !=0)=true:=bne_iff_ne.2 h0
  rw[Qd h0]
  clear h0
  have hS:=St.start [] w
  go_enter Tryz.func9,Tryz.ntmps9
  go_wp2_with first|(refine cd (ty:=108) rfl rfl rfl rfl ?_;refine UV ?_;intro wN hS)|fail
  have hlr:bB wN w.heap.size wF 33:=hS.loc (G':= [_]) (.there .here)
  have hlt:∀x,x∈E→x<w.heap.size:=fun x hx=>(Array.getElem?_eq_some_iff.1 (hE x hx)).1
  have hL:=ow.start (xs:=w.heap.size::E) (f:=fun x=>if x=w.heap.size then .cells wF.toArray 33 (0,0)else f x) hS.fr (hS.loc .here) (by omega) (fun x hx=>by
   rcases List.mem_cons.1 hx with rfl|hx
   ·exact⟨by omega,by rw[if_pos rfl];exact hlr⟩
   ·have h1:=hlt x hx
    exact⟨by omega,by rw[if_neg (by omega),hS.fr.block x h1 (by simp)];exact hE x hx⟩)
  have hsub:∀b,b<w.heap.size→b∈w.heap.size::E→b∈E:=fun b hlt hb=>(List.mem_cons.1 hb).elim (fun h=>by omega) (fun h=>h)
  refine(wl hL (hb.sub hsub) (hg.sub hsub) hsm).mono ?_
  rintro e w2 ⟨rfl,V,hx,hL2⟩
  have hx3:=hL2.xl w.heap.size (by unfold LV.xs;rw[hx];simp)
  rw[hx]at hx3
  have hl2:bB w2 w.heap.size wF 33:=by
   have:=hx3.2.2.2.2
   dsimp only at this
   rw[if_pos rfl]at this
   exact this
  have hxE:∀b,b∈E→b∈V.xs:=fun b hb=>by unfold LV.xs;rw[hx];exact List.mem_cons_of_mem _ hb
  have hS2:=St.one hL2.fr hl2 (Nat.le_refl _)
  clear hS
  have hS:=hS2
  go_wp2_with first|(refine cd (ty:=33) rfl rfl rfl rfl ?_;(repeat(apply Exists.intro));refine⟨?_,?_,?_,?_,?_,?_⟩;(·exact aA);(·exact iA);(·rfl);(·exact br);(·simp[Value.oneCell']);intro wN hS)|fail
  refine bodyPost_ret (qq rfl _ _ _ _ _ (0,0) _ rfl (hS.loc .here) ce rfl br) rfl ?_
  exact⟨Mp,rfl,rfl,by simp[Mp,Value.oneCell'],fun _ _ _ _=>cI.nil _,hS.fr⟩
theorem ij {w:World} {bv:Value} {bs:List UInt8} (hb:Sl [] w 1 bv bs.length (bs.map B)) (hg:cq [] w) (hsm:bs.length≤274877906944):
 Calls Tryz.prog 9 #[bv] w fun e w'=>∃c,e= .returned (.tuple #[.agg c.toArray,.int .i64 (dw bs).2.1,.int .i64 (dw bs).2.2])∧c.length=11∧(∀u∈c,u.oneCell'=true)∧cI c (dw bs).1 w'∧Fr [] w w':=
 (Pp (E:= []) (f:=fun _=> .cells #[] 0 (0,0)) (fun _ h=>by cases h) hb hg hsm).mono fun _ _ ⟨c,h1,h2,h3,h4,h5⟩=>⟨c,h1,h2,h3,h4.now,h5⟩
theorem r7 (w:World) (s:List UInt8) (hs:s.length≤1048576):Calls Tryz.prog 12 #[.string ⟨s.toArray⟩] w fun e w'=>∃v',e= .returned v'∧St [] w w' [.own 5 1 (v') (aP++s).length ((aP++s).map B)]:=by
 have hS:=St.start [] w
 have hm:(aP++s).length≤maxLen:=by
  have h8:aP.length=8:=rfl
  rw[List.length_append]
  unfold maxLen
  omega
 go_enter Tryz.func12,Tryz.ntmps12
 go_wp2_with (refine MP (X:=aP++s) rfl rfl (congrArg Value.string (P2 aP s)) ?_;(repeat(apply Exists.intro));refine⟨?_,?_,?_⟩;(·exact aA);(·exact hm);intro vN wN hS)
 go_ret
 exact⟨_,rfl,hS⟩
def Py:List UInt8:= [1,4,1,96,0,0,3,2,1,0,10,4,1,2,0,11]
def Xk:List UInt8:= [3,2,1,0]
def Xf:List UInt8:= [5,3,1,0,7,4,1,0]
def PX:List UInt8:= [0,2,1,97,5,3,1,0,7]
def Xd:List UInt8:= [0,97,115,109]
theorem N5:(dw (aP++Py)).2=(0,0)∧(dw (aP++Py)).1.types.length=1∧(dw (aP++Py)).1.funcs.length=1∧(dw (aP++Py)).1.start= -1:=by decide+kernel
theorem QS:(dy (dw (aP++Py)).1).length=24:=by decide+kernel
theorem NQ:(dw (aP++Xk)).2=(83,12):=by decide+kernel
theorem OI:(dw (aP++Xf)).2=(81,13):=by decide+kernel
theorem Ns:(dw (aP++PX)).2.1=0∧(dw (aP++PX)).1.mems.length=1∧((dw (aP++PX)).1.mems.map (·.min))= [7]:=by decide+kernel
theorem NA:(dw Xd).2.1=80:=by decide+kernel
set_option maxHeartbeats 6400000
theorem qt {w:World} (hg:cq [] w):Calls Tryz.prog 6 #[] w fun e w'=>e= .returned (.bool true)∧Fr [] w w':=by
 have hS:=St.start [] w
 have fW:=Fr.refl [] w
 go_enter Tryz.func6,Tryz.ntmps6
 go_upto_region 2 with first|(go_at_call 12;refine(r7 _ Py (by decide)).mono ?_;rintro e w4 ⟨v4,rfl,s4⟩;(try clear hQ);refine qa s4 fun hS hQ=> ?_)|((go_at_call 9;refine(ij (bs:=aP++Py) (bf.sl (St.own hS (by exact aK)) (by simp)) (hg.fr (fW.trans hS.fr) (by simp)) (by decide)).mono ?_;rintro e w5 ⟨c5,rfl,hl5,ho5,hM5,hF5⟩);have fW:=fW.trans (hS.fr.trans hF5);have hS:=St.start [] w5)|(refine cd (ty:=33) (vs:=c5) rfl rfl rfl rfl ?_;refine AZ ?_;intro wN hS)|fail
 have fW1:=fW
 have hM1:=hM5
 have h1:=hl5
 have o1:=ho5
 obtain⟨b1,hb1⟩:∃b,w5.heap.size=b:=⟨_,rfl⟩
 rw[hb1]at hS⊢
 obtain⟨c1,hc1⟩:∃c,c5=c:=⟨_,rfl⟩
 rw[hc1]at hS hM1 h1 o1⊢
 obtain⟨z1,e1a,e1b,e1c⟩:=N5
 have E1:(dw (aP++Py)).2.1=0:=by rw[z1]
 rw[E1]
 obtain⟨y1,y2,y3,y4,y5,_⟩:=Ag (b:=aP++Py) (by decide) E1
 clear hM5 hl5 ho5 hF5 s4 hQ fW
 have fW:=fW1
 (try clear hQ);have hQ:=St.fq hS
 go_upto_region 3 with first|(go_at_call 12;refine(r7 _ Xk (by decide)).mono ?_;rintro e w4 ⟨v4,rfl,s4⟩;(try clear hQ);refine qa s4 fun hS hQ=> ?_)|((go_at_call 9;refine(ij (bs:=aP++Xk) (bf.sl (St.own hS (by exact aK)) (by simp)) (hg.fr (fW.trans hS.fr) (by simp)) (by decide)).mono ?_;rintro e w5 ⟨c5,rfl,hl5,ho5,hM5,hF5⟩);rw[NQ];(try clear hQ);refine cB hF5 fun hS hQ=> ?_)|(refine cd (ty:=33) (vs:=c5) rfl rfl rfl rfl ?_;refine AZ ?_;intro wN hS)|fail
 clear hM5 hl5 ho5 hF5 s4
 (try clear hQ);have hQ:=St.fq hS
 go_upto_region 4 with first|(go_at_call 12;refine(r7 _ Xf (by decide)).mono ?_;rintro e w4 ⟨v4,rfl,s4⟩;(try clear hQ);refine qa s4 fun hS hQ=> ?_)|((go_at_call 9;refine(ij (bs:=aP++Xf) (bf.sl (St.own hS (by exact aK)) (by simp)) (hg.fr (fW.trans hS.fr) (by simp)) (by decide)).mono ?_;rintro e w5 ⟨c5,rfl,hl5,ho5,hM5,hF5⟩);rw[OI];(try clear hQ);refine cB hF5 fun hS hQ=> ?_)|(refine cd (ty:=33) (vs:=c5) rfl rfl rfl rfl ?_;refine AZ ?_;intro wN hS)|fail
 clear hM5 hl5 ho5 hF5 s4
 (try clear hQ);have hQ:=St.fq hS
 have hS:=hS.sel (G':= [.loc b1 c1 33]) (by exact ic)
 (try clear hQ);have hQ:=St.fq hS
 go_upto_region 5 with first|(go_at_call 12;refine(r7 _ PX (by decide)).mono ?_;rintro e w4 ⟨v4,rfl,s4⟩;(try clear hQ);refine qa s4 fun hS hQ=> ?_)|((go_at_call 9;refine(ij (bs:=aP++PX) (bf.sl (St.own hS (by exact aK)) (by simp)) (hg.fr (fW.trans hS.fr) (by simp)) (by decide)).mono ?_;rintro e w5 ⟨c5,rfl,hl5,ho5,hM5,hF5⟩);have hOld:∀w',Fr [] w5 w'→bB w' b1 c1 33∧cI c1 (dw (aP++Py)).1 w'∧cI c5 (dw (aP++PX)).1 w':=fun w' hf=>⟨((St.loc hS (by exact aK)).fr hF5 (by simp)).fr hf (by simp),hM1.fr ((hS.fr.trans hF5).trans hf),hM5.fr hf⟩;have fW:=fW.trans (hS.fr.trans hF5);have hS:=St.start [] w5)|(refine cd (ty:=33) (vs:=c5) rfl rfl rfl rfl ?_;refine AZ ?_;intro wN hS)|fail
 obtain⟨E4,e4a,e4b⟩:=Ns
 rw[E4]
 obtain⟨b4,hb4⟩:∃b,w5.heap.size=b:=⟨_,rfl⟩
 rw[hb4]at hS⊢
 have hold:=hOld
 obtain⟨c4,hc4⟩:∃c,c5=c:=⟨_,rfl⟩
 rw[hc4]at hS hold hl5 ho5⊢
 have h4:=hl5
 have o4:=ho5
 clear hM5 hl5 ho5 s4 hOld
 (try clear hQ);have hQ:=St.fq hS
 go_upto_region 6 with first|(refine oY rfl rfl rfl ?_;(repeat(apply Exists.intro));refine⟨?_,?_,?_,?_,?_⟩;(·exact aA);(·exact aK);(·exact(show _=(Xd).map B from rfl));(·exact⟨rfl,rfl,by decide⟩);intro wN hS;(try clear hQ);have hQ:=St.fq hS)|((go_at_call 9;refine(ij (bs:=Xd) (bf.sl (St.own hS (by exact aK)) (by simp)) (hg.fr (fW.trans hS.fr) (by simp)) (by decide)).mono ?_;rintro e w5 ⟨c5,rfl,hl5,ho5,hM5,hF5⟩);rw[NA];(try clear hQ);refine cB hF5 fun hS hQ=> ?_)|(refine cd (ty:=33) (vs:=c5) rfl rfl rfl rfl ?_;refine AZ ?_;intro wN hS)|fail
 clear hM5 hl5 ho5 hF5
 have hS:=hS.sel (G':= [.loc b4 c4 33]) (by exact ic)
 (try clear hQ);have hQ:=St.fq hS
 go_upto_region 7 with first|(refine bC (ty:=33) rfl rfl rfl ce rfl ?_;(repeat(apply Exists.intro));refine⟨?_,?_,?_,?_⟩;(·exact aA);(·exact eD.elem (bB.range (hold _ hS.fr).1));(·rw[h1];exact br))|(go_at_call 8;refine(po (hg.fr (fW.trans hS.fr) (by simp)) (hold _ hS.fr).2.1 y2 y3 y1).mono ?_;rintro e w6 ⟨v6,rfl,s6⟩;(try clear hQ);refine qa s6 fun hS hQ=> ?_)|fail
 obtain⟨B1,m1,m4⟩:=hold _ hS.fr
 have n4:=m4
 obtain⟨ty,im,fu,ta,me,tg,gl,ex,el,da,q1,g0,g1,g2,g3,g4,g5,g6,g7,g9,g10⟩:=m1
 obtain⟨ty4,im4,fu4,ta4,me4,tg4,gl4,ex4,el4,da4,q4,k0,k1,k2,k3,k4,k5,k6,k7,k9,k10⟩:=m4
 obtain⟨x,hx⟩:∃x,(dw (aP++PX)).1.mems[0]? =some x:=⟨_,List.getElem?_eq_getElem (by omega)⟩
 have hmin:x.min=7:=by
  have:=congrArg (fun l=>l[0]?) e4b
  simp only[List.getElem?_map,hx,Option.map_some,List.getElem?_cons_zero,Option.some.injEq]at this
  exact this
 obtain⟨ab,ao,ac,cx,hv,hab,hR,_,hc⟩:=an.elem k4 (fun x c h=>fR.len x c _ h) hx
 obtain rfl:cx=du x:=hR
 have e0:=hc 1 (by decide)
 simp only[Nat.zero_mul,Nat.zero_add,du,List.getElem?_cons_succ,List.getElem?_cons_zero,hmin]at e0
 obtain⟨a0,d0,p0⟩:=g0.shape
 obtain⟨a2,d2,p2⟩:=g2.shape
 obtain⟨a6,d6,p6,_⟩:=bf.shape (hS.own (.here))
 rw[e1a]at p0
 rw[e1b]at p2
 rw[e4a]at hv
 rw[QS]at p6
 subst p0 p2 hv p6
 have B1c:=B1.cell
 rw[q1,e1c]at B1c
 rw[q4]at hQ
 have B1l:=B1.lt
 clear hc hx k0 k1 k2 k3 k4 k5 k6 k7 k9 k10 g0 g1 g2 g3 g4 g5 g6 g7 g9 g10 hold
 go_wp2
 go_ret
 exact⟨rfl,fW.trans (by exact aM)⟩
end Go.Proofs.YtpdlmdlkecnpgaaGreatDoor
