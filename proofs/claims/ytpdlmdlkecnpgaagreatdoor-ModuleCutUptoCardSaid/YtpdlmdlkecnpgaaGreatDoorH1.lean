/- Texts: Aux Kit LebP LebL. -/
import Derived.Test.YtpdlmdlkecnpgaaGreatDoorH0
import Derived.ProofKit
import Derived.Test.YtpdlmdlkecnpgaaGreatDoorProg
import Derived.WalkKit
import Derived.WalkSpells
import Derived.WalkLawsBesides
import Derived.Deep.QuietTactic
import Derived.BigQuiet
import Derived.LaidEqlPtr
import Derived.Deep.AppendSrc
import Derived.Deep.Upon
import Derived.Deep.RegionWith
import Derived.Deep.LoopGhost
import Derived.Deep.RegionLaw
import Derived.Deep.RegionLawGrows
import Derived.Lib.Hide
set_option linter.unusedSimpArgs false
set_option linter.unusedVariables false
namespace Go.Proofs.YtpdlmdlkecnpgaaGreatDoor
theorem R6 {p:Prop} (h:p:=by(((try simp only[World.size_alloc,World.size_setCell,ay,ar]);first|(apply Ac.own;((try simp only[World.size_alloc,World.size_setCell,ay,ar]);repeat(first|(exact bg.here)|(with_reducible apply bg.there)));done)|(apply Ac.lit;(·((try simp only[World.size_alloc,World.size_setCell,ay,ar]);repeat(first|(exact bg.here)|(with_reducible apply bg.there))));(·omega))|(apply Ac.nil;rfl));first|done|fail)):p:=h
theorem RV {p:Prop} (h:p:=by(((try simp only[World.size_alloc,World.size_setCell,ay,ar]);first|(apply jv.own;((try simp only[World.size_alloc,World.size_setCell,ay,ar]);repeat(first|(exact bg.here)|(with_reducible apply bg.there)));done)|(apply jv.lit;(·((try simp only[World.size_alloc,World.size_setCell,ay,ar]);repeat(first|(exact bg.here)|(with_reducible apply bg.there))));(·omega))|(apply jv.arg;assumption));first|done|fail)):p:=h
theorem R1 {p:Prop} (h:p:=by(((try simp only[World.size_alloc,World.size_setCell,ay,ar]);first|(apply Ac.own;((try simp only[World.size_alloc,World.size_setCell,ay,ar]);first|((repeat(first|(with_reducible exact bg.here)|(with_reducible apply bg.there)));done)|(repeat(first|(exact bg.here)|(with_reducible apply bg.there))));done)|(apply Ac.lit;(·((try simp only[World.size_alloc,World.size_setCell,ay,ar]);first|((repeat(first|(with_reducible exact bg.here)|(with_reducible apply bg.there)));done)|(repeat(first|(exact bg.here)|(with_reducible apply bg.there)))));(·omega))|(apply Ac.nil;rfl));first|done|fail)):p:=h
theorem RI {p:Prop} (h:p:=by(((try simp only[World.size_alloc,World.size_setCell,ay,ar]);first|(apply jv.own;((try simp only[World.size_alloc,World.size_setCell,ay,ar]);first|((repeat(first|(with_reducible exact bg.here)|(with_reducible apply bg.there)));done)|(repeat(first|(exact bg.here)|(with_reducible apply bg.there))));done)|(apply jv.lit;(·((try simp only[World.size_alloc,World.size_setCell,ay,ar]);first|((repeat(first|(with_reducible exact bg.here)|(with_reducible apply bg.there)));done)|(repeat(first|(exact bg.here)|(with_reducible apply bg.there)))));(·omega))|(apply jv.arg;assumption));first|done|fail)):p:=h
theorem ic {p:Prop} (h:p:=by((((try simp only[World.size_alloc,World.size_setCell,ay,ar]);repeat(first|(exact xM.all)|(exact xM.nil)|(apply xM.cons;(·((try simp only[World.size_alloc,World.size_setCell,ay,ar]);repeat(first|(exact bg.here)|(with_reducible apply bg.there)));done))|(apply xM.skip))));first|done|fail)):p:=h
theorem zl {p:Prop} (h:p:=by((((try simp only[World.size_alloc,World.size_setCell,ay,ar]);repeat(first|(with_reducible exact xM.all)|(with_reducible exact xM.nil)|(apply xM.cons;(·((try simp only[World.size_alloc,World.size_setCell,ay,ar]);first|((repeat(first|(with_reducible exact bg.here)|(with_reducible apply bg.there)));done)|(repeat(first|(exact bg.here)|(with_reducible apply bg.there))));done))|(apply xM.skip))));first|done|fail)):p:=h
theorem aK {p:Prop} (h:p:=by((((try simp only[World.size_alloc,World.size_setCell,ay,ar]);repeat(first|(exact bg.here)|(with_reducible apply bg.there))));first|done|fail)):p:=h
theorem iA {p:Prop} (h:p:=by((((try simp only[World.size_alloc,World.size_setCell,ay,ar]);first|((repeat(first|(with_reducible exact bg.here)|(with_reducible apply bg.there)));done)|(repeat(first|(exact bg.here)|(with_reducible apply bg.there)))));first|done|fail)):p:=h
theorem aA {p:Prop} (h:p:=by(((repeat(first|(with_reducible assumption)|(with_reducible apply St.alloc)|(with_reducible apply St.drew)|(with_reducible apply St.drewN)|(with_reducible apply St.alloc'))));first|done|fail)):p:=h
theorem aw {p:Prop} (h:p:=by(((repeat(first|(with_reducible assumption)|(with_reducible apply St.alloc)|(with_reducible apply St.drew)|(with_reducible apply St.drewN)|(with_reducible apply St.alloc')|(with_reducible apply St.set)|(with_reducible exact bg.here)|(with_reducible apply bg.there))));first|done|fail)):p:=h
theorem oi {p:Prop} (h:p:=by(((repeat(first|(with_reducible assumption)|(with_reducible apply dj.alloc)|(with_reducible apply dj.drew)|(with_reducible apply dj.drewN)|(with_reducible apply dj.set)|(with_reducible exact bg.here)|(with_reducible apply bg.there))));first|done|fail)):p:=h
theorem bS {p:Prop} (h:p:=by(((first|(simp only[List.length_append,List.length_cons,List.length_nil,List.length_map];done)|(simp only[List.length_append,List.length_cons,List.length_nil,List.length_map];omega)|omega));first|done|fail)):p:=h
theorem aM {p:Prop} (h:p:=by(((first|exact hS.fr|(apply St.fr;(exact aA))|(apply St.fr;(first|exact hS0|(exact aA)))));first|done|fail)):p:=h
theorem tH {p:Prop} (h:p:=by(((first|(with_reducible exact hS.rd)|(apply dj.rd;(exact oi);done)|exact hS.rd));first|done|fail)):p:=h
theorem td {p:Prop} (h:p:=by(((first|(with_reducible exact hS.fr)|(apply dj.fr;(exact oi);done)|exact hS.fr));first|done|fail)):p:=h
theorem rz {p:Prop} (h:p:=by(((first|(with_reducible exact hS.rd)|(apply KT.rd;(exact gL);done)|exact hS.rd));first|done|fail)):p:=h
theorem rY {p:Prop} (h:p:=by(((first|(with_reducible exact hS.fr)|(apply KT.fr;(exact gL);done)|exact hS.fr));first|done|fail)):p:=h
theorem VO {p:Prop} (h:p:=by(((first|(with_reducible exact hS.fr)|(apply St.fr;(exact aw);done)|exact hS.fr));first|done|fail)):p:=h
theorem TC {p:Prop} (h:p:=by((((try simp only[World.size_alloc,World.size_setCell,ay,ar]);apply eD.loc;(exact aK)));first|done|fail)):p:=h
theorem Sr {p:Prop} (h:p:=by((((try simp only[World.size_alloc,World.size_setCell,ay,ar]);apply eD.loc;(exact iA)));first|done|fail)):p:=h
theorem cF {p:Prop} (h:p:=by((repeat(first|(with_reducible exact Fr.refl _ _)|(with_reducible assumption)|(with_reducible apply Fr.alloc)|(with_reducible apply Fr.drew)|(with_reducible apply Fr.drewN)|(with_reducible refine Fr.setCell ?_ (by first|(left;simp;done)|(right;simp;done)|(right;simp;omega)) _)));first|done|fail)):p:=h
open Go.RowKit
structure Fr (S:List Nat) (w w':World):Prop where
 os:w'.os=w.os
 tape:w'.tape=w.tape
 output:w'.output=w.output
 size:w.heap.size≤w'.heap.size
 block:∀k,k<w.heap.size→k∉S→w'.heap[k]? =w.heap[k]?
theorem Fr.refl (S:List Nat) (w:World):Fr S w w:=⟨rfl,rfl,rfl,Nat.le_refl _,fun _ _ _=>rfl⟩
theorem Fr.trans {S:List Nat} {a b c:World} (h:Fr S a b) (k:Fr S b c):Fr S a c:=
 ⟨k.os.trans h.os,k.tape.trans h.tape,k.output.trans h.output,Nat.le_trans h.size k.size,fun i hi hn=>(k.block i (Nat.lt_of_lt_of_le hi h.size) hn).trans (h.block i hi hn)⟩
theorem Fr.mono {S S':List Nat} {w w':World} (h:Fr S w w') (hs:∀k,k∈S→k∈S'):Fr S' w w':=
 ⟨h.os,h.tape,h.output,h.size,fun k hk hn=>h.block k hk (fun hm=>hn (hs k hm))⟩
theorem Fr.then {S S':List Nat} {a b c:World} (h:Fr S a b) (k:Fr S' b c) (hs:∀k,k∈S'→k∈S∨a.heap.size≤k):Fr S a c:=
 ⟨k.os.trans h.os,k.tape.trans h.tape,k.output.trans h.output,Nat.le_trans h.size k.size,fun i hi hn=>
  (k.block i (Nat.lt_of_lt_of_le hi h.size) (fun hm=>(hs i hm).elim hn (fun h=>by omega))).trans (h.block i hi hn)⟩
theorem Fr.drew {S:List Nat} {a w:World} (h:Fr S a w):Fr S a w.drew:=⟨h.os,h.tape,h.output,h.size,h.block⟩
theorem Fr.drewN {S:List Nat} {a w:World} (h:Fr S a w) (n:Nat):Fr S a (w.drewN n):=⟨h.os,h.tape,h.output,h.size,h.block⟩
theorem Fr.alloc {S:List Nat} {a w:World} (h:Fr S a w) (o:Obj):Fr S a (w.alloc o):=
 h.trans ⟨rfl,rfl,rfl,by simp,fun k hk _=>Below.heap_alloc _ _ _ hk⟩
theorem Fr.setCell {S:List Nat} {a w:World} (h:Fr S a w) {p:Addr} (hp:p.block∈S∨a.heap.size≤p.block) (u:Value):Fr S a (w.setCell p u):=
 ⟨h.os,h.tape,h.output,by simpa [World.setCell]using h.size,fun k hk hn=>by
  rw[Below.heap_setCell _ _ _ _ (by rintro rfl;rcases hp with hp|hp;exact hn hp;omega)];exact h.block k hk hn⟩
theorem Fr.cell {S:List Nat} {w w':World} (h:Fr S w w') {b:Nat} (hb:b<w.heap.size) (hn:b∉S) (o:Nat):w'.cell? ⟨b,o,none⟩=w.cell? ⟨b,o,none⟩:=
 World.cell?_of_block (h.block b hb hn)
theorem Fr.frozen {S:List Nat} {w w':World} (h:Fr S w w') {b:Nat} (hb:b<w.heap.size) (hn:b∉S) (o:Nat):w'.frozen? ⟨b,o,none⟩=w.frozen? ⟨b,o,none⟩:=
 World.frozen?_of_block (h.block b hb hn)
theorem Fr.below {w w':World} (h:Fr [] w w'):Below w.heap.size w w':=⟨h.os,h.tape,h.output,h.size,fun k hk=>h.block k hk (by simp)⟩
def bB (w:World) (b:Nat) (c:List Value) (T:TypeId):Prop:=w.heap[b]? =some (.cells c.toArray T (0,0))
theorem bB.lt {w:World} {b:Nat} {c:List Value} {T:TypeId} (h:bB w b c T):b<w.heap.size:=(Array.getElem?_eq_some_iff.1 h).1
theorem bB.cell {w:World} {b:Nat} {c:List Value} {T:TypeId} (h:bB w b c T):∀o,w.cell? ⟨b,o,none⟩=c[o]? :=fun o=>by
 unfold bB at h;simp[World.cell?,h]
theorem bB.frz {w:World} {b:Nat} {c:List Value} {T:TypeId} (h:bB w b c T):∀o,w.frozen? ⟨b,o,none⟩=false:=fun o=>by
 unfold bB at h;simp[World.frozen?,h]
theorem bB.fr {w w':World} {b:Nat} {c:List Value} {T:TypeId} {S:List Nat} (h:bB w b c T) (hf:Fr S w w') (hn:b∉S):bB w' b c T:=by
 unfold bB at*;rw[hf.block b (bB.lt h) hn];exact h
theorem bB.new (w:World) (c:List Value) (T:TypeId):bB (w.alloc (.cells c.toArray T)) w.heap.size c T:=heap_alloc_new w _
theorem bB.alloc {w:World} {b:Nat} {c:List Value} {T:TypeId} (h:bB w b c T) (o:Obj):bB (w.alloc o) b c T:=by
 unfold bB at*;exact(Below.heap_alloc w o b (bB.lt h)).trans h
theorem bB.drew {w:World} {b:Nat} {c:List Value} {T:TypeId} (h:bB w b c T):bB w.drew b c T:=h
theorem bB.drewN {w:World} {b:Nat} {c:List Value} {T:TypeId} (h:bB w b c T) (n:Nat):bB (w.drewN n) b c T:=h
theorem bB.set {w:World} {b:Nat} {c:List Value} {T:TypeId} (h:bB w b c T) (i:Nat) (v:Value):bB (w.setCell ⟨b,i,none⟩ v) b (c.set i v) T:=by
 unfold bB at*
 simp[World.setCell,Array.getElem?_modify,h]
theorem bB.set' {w:World} {b:Nat} {c:List Value} {T:TypeId} (h:bB w b c T) {p:Addr} (hn:b≠p.block) (v:Value):bB (w.setCell p v) b c T:=by
 unfold bB at*;rw[heap_setCell_other _ _ _ _ hn];exact h
def Sl (S:List Nat) (w:World) (k:Nat) (v:Value) (n:Nat) (cs:List Value):Prop:=
 cs.length=n*k∧(∀u∈cs,u.oneCell'=true)∧∃a cap,v= .slice a n cap∧n≤cap∧cap≤maxLen∧
  (a=none→cap=0)∧(n=0∨∃b off,a=some ⟨b,off,none⟩∧b∉S∧b<w.heap.size∧∀j,j<n*k→w.cell? ⟨b,off+j,none⟩=cs[j]?)
theorem Sl.fr {S S':List Nat} {w w':World} {k n:Nat} {v:Value} {cs:List Value} (h:Sl S w k v n cs) (hf:Fr S' w w') (hs:∀b,b<w.heap.size→b∈S'→b∈S):Sl S w' k v n cs:=by
 obtain⟨h1,h2,a,cap,h3,h4,h5,hN,h6⟩:=h
 refine⟨h1,h2,a,cap,h3,h4,h5,hN,?_⟩
 rcases h6 with h6|⟨b,off,e,hn,hb,hc⟩
 ·exact .inl h6
 ·refine .inr ⟨b,off,e,hn,Nat.lt_of_lt_of_le hb hf.size,fun j hj=> ?_⟩
  rw[hf.cell hb (fun hm=>hn (hs b hb hm))];exact hc j hj
theorem Sl.sub {S S':List Nat} {w:World} {k n:Nat} {v:Value} {cs:List Value} (h:Sl S w k v n cs) (hs:∀b,b<w.heap.size→b∈S'→b∈S):Sl S' w k v n cs:=by
 obtain⟨h1,h2,a,cap,h3,h4,h5,hN,h6⟩:=h
 refine⟨h1,h2,a,cap,h3,h4,h5,hN,?_⟩
 rcases h6 with h6|⟨b,off,e,hn,hb,hc⟩
 ·exact .inl h6
 ·exact .inr ⟨b,off,e,fun hm=>hn (hs b hb hm),hb,hc⟩
theorem Sl.nil (S:List Nat) (w:World) (k:Nat):Sl S w k (.slice none 0 0) 0 []:=
 ⟨by simp,(fun _ h=>by cases h),none,0,rfl,Nat.le_refl _,by decide,fun _=>rfl,.inl rfl⟩
theorem Sl.src {P:Program} {S:List Nat} {w:World} {k n:Nat} {v:Value} {cs:List Value} {tx e':TypeId} (h:Sl S w k v n cs) (hk:P.underlying tx=some (.slice e')):Src P k tx v n cs w:=by
 obtain⟨h1,h2,a,cap,rfl,h4,h5,hN,h6⟩:=h
 rcases h6 with rfl|⟨b,off,rfl,hn,hb,hc⟩
 ·have:cs= []:=by simpa using h1
  subst this
  cases a with
  |none=>exact Src.ofNil w hk cap
  |some a=>exact Src.ofSlice w hk a 0 cap [] (by simp) (by simp) (by simp)
 ·refine Src.ofSlice w hk ⟨b,off,none⟩ n cap cs h1 (fun j u hu=> ?_) h2
  have hj:j<n*k:=by rw[←h1];exact(List.getElem?_eq_some_iff.1 hu).1
  have hadd:(⟨b,off,none⟩:Addr).add j=⟨b,off+j,none⟩:=by unfold Addr.add;split<;>simp_all
  rw[hadd,hc j hj];exact hu
def Value.blk:Value→List Nat
 | .slice (some a) _ _=> [a.block]
 | _=> []
def nX (w:World) (g:Nat) (cur:Array Value) (e:TypeId):Prop:=∃fz:Nat×Nat,w.heap[g]? =some (.cells cur e fz)∧(fz=(0,0)∨cur.size≤fz.1)
theorem nX.of {w:World} {g:Nat} {cur:Array Value} {e:TypeId} (h:w.heap[g]? =some (.cells cur e (0,0))):nX w g cur e:=⟨_,h,.inl rfl⟩
theorem nX.lt {w:World} {g:Nat} {cur:Array Value} {e:TypeId} (h:nX w g cur e):g<w.heap.size:=by
 obtain⟨fz,h,_⟩:=h
 exact(Array.getElem?_eq_some_iff.1 h).1
theorem nX.eq {w w':World} {g:Nat} {cur:Array Value} {e:TypeId} (h:nX w g cur e) (he:w'.heap[g]? =w.heap[g]?):nX w' g cur e:=by
 obtain⟨fz,h,h2⟩:=h
 exact⟨fz,he.trans h,h2⟩
theorem nX.cell {w:World} {g:Nat} {cur:Array Value} {e:TypeId} (h:nX w g cur e) (j:Nat):w.cell? ⟨g,j,none⟩=cur[j]? :=by
 obtain⟨fz,h,_⟩:=h
 exact cell_of_row w g j cur e fz h
theorem nX.frozen {w:World} {g:Nat} {cur:Array Value} {e:TypeId} (h:nX w g cur e) {j:Nat} (hj:j<cur.size):w.frozen? ⟨g,j,none⟩=false:=by
 obtain⟨fz,h,h2⟩:=h
 rcases h2 with rfl|h2
 ·simp[World.frozen?,h]
 ·simp only[World.frozen?,h]
  simp
  intro h3
  omega
theorem nX.set {w:World} {g:Nat} {cur:Array Value} {e:TypeId} (h:nX w g cur e) (o:Nat) (v:Value):nX (w.setCell ⟨g,o,none⟩ v) g (cur.setIfInBounds o v) e:=by
 obtain⟨fz,h,h2⟩:=h
 exact⟨fz,by simp[World.setCell,Array.getElem?_modify,h],by simpa using h2⟩
def bf (S:List Nat) (w:World) (e:TypeId) (k:Nat) (v:Value) (n:Nat) (xs:List Value):Prop:=
 xs.length=n*k∧(∀u∈xs,u.oneCell'=true)∧((v= .slice none 0 0∧n=0)∨
  ∃g cap cur,v= .slice (some ⟨g,0,none⟩) n cap∧g∉S∧nX w g cur e∧n≤cap∧cap≤maxLen∧cur.size=cap*k∧cur.toList.take (n*k)=xs)
theorem bf.nil (S:List Nat) (w:World) (e:TypeId) (k:Nat):bf S w e k (.slice none 0 0) 0 []:=⟨by simp,(fun _ h=>by cases h),.inl ⟨rfl,rfl⟩⟩
theorem bf.fr {S S':List Nat} {w w':World} {e:TypeId} {k n:Nat} {v:Value} {xs:List Value} (h:bf S w e k v n xs) (hf:Fr S' w w') (hs:∀b,b∈S'→b∉Value.blk v):bf S w' e k v n xs:=by
 obtain⟨h1,h2,h3⟩:=h
 refine⟨h1,h2,?_⟩
 rcases h3 with h3|⟨g,cap,cur,rfl,hg,hh,h4⟩
 ·exact .inl h3
 ·refine .inr ⟨g,cap,cur,rfl,hg,?_,h4⟩
  exact hh.eq (hf.block g hh.lt (fun hm=>hs g hm (by simp[Value.blk])))
theorem bf.sub {S S':List Nat} {w:World} {e:TypeId} {k n:Nat} {v:Value} {xs:List Value} (h:bf S w e k v n xs) (hs:∀b,b∈S'→b∈S∨b∉Value.blk v):bf S' w e k v n xs:=by
 obtain⟨h1,h2,h3⟩:=h
 refine⟨h1,h2,?_⟩
 rcases h3 with h3|⟨g,cap,cur,rfl,hg,h4⟩
 ·exact .inl h3
 ·exact .inr ⟨g,cap,cur,rfl,fun hm=>(hs g hm).elim hg (fun h=>h (by simp[Value.blk])),h4⟩
theorem bf.blk_lt {S:List Nat} {w:World} {e:TypeId} {k n:Nat} {v:Value} {xs:List Value} (h:bf S w e k v n xs):∀b,b∈Value.blk v→b<w.heap.size∧b∉S:=by
 obtain⟨h1,h2,h3⟩:=h
 rcases h3 with⟨rfl,_⟩|⟨g,cap,cur,rfl,hg,hh,h4⟩
 ·intro b hb;cases hb
 ·intro b hb
  simp[Value.blk]at hb
  subst hb
  exact⟨hh.lt,hg⟩
theorem bf.sl {S S':List Nat} {w:World} {e:TypeId} {k n:Nat} {v:Value} {xs:List Value} (h:bf S w e k v n xs) (hs:∀b,b∈Value.blk v→b∉S'):Sl S' w k v n xs:=by
 obtain⟨h1,h2,h3⟩:=h
 refine⟨h1,h2,?_⟩
 rcases h3 with⟨rfl,rfl⟩|⟨g,cap,cur,rfl,hg,hh,h4,h5,h6,h7⟩
 ·exact⟨none,0,rfl,Nat.le_refl _,by decide,fun _=>rfl,.inl rfl⟩
 ·refine⟨_,cap,rfl,h4,h5,fun h=>(by cases h),?_⟩
  by_cases h0:n=0
  ·exact .inl h0
  ·refine .inr ⟨g,0,rfl,hs g (by simp[Value.blk]),hh.lt,fun j hj=> ?_⟩
   rw[Nat.zero_add,hh.cell j,←h7,List.getElem?_take,if_pos hj]
   simp
theorem bf.shape {S:List Nat} {w:World} {e:TypeId} {k n:Nat} {v:Value} {xs:List Value} (h:bf S w e k v n xs):∃a cap,v= .slice a n cap∧n≤cap∧cap≤maxLen:=by
 obtain⟨h1,h2,h3⟩:=h
 rcases h3 with⟨rfl,rfl⟩|⟨g,cap,cur,rfl,hg,hh,h4,h5,h6⟩
 ·exact⟨_,_,rfl,Nat.le_refl _,by decide⟩
 ·exact⟨_,_,rfl,h4,h5⟩
theorem bf.made {S:List Nat} {w:World} (e:TypeId) (k n:Nat) (xs:List Value) (hS:∀b,b∈S→b<w.heap.size) (h1:xs.length=n*k) (h2:∀u∈xs,u.oneCell'=true) (hm:n≤maxLen):
 bf S (w.alloc (.cells xs.toArray e)) e k (.slice (some ⟨w.heap.size,0,none⟩) n n) n xs:=
 ⟨h1,h2,.inr ⟨w.heap.size,n,xs.toArray,rfl,fun hm=>by have:=hS _ hm;omega,.of (heap_alloc_new w _),Nat.le_refl _,hm,by simpa using h1,by rw[←h1];simp⟩⟩
theorem qh (g:Nat) (e:TypeId):∀(vs:List Value) (o:Nat) (w:World) (cur:Array Value),nX w g cur e→o+vs.length≤cur.size→
 ∃cur',nX (w.setCells g o vs) g cur' e∧cur'.size=cur.size∧cur'.toList=cur.toList.take o++vs++cur.toList.drop (o+vs.length)
 | [],o,w,cur,h,_=>⟨cur,h,rfl,by simp⟩
 |v::r,o,w,cur,h,hl=>by
  simp only[List.length_cons]at hl
  have h1:=h.set o v
  obtain⟨cur',a,b,c⟩:=qh g e r (o+1) _ _ h1 (by simp;omega)
  refine⟨cur',a,by simpa using b,?_⟩
  rw[c]
  have hlt:o<cur.toList.length:=by simp;omega
  have e1:(cur.toList.set o v).take (o+1)=cur.toList.take o++ [v]:=by
   rw[List.take_succ_eq_append_getElem (by simpa using hlt)]
   simp[List.take_set]
   exact List.set_eq_of_length_le (by simp;omega)
  have e2:(cur.toList.set o v).drop (o+1+r.length)=cur.toList.drop (o+(r.length+1)):=by
   rw[List.drop_set_of_lt (by omega)];congr 1;omega
  simp only[Array.toList_setIfInBounds,List.length_cons]
  rw[e1,e2]
  simp
theorem CK (g:Nat) (vs:List Value) (o:Nat) (w:World):Fr [g] w (w.setCells g o vs):=by
 induction vs generalizing o w with
 |nil=>exact Fr.refl _ _
 |cons v r ih=>exact((Fr.refl [g] w).setCell (p:=⟨g,o,none⟩) (by simp) v).trans (ih _ _)
theorem F5 {P:Program} (w:World) (t tx ty e:TypeId) (i:TypeInfo) (z:Value) (k bytes:Nat) (ht:P.underlying t=some (.slice e)) (hi:P.info? e=some i) (hz:i.zero=some z)
 (hsize:i.size=k) (hby:i.bytes=bytes) (hzs:z.cells.size=k) (hk:0<k) {S:List Nat} (hS:∀b,b∈S→b<w.heap.size)
 {v:Value} {n:Nat} {xs:List Value} (hown:bf S w e k v n xs) {x:Value} {m:Nat} {news:List Value} (hsrc:Src P k tx x m news w)
 (hb:(n+m)*bytes≤140737488355328) (hml:n+m≤maxLen):
 ∃v' w',(Builtin.append_ #[t,tx] ty #[v,x]).run P w= .ok v' w'∧bf S w' e k v' (n+m) (xs++news)∧Fr (Value.blk v) w w'∧(Value.blk v'=Value.blk v∨Value.blk v'= [w.heap.size]):=by
 subst hsize
 subst hby
 obtain⟨h1,h2,h3⟩:=hown
 have hlen:(xs++news).length=(n+m)*i.size:=by rw[List.length_append,h1,hsrc.newsLen,Nat.add_mul]
 have hone:∀u∈xs++news,u.oneCell'=true:=fun u hu=>by
  rcases List.mem_append.1 hu with h|h
  ·exact h2 u h
  ·exact hsrc.one u h
 have grown:∀(old:Nat),old<n+m→
  bf S (w.drew.alloc (.cells ((xs++news).toArray++Builtin.zeroCells z.cells (grownCap w (n+m) old e-(n+m))) e)) e i.size (.slice (some ⟨w.heap.size,0,none⟩) (n+m) (grownCap w (n+m) old e)) (n+m) (xs++news):=by
  intro old ho
  have hge:=grownCap_ge w (n+m) old e
  have hcm:grownCap w (n+m) old e≤maxLen:=grownCap_le_maxLen w (n+m) old e hml
  refine⟨hlen,hone,.inr ⟨w.heap.size,_,_,rfl,fun hm=>by have:=hS _ hm;omega,.of (heap_alloc_new w.drew _),hge,hcm,?_,?_⟩⟩
  ·simp only[Array.size_append,List.size_toArray,size_zeroCells,hzs,hlen,←Nat.add_mul]
   congr 1
   omega
  ·simp only[Array.toList_append]
   rw[List.take_append_of_le_length (by omega),←hlen,List.take_length]
 have hbig:n+m≤9223372036854775807:=by simp only[maxLen]at hml;omega
 rcases h3 with⟨rfl,rfl⟩|⟨g,cap,cur,rfl,hg,hh,h4,h5,h6,h7⟩
 ·have hxs:xs= []:=by simpa using h1
  subst hxs
  by_cases h0:m=0
  ·subst h0
   have hnews:news= []:=by have:=hsrc.newsLen;simpa using this
   subst hnews
   refine⟨_,w,run_append_nothing w t tx ty e i ht hi none 0 0 (Nat.le_refl _) x hsrc,?_,Fr.refl _ _,.inl rfl⟩
   exact⟨by simp,(fun _ h=>by cases h),.inl ⟨rfl,rfl⟩⟩
  ·refine⟨_,_,run_append_grow_src w t tx ty e i z ht hi hz none 0 0 [] (run_firstCells_none _ _ _ _ _) x m news hsrc (by omega) (by omega) (growslice_fits (by omega) (by simpa using hb)),?_,?_,.inr rfl⟩
   ·exact grown 0 (by omega)
   ·exact((Fr.refl _ w).drew).alloc _
 ·by_cases hroom:n+m≤cap
  ·have hsz:0+n*i.size+news.length≤cur.size:=by
    rw[hsrc.newsLen,h6,Nat.zero_add,←Nat.add_mul];exact Nat.mul_le_mul_right _ hroom
   obtain⟨cur',a,b,c⟩:=qh g e news (0+n*i.size) w cur hh hsz
   refine⟨_,_,run_append_room_src w t tx ty e i ht hi g 0 n cap x m news hsrc hroom (fun j hj=> ?_) (fun j hj=> ?_),?_,CK _ _ _ _,.inl rfl⟩
   ·rw[hh.cell,Array.getElem?_eq_getElem (by omega)];rfl
   ·exact hh.frozen (by omega)
   ·refine⟨hlen,hone,.inr ⟨g,cap,cur',rfl,hg,a,hroom,h5,by rw[b,h6],?_⟩⟩
    rw[c,Nat.zero_add,h7,List.take_append_of_le_length (by omega),←hlen,List.take_length]
  ·refine⟨_,_,run_append_grow_src w t tx ty e i z ht hi hz (some ⟨g,0,none⟩) n cap xs ?_ x m news hsrc (by omega) (by omega) (growslice_fits (by omega) hb),?_,?_,.inr rfl⟩
   ·refine run_firstCells_some _ _ _ _ _ _ xs h1 (fun j u hu=> ?_)
    have hadd:(⟨g,0,none⟩:Addr).add j=⟨g,j,none⟩:=by unfold Addr.add;split<;>simp_all
    rw[hadd]
    show w.cell? _= _
    rw[hh.cell j]
    rw[←h7,List.getElem?_take]at hu
    split at hu
    ·simpa using hu
    ·cases hu
   ·exact grown cap (by omega)
   ·exact((Fr.refl _ w).drew).alloc _
theorem gI {P:Program} {w:World} {ops:Array Oper} {rest:List Oper} {o:Oper} {a:Act} {Q:Exit→Act→World→Prop} (hgd:o.guard=none) (s x:Operand) (t tx:TypeId)
 (ho:o.op= .call {callee:= .builtin .append,args:= #[s,x],argTypes:= #[t,tx]})
 (e:TypeId) (i:TypeInfo) (z:Value) (k bytes:Nat) (ht:P.underlying t=some (.slice e)) (hi:P.info? e=some i) (hz:i.zero=some z)
 (hsize:i.size=k) (hby:i.bytes=bytes) (hzs:z.cells.size=k) (hk:0<k) (S:List Nat) (hS:∀b,b∈S→b<w.heap.size)
 (v:Value) (n:Nat) (xs:List Value) (hs:a.eval s=v) (hown:bf S w e k v n xs) (xv:Value) (m:Nat) (news:List Value) (hx:a.eval x=xv) (hsrc:Src P k tx xv m news w)
 (hb:(n+m)*bytes≤140737488355328) (hml:n+m≤maxLen)
 (h:∀v' w',bf S w' e k v' (n+m) (xs++news)→Fr (Value.blk v) w w'→(Value.blk v'=Value.blk v∨Value.blk v'= [w.heap.size])→wpList P ops Q rest (a.put o.dst v') w'):
 wpList P ops Q (o::rest) a w:=by
 obtain⟨v',w',h1,h2,h3,h4⟩:=F5 w t tx o.type e i z k bytes ht hi hz hsize hby hzs hk hS hown hsrc hb hml
 refine wpList_plain hgd fun K hK=> ?_
 unfold Oper.wp execOp
 simp only[ho,resolve,invoke,builtin,Sem.run_bind,Sem.run_pure,Result.andThen_ok,List.map_toArray,List.map_cons,List.map_nil,hs,hx,h1]
 exact hK _ _ (h v' w' h2 h3 h4)
def B (c:UInt8):Value:= .int .u8 (c.toNat:Int)
theorem eK {P:Program} {fn:Func} {R:Ending→World→Prop} {a:Act} {w:World} {p:Tmp} {ty T:TypeId} {d:TypeDesc} {g:Nat} {cs:List Value} (h:fn.results= #[.cell p ty]) (hp:a.tmps.getD p undef= .pointer (some ⟨g,0,none⟩))
 (hL:bB w g cs T) (hu:P.underlying ty=some d) (hd:(match d with| .struct _| .array _ _=>true| _=>false)=true) (hi:(P.info? ty).map (·.size)=some cs.length) (hdf:a.defers= []) (hR:R (.returned (.agg cs.toArray)) w):
 bodyPost P fn R .ret a w:=
 bodyPost_ret (results_cell_row h _ _ g T cs.toArray (0,0) d hp hL hu hd (by simpa using hi)) hdf hR
theorem aH {c k:Int} (h:(c==k)=false):c≠k:=by simpa using h
theorem iu {c k:Int} (h:(c==k)=true):c=k:=by simpa using h
def jS (w:World) (v:Value):Prop:=∀b,b∈Value.blk v→w.heap.size≤b
theorem jS.nil (w:World):jS w (.slice none 0 0):=fun _ h=>by cases h
theorem jS.app {w0:World} {v v':Value} (h:jS w0 v) {g:Nat} (hb:Value.blk v'=Value.blk v∨Value.blk v'= [g]) (hs:w0.heap.size≤g):jS w0 v':=by
 intro b hm
 rcases hb with hb|hb
 ·rw[hb]at hm;exact h b hm
 ·rw[hb]at hm;simp at hm;omega
theorem jS.not {w0:World} {v:Value} (h:jS w0 v) {b:Nat} (hb:b<w0.heap.size):b∉Value.blk v:=fun hv=>by have:=h b hv;omega
theorem jS.mono {w0 w1:World} {v:Value} (h:jS w1 v) (hs:w0.heap.size≤w1.heap.size):jS w0 v:=fun b hb=>Nat.le_trans hs (h b hb)
theorem bf.slN {S S':List Nat} {w0 w:World} {e:TypeId} {k n:Nat} {v:Value} {xs:List Value} (h:bf S w e k v n xs) (hn:jS w0 v) (hS:∀b,b∈S'→b<w0.heap.size):Sl S' w k v n xs:=
 h.sl fun b hv hb=>by have:=hn b hv;have:=hS b hb;omega
theorem Fr.app {w0 w w':World} {S:List Nat} {v:Value} (h:Fr S w0 w) (hf:Fr (Value.blk v) w w') (hn:jS w0 v):Fr S w0 w':=h.then hf fun b hb=> .inr (hn b hb)
theorem OY {P:Program} {w:World} {g c:Nat} {u:Value} {tx e':TypeId} (hk:P.underlying tx=some (.slice e')) (h:w.cell? ⟨g,0,none⟩=some u) (h1:u.oneCell'=true):Src P 1 tx (.slice (some ⟨g,0,none⟩) 1 c) 1 [u] w:=
 Src.ofSlice w hk _ _ _ _ rfl (fun j u hu=>by match j,hu with|0,hu=>simp at hu;subst hu;exact h) (by simpa using h1)
theorem sq {P:Program} {tx e':TypeId} (hk:P.underlying tx=some (.slice e')) (w:World) (u:Value) (e:TypeId) (c:Nat) (h1:u.oneCell'=true):Src P 1 tx (.slice (some ⟨w.heap.size,0,none⟩) 1 c) 1 [u] (w.alloc (.cells #[u] e)):=
 OY hk (by simp) h1
theorem bf.alloc {S:List Nat} {w:World} {e:TypeId} {k n:Nat} {v:Value} {xs:List Value} (h:bf S w e k v n xs) (o:Obj):bf S (w.alloc o) e k v n xs:=h.fr ((Fr.refl [] w).alloc o) (by simp)
theorem pQ {P:Program} {tx e':TypeId} (hk:P.underlying tx=some (.slice e')) (w:World) (cs:List Value) (k:Nat) (e:TypeId) (c:Nat) (hl:cs.length=k) (h1:∀u∈cs,u.oneCell'=true):
 Src P k tx (.slice (some ⟨w.heap.size,0,none⟩) 1 c) 1 cs (w.alloc (.cells cs.toArray e)):=
 Src.ofSlice _ hk _ _ _ _ (by omega) (fun j u hu=>by
  have hadd:(⟨w.heap.size,0,none⟩:Addr).add j=⟨w.heap.size,j,none⟩:=by unfold Addr.add;split<;>simp_all
  rw[hadd,World.cell?_alloc_new];simpa using hu) h1
theorem FN:(Tryz.prog.info? 5).map (fun i=>(i.zero,i.size,i.bytes))=some (some (.int .u8 0),1,1):=by kernel_rfl
theorem aB:Tryz.prog.underlying 34=some (.slice 5):=by kernel_rfl
theorem dF {w:World} {ops:Array Oper} {rest:List Oper} {o:Oper} {a:Act} {Q:Exit→Act→World→Prop} (hgd:o.guard=none) (s x:Operand) (tx:TypeId)
 (ho:o.op= .call {callee:= .builtin .append,args:= #[s,x],argTypes:= #[34,tx]})
 (v:Value) (n:Nat) (xs:List Value) (hs:a.eval s=v) (hown:bf [] w 5 1 v n xs) (xv:Value) (m:Nat) (news:List Value) (hx:a.eval x=xv) (hsrc:Src Tryz.prog 1 tx xv m news w)
 (hb:n+m≤140737488355328)
 (h:∀v' w',bf [] w' 5 1 v' (n+m) (xs++news)→Fr (Value.blk v) w w'→(Value.blk v'=Value.blk v∨Value.blk v'= [w.heap.size])→wpList Tryz.prog ops Q rest (a.put o.dst v') w'):
 wpList Tryz.prog ops Q (o::rest) a w:=by
 obtain⟨i0,hi,hz0,hz1,hz2⟩:=info_parts FN
 exact gI hgd s x _ tx ho _ i0 _ 1 1 aB hi hz0 hz1 hz2 rfl (by decide) [] (by simp) v n xs hs hown xv m news hx hsrc (by omega) (by unfold maxLen;omega) h
theorem Sl.take {S:List Nat} {w:World} {a:Option Addr} {n cap c:Nat} {cs:List Value} (h:Sl S w 1 (.slice a n cap) n cs) (hc:c≤n):Sl S w 1 (.slice a c cap) c (cs.take c):=by
 obtain⟨h1,h2,a',cap',h3,h4,h5,hN,h6⟩:=h
 injection h3 with e1 e2 e3
 subst e1 e3
 refine⟨by simp;omega,fun u hu=>h2 u (List.mem_of_mem_take hu),a,cap,rfl,by omega,h5,hN,?_⟩
 rcases h6 with h6|⟨b,off,e,hn,hb,hcell⟩
 ·exact .inl (by omega)
 ·refine .inr ⟨b,off,e,hn,hb,fun j hj=> ?_⟩
  rw[hcell j (by omega),List.getElem?_take,if_pos (by omega)]
def dN (c:Nat) (left:Nat) (sg:Bool):Bool:=
 if 7≤left then true
 else if sg then c% 128/2^(left-1)==0||c% 128/2^(left-1)==127/2^(left-1)
 else c% 128/2^left==0
def mq (n d:Nat):Nat:=if d<64 then n+(18446744073709551616-2^d)else n
def dV (sg:Bool) (bits:Nat):List UInt8→Nat→Nat→Nat→Nat×Nat×Nat
 | [],_,_,_=>(0,0,10)
 |c::r,at_,done,n=>
  if dN c.toNat (bits-done) sg=false then(0,0,11)
  else if c.toNat<128 then
   (if sg&&decide (64≤c.toNat)then mq ((n+c.toNat% 128*2^done)% 18446744073709551616) (done+7)
    else(n+c.toNat% 128*2^done)% 18446744073709551616,at_+1,0)
  else if bits≤done+7 then(0,0,11)
  else dV sg bits r (at_+1) (done+7) ((n+c.toNat% 128*2^done)% 18446744073709551616)
def ak (bs:List UInt8) (at_ bits:Nat) (sg:Bool):Nat×Nat×Nat:=
 if at_≤bs.length then dV sg bits (bs.drop at_) at_ 0 0 else(0,0,2)
def fC (n:Nat):Int:=if n<9223372036854775808 then(n:Int)else(n:Int)-18446744073709551616
def aI (n:Nat):List UInt8:=
 if n<128 then [UInt8.ofNat n]else UInt8.ofNat (n% 128+128)::aI (n/128)
termination_by n
decreasing_by omega
def eN (n:Int):List UInt8:=
 if-64≤n∧n<64 then [UInt8.ofNat (n% 128).toNat]else UInt8.ofNat ((n% 128).toNat+128)::eN (n/128)
termination_by n.natAbs
decreasing_by omega
theorem fh (n:Nat) (h:n<256):(UInt8.ofNat n).toNat=n:=by simp;omega
theorem dH (n:Nat) (h:n<128):aI n= [UInt8.ofNat n]:=by rw[aI];simp[h]
theorem px (n:Nat) (h:128≤n):aI n=UInt8.ofNat (n% 128+128)::aI (n/128):=by rw[aI];simp;omega
theorem eI (n:Int) (h: -64≤n) (h':n<64):eN n= [UInt8.ofNat (n% 128).toNat]:=by rw[eN];simp[h,h']
theorem na (n:Int) (h:n< -64∨64≤n):eN n=UInt8.ofNat ((n% 128).toNat+128)::eN (n/128):=by
 rw[eN,if_neg (by omega)]
theorem dQ (n:Nat):0< (aI n).length:=by
 by_cases h:n<128
 ·simp[dH n h]
 ·simp[px n (by omega)]
theorem rg (n:Int):0< (eN n).length:=by
 by_cases h: -64≤n∧n<64
 ·simp[eI n h.1 h.2]
 ·simp[na n (by omega)]
theorem Cx (c left:Nat) (sg:Bool) (h:7≤left):dN c left sg=true:=by simp[dN,h]
theorem NT (c left:Nat) (h:c% 128<2^left):dN c left false=true:=by
 unfold dN
 split
 ·rfl
 ·simp[Nat.div_eq_of_lt h]
theorem vH (d:Nat):2^(d+7)=2^d*128:=by rw[Nat.pow_add]
theorem wP {b:Nat} (h:7≤b):2^b=2^(b-7)*128:=by rw[←vH];congr 1;omega
theorem Jy {a b:Nat} (h:a≤b):2^b=2^(b-a)*2^a:=by rw[←Nat.pow_add];congr 1;omega
theorem yW {b:Nat} (h:b≤64):2^b≤18446744073709551616:=by
 have:=Nat.pow_le_pow_right (n:=2) (by omega) h
 simpa using this
theorem iL {acc x d b:Nat} (ha:acc<2^d) (hx:x<2^(b-d)) (hd:d≤b):acc+x*2^d<2^b:=by
 rw[Jy hd]
 have:=Nat.mul_le_mul_right (2^d) (Nat.succ_le_of_lt hx)
 rw[Nat.succ_mul]at this
 omega
theorem EY (bits:Nat) (hb:bits≤64):∀(k n:Nat),n≤k→∀(rest:List UInt8) (at_ done acc:Nat),done<bits→acc<2^done→n<2^(bits-done)→
 dV false bits (aI n++rest) at_ done acc=(acc+n*2^done,at_+(aI n).length,0):=by
 intro k
 induction k with
 |zero=>
  intro n hn rest at_ done acc hd ha hx
  obtain rfl:n=0:=by omega
  have h1:=iL ha hx (by omega)
  have:=yW hb
  rw[dH 0 (by omega)]
  simp only[List.cons_append,List.nil_append,dV]
  rw[NT _ _ (by simpa using hx)]
  simp
  simp at h1
  omega
 |succ k ih=>
  intro n hn rest at_ done acc hd ha hx
  have h1:=iL ha hx (by omega)
  have h64:=yW hb
  by_cases hs:n<128
  ·rw[dH n hs]
   simp only[List.cons_append,List.nil_append,dV]
   have e:(UInt8.ofNat n).toNat=n:=fh n (by omega)
   have e2:n% 128=n:=by omega
   rw[e,e2,NT _ _ (by rw[e2];exact hx)]
   rw[Nat.mod_eq_of_lt (by omega)]
   simp[hs]
  ·rw[px n (by omega)]
   simp only[List.cons_append,dV]
   have e:(UInt8.ofNat (n% 128+128)).toNat=n% 128+128:=fh _ (by omega)
   have e2:(n% 128+128)% 128=n% 128:=by omega
   have hl:8≤bits-done:=by
    rcases Nat.lt_or_ge (bits-done) 8 with h|h
    ·have:2^(bits-done)≤2^7:=Nat.pow_le_pow_right (by omega) (by omega)
     omega
    ·exact h
   have hx':n/128<2^(bits-(done+7)):=by
    have:=wP (b:=bits-done) (by omega)
    rw[show bits-done-7=bits-(done+7) by omega]at this
    omega
   have hlt:acc+n% 128*2^done<2^(done+7):=iL ha (by rw[show done+7-done=7 by omega];omega) (by omega)
   have hle:2^(done+7)≤2^bits:=Nat.pow_le_pow_right (by omega) (by omega)
   rw[e,e2,Cx _ _ _ (by omega),Nat.mod_eq_of_lt (a:=acc+n% 128*2^done) (by omega),if_neg (by simp),if_neg (by omega),if_neg (by omega)]
   rw[ih (n/128) (by omega) rest (at_+1) (done+7) _ (by omega) hlt hx']
   have hn:n*2^done=n% 128*2^done+n/128*2^(done+7):=by
    conv=>lhs;rw[←Nat.mod_add_div n 128]
    rw[Nat.add_mul,vH,Nat.mul_comm 128 (n/128),Nat.mul_assoc,Nat.mul_comm 128]
   simp[hn]
   omega
theorem L8 (n:Int) (left:Nat) (h1:1≤left) (hlo: -(2^(left-1))≤n) (hhi:n<2^(left-1)) (hs: -64≤n) (hs':n<64):
 dN ((n% 128).toNat) left true=true:=by
 unfold dN
 split
 ·rfl
 ·rename_i h7
  have hc:left=1∨left=2∨left=3∨left=4∨left=5∨left=6:=by omega
  have hm:((n% 128).toNat)% 128=(n% 128).toNat:=by omega
  simp only[hm,if_true]
  rw[Bool.or_eq_true,beq_iff_eq,beq_iff_eq]
  rcases hc with rfl|rfl|rfl|rfl|rfl|rfl<;>simp at hlo hhi⊢ <;>omega
theorem E2 (acc:Nat) (n:Int) (done:Nat) (hd:done<64) (h7:done% 7=0) (ha:acc<2^done) (hs: -64≤n) (hs':n<64) (h63:done=63→ -1≤n∧n<1) (sg:Bool) (hsg:sg=decide (64≤(n% 128).toNat)):
 fC (if sg then mq ((acc+(n% 128).toNat% 128*2^done)% 18446744073709551616) (done+7)else(acc+(n% 128).toNat% 128*2^done)% 18446744073709551616)=(acc:Int)+n*2^done:=by
 have hc:done=0∨done=7∨done=14∨done=21∨done=28∨done=35∨done=42∨done=49∨done=56∨done=63:=by omega
 by_cases hn:0≤n
 ·have:sg=false:=by rw[hsg];simp;omega
  subst this
  have e:(n% 128).toNat% 128=n.toNat:=by omega
  rw[e]
  simp only[Bool.false_eq_true,if_false]
  unfold fC
  rcases hc with rfl|rfl|rfl|rfl|rfl|rfl|rfl|rfl|rfl|rfl<;>simp at ha h63⊢ <;>split<;>omega
 ·have:sg=true:=by rw[hsg];simp;omega
  subst this
  have e:(n% 128).toNat% 128=(n+128).toNat:=by omega
  rw[e]
  simp only[if_true]
  unfold fC mq
  rcases hc with rfl|rfl|rfl|rfl|rfl|rfl|rfl|rfl|rfl|rfl<;>simp at ha h63⊢ <;>split<;>omega
theorem EU (bits:Nat) (hb:bits≤64):∀(k:Nat) (n:Int),n.natAbs≤k→∀(rest:List UInt8) (at_ done acc:Nat),done<bits→done% 7=0→acc<2^done→
 -(2^(bits-done-1))≤n→n<2^(bits-done-1)→
 ∃v,dV true bits (eN n++rest) at_ done acc=(v,at_+(eN n).length,0)∧fC v=(acc:Int)+n*2^done:=by
 intro k
 induction k with
 |zero=>
  intro n hn rest at_ done acc hd h7 ha hlo hhi
  obtain rfl:n=0:=by omega
  rw[eI 0 (by omega) (by omega)]
  simp only[List.cons_append,List.nil_append,dV]
  have:=E2 acc 0 done (by omega) h7 ha (by omega) (by omega) (by omega) false (by simp)
  have f:=L8 0 (bits-done) (by omega) hlo hhi (by omega) (by omega)
  simp at f
  refine⟨_,?_,this⟩
  simp[f]
 |succ k ih=>
  intro n hn rest at_ done acc hd h7 ha hlo hhi
  by_cases hs: -64≤n∧n<64
  ·rw[eI n hs.1 hs.2]
   simp only[List.cons_append,List.nil_append,dV]
   have e:(UInt8.ofNat (n% 128).toNat).toNat=(n% 128).toNat:=fh _ (by omega)
   have:=E2 acc n done (by omega) h7 ha hs.1 hs.2 (by
    rintro rfl
    have:bits=64:=by omega
    subst this
    simp at hlo hhi;omega) (true&&decide (64≤(n% 128).toNat)) (by simp)
   rw[e,L8 n (bits-done) (by omega) hlo hhi hs.1 hs.2]
   refine⟨_,?_,this⟩
   rw[if_neg (by simp),if_pos (by omega)]
   simp
  ·have hl:8≤bits-done:=by
    rcases Nat.lt_or_ge (bits-done) 8 with h|h
    ·have h2:(2:Int)^(bits-done-1)≤2^6:=by
      have:2^(bits-done-1)≤2^6:=Nat.pow_le_pow_right (by omega) (by omega)
      exact_mod_cast this
     omega
    ·exact h
   rw[na n (by omega)]
   simp only[List.cons_append,dV]
   have e:(UInt8.ofNat ((n% 128).toNat+128)).toNat=(n% 128).toNat+128:=fh _ (by omega)
   have e2:((n% 128).toNat+128)% 128=(n% 128).toNat:=by omega
   have hlt:acc+(n% 128).toNat*2^done<2^(done+7):=iL ha (by rw[show done+7-done=7 by omega];omega) (by omega)
   have hle:2^(done+7)≤2^bits:=Nat.pow_le_pow_right (by omega) (by omega)
   have h64:=yW hb
   have hp:(2:Int)^(bits-done-1)=2^(bits-(done+7)-1)*128:=by
    exact UJ
   rw[e,e2,Cx _ _ _ (by omega),Nat.mod_eq_of_lt (a:=acc+(n% 128).toNat*2^done) (by omega),if_neg (by simp),if_neg (by omega),if_neg (by omega)]
   obtain⟨v,h1,h2⟩:=ih (n/128) (by omega) rest (at_+1) (done+7) _ (by omega) (by omega) hlt (by omega) (by omega)
   refine⟨v,?_,?_⟩
   ·rw[h1];simp;omega
   ·rw[h2]
    have hn:n*2^done=n% 128*2^done+n/128*2^(done+7):=by
     conv=>lhs;rw[←Int.emod_add_mul_ediv n 128]
     rw[Int.add_mul,show(2:Int)^(done+7)=2^done*128 from by rw[Int.pow_add];rfl,Int.mul_comm 128 (n/128),Int.mul_assoc,Int.mul_comm 128]
    rw[hn]
    have:(((n% 128).toNat:Nat):Int)=n% 128:=Int.toNat_of_nonneg (by omega)
    push_cast
    rw[this]
    omega
theorem lr (sg:Bool) (bits:Nat):∀(l:List UInt8) (at_ done acc v nx:Nat),dV sg bits l at_ done acc=(v,nx,0)→at_<nx∧nx≤at_+l.length:=by
 intro l
 induction l with
 |nil=>intro at_ done acc v nx h;simp[dV]at h
 |cons c r ih=>
  intro at_ done acc v nx h
  simp only[dV]at h
  split at h
  ·simp at h
  ·split at h
   ·simp at h
    exact⟨by omega,by simp;omega⟩
   ·split at h
    ·simp at h
    ·have:=ih _ _ _ _ _ h
     simp;omega
theorem Bf (c left:Nat) (h:dN c left false=true) (hc:c<128):c<2^left:=by
 unfold dN at h
 split at h
 ·have:2^7≤2^left:=Nat.pow_le_pow_right (by omega) (by omega)
  omega
 ·simp at h
  omega
theorem zH (bits:Nat) (hb:bits≤64):∀(l:List UInt8) (at_ done acc v nx:Nat),done<bits→acc<2^done→dV false bits l at_ done acc=(v,nx,0)→
 ∃n,v=acc+n*2^done∧n<2^(bits-done)∧at_+(aI n).length≤nx:=by
 intro l
 induction l with
 |nil=>intro at_ done acc v nx _ _ h;simp[dV]at h
 |cons c r ih=>
  intro at_ done acc v nx hd ha h
  have h64:=yW hb
  simp only[dV]at h
  split at h
  ·simp at h
  ·rename_i hf
   have hf:dN c.toNat (bits-done) false=true:=by simpa using hf
   split at h
   ·rename_i hc
    simp at h
    have hx:=Bf _ _ hf hc
    have h1:=iL ha hx (by omega)
    have e:c.toNat% 128=c.toNat:=by omega
    rw[e,Nat.mod_eq_of_lt (by omega)]at h
    refine⟨c.toNat,h.1.symm,hx,?_⟩
    rw[dH _ hc];simp;omega
   ·rename_i hc
    split at h
    ·simp at h
    ·rename_i hbd
     have hlt:acc+c.toNat% 128*2^done<2^(done+7):=iL ha (by rw[show done+7-done=7 by omega];omega) (by omega)
     have hle:2^(done+7)≤2^bits:=Nat.pow_le_pow_right (by omega) (by omega)
     rw[Nat.mod_eq_of_lt (a:=acc+c.toNat% 128*2^done) (by omega)]at h
     obtain⟨n,h1,h2,h3⟩:=ih _ _ _ _ _ (by omega) hlt h
     have hp:=wP (b:=bits-done) (by omega)
     rw[show bits-done-7=bits-(done+7) by omega]at hp
     refine⟨c.toNat% 128+n*128,?_,by omega,?_⟩
     ·rw[h1,Nat.add_mul,vH,Nat.mul_assoc,Nat.mul_comm 128,Nat.add_assoc]
     ·by_cases hs:c.toNat% 128+n*128<128
      ·rw[dH _ hs];simp;omega
      ·rw[px _ (by omega),show(c.toNat% 128+n*128)/128=n by omega];simp;omega
theorem BZ (c left:Nat) (h1:1≤left) (h:dN c left true=true) (hc:c<128):
 -(2^(left-1))≤(if 64≤c then(c:Int)-128 else c)∧(if 64≤c then(c:Int)-128 else c)<2^(left-1):=by
 unfold dN at h
 split at h
 ·have:2^6≤2^(left-1):=Nat.pow_le_pow_right (by omega) (by omega)
  have:(64:Int)≤2^(left-1):=by exact_mod_cast this
  split<;>omega
 ·have hl:left=1∨left=2∨left=3∨left=4∨left=5∨left=6:=by omega
  have hm:c% 128=c:=by omega
  simp only[hm,if_true]at h
  rw[Bool.or_eq_true,beq_iff_eq,beq_iff_eq]at h
  rcases hl with rfl|rfl|rfl|rfl|rfl|rfl<;>simp at h⊢ <;>split<;>omega
theorem zA (bits:Nat) (hb:bits≤64):∀(l:List UInt8) (at_ done acc v nx:Nat),done<bits→done% 7=0→acc<2^done→dV true bits l at_ done acc=(v,nx,0)→
 ∃n:Int,fC v=(acc:Int)+n*2^done∧ -(2^(bits-done-1))≤n∧n<2^(bits-done-1)∧at_+(eN n).length≤nx:=by
 intro l
 induction l with
 |nil=>intro at_ done acc v nx _ _ _ h;simp[dV]at h
 |cons c r ih=>
  intro at_ done acc v nx hd h7 ha h
  have h64:=yW hb
  simp only[dV]at h
  split at h
  ·simp at h
  ·rename_i hf
   have hf:dN c.toNat (bits-done) true=true:=by simpa using hf
   split at h
   ·rename_i hc
    have hx:=BZ _ _ (by omega) hf hc
    generalize hn:(if 64≤c.toNat then(c.toNat:Int)-128 else c.toNat)=n at hx
    have e:(n% 128).toNat=c.toNat:=by rw[←hn];split<;>omega
    have hr: -64≤n∧n<64:=by rw[←hn];split<;>omega
    have hl:=E2 acc n done (by omega) h7 ha hr.1 hr.2 (by
     rintro rfl
     have:bits=64:=by omega
     subst this
     simp at hx;omega) (true&&decide (64≤c.toNat)) (by simp[e])
    rw[e]at hl
    simp only[Prod.mk.injEq]at h
    refine⟨n,?_,hx.1,hx.2,?_⟩
    ·rw[←h.1];exact hl
    ·rw[eI _ hr.1 hr.2];simp;omega
   ·rename_i hc
    split at h
    ·simp at h
    ·rename_i hbd
     have hlt:acc+c.toNat% 128*2^done<2^(done+7):=iL ha (by rw[show done+7-done=7 by omega];omega) (by omega)
     have hle:2^(done+7)≤2^bits:=Nat.pow_le_pow_right (by omega) (by omega)
     rw[Nat.mod_eq_of_lt (a:=acc+c.toNat% 128*2^done) (by omega)]at h
     obtain⟨n,h1,h2,h3,h4⟩:=ih _ _ _ _ _ (by omega) (by omega) hlt h
     have hp:(2:Int)^(bits-done-1)=2^(bits-(done+7)-1)*128:=by
      exact UJ
     refine⟨(c.toNat% 128:Nat)+n*128,?_,by omega,by omega,?_⟩
     ·rw[h1,Int.add_mul,show(2:Int)^(done+7)=2^done*128 from by rw[Int.pow_add];rfl,Int.mul_assoc,Int.mul_comm 128,←Int.add_assoc]
      push_cast
      rfl
     ·by_cases hs: -64≤((c.toNat% 128:Nat):Int)+n*128∧((c.toNat% 128:Nat):Int)+n*128<64
      ·rw[eI _ hs.1 hs.2];simp;have:=rg n;omega
      ·rw[na _ (by omega),show(((c.toNat% 128:Nat):Int)+n*128)/128=n by omega];simp;omega
theorem Ob (sg:Bool) (bits:Nat):∀(l:List UInt8) (at_ done acc:Nat),acc<2^done→(dV sg bits l at_ done acc).1<18446744073709551616:=by
 intro l
 induction l with
 |nil=>intro at_ done acc _;simp[dV]
 |cons c r ih=>
  intro at_ done acc ha
  have hlt:acc+c.toNat% 128*2^done<2^(done+7):=iL ha (by rw[show done+7-done=7 by omega];omega) (by omega)
  have hm:(acc+c.toNat% 128*2^done)% 18446744073709551616<2^(done+7):=Nat.lt_of_le_of_lt (Nat.mod_le _ _) hlt
  simp only[dV]
  split
  ·simp
  ·split
   ·simp only
    split
    ·unfold mq
     split
     ·rename_i hd
      have:=yW (b:=done+7) (by omega)
      omega
     ·exact Nat.mod_lt _ (by omega)
    ·exact Nat.mod_lt _ (by omega)
   ·split
    ·simp
    ·exact ih _ _ _ hm
theorem KR (sg:Bool) (bits:Nat):∀(l:List UInt8) (at_ done acc v nx m:Nat),dV sg bits l at_ done acc=(v,nx,0)→
 dV sg bits (l.take m) at_ done acc=if at_+m<nx then(0,0,10)else(v,nx,0):=by
 intro l
 induction l with
 |nil=>intro at_ done acc v nx m h;simp[dV]at h
 |cons c r ih=>
  intro at_ done acc v nx m h
  have hok:=lr _ _ _ _ _ _ _ _ h
  cases m with
  |zero=>simp[dV];omega
  |succ m=>
   simp only[List.take_succ_cons,dV]at h⊢
   split at h
   ·simp at h
   ·rename_i hf
    rw[if_neg hf]
    split at h
    ·rename_i hc
     rw[if_pos hc,h]
     simp at h
     rw[if_neg (by omega)]
    ·rename_i hc
     rw[if_neg hc]
     split at h
     ·simp at h
     ·rename_i hb
      rw[if_neg hb,ih _ _ _ _ _ m h]
      simp only[show at_+1+m=at_+(m+1) by omega]
end Go.Proofs.YtpdlmdlkecnpgaaGreatDoor
