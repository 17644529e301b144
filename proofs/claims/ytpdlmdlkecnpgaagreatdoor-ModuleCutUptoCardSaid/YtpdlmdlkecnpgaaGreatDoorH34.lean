/- Texts: MdMk MdP1 MdP2 MdP3 MdP4 MdP5 MdP6 MdP7. -/
import Derived.Test.YtpdlmdlkecnpgaaGreatDoorH0
import Derived.Test.YtpdlmdlkecnpgaaGreatDoorH31
import Derived.Test.YtpdlmdlkecnpgaaGreatDoorH25
import Derived.Test.YtpdlmdlkecnpgaaGreatDoorH12
import Derived.Test.YtpdlmdlkecnpgaaGreatDoorH33
import Derived.Test.YtpdlmdlkecnpgaaGreatDoorH29
set_option linter.unusedSimpArgs false
set_option linter.unusedVariables false
namespace Go.Proofs.YtpdlmdlkecnpgaaGreatDoor
open Go.RowKit
structure NY (m:aV):Prop where
 types:∀g∈m.types,∀t,t∈g→RS t
 imports:∀i∈m.imports,i.modu.length≤1099511627776∧i.name.length≤1099511627776
 funcs:∀f∈m.funcs,lB f.body∧f.locals.length≤1099511627776
 tables:∀t∈m.tables,lB t.init
 globals:∀g∈m.globals,lB g.init
 exports:∀e∈m.exports,e.name.length≤1099511627776
 elems:∀e∈m.elems,lB e.offset∧∀l,l∈e.inits→lB l
 datas:∀d∈m.datas,lB d.offset
theorem pe {w:World} (hg:cq [] w) {m:aV} {c:List Value} (h:cI c m w) (hw:NY m):Calls Tryz.prog 11 #[.agg c.toArray] w fun e w'=>e= .returned (.bool (cy m))∧Fr [] w w':=by
 obtain⟨ty,im,fu,ta,me,tg,gl,ex,el,da,rfl,h0,h1,h2,h3,h4,h5,h6,h7,h9,h10⟩:=h
 obtain⟨a0,c0,rfl⟩:=h0.shape
 obtain⟨a1,c1,rfl⟩:=h1.shape
 obtain⟨a2,c2,rfl⟩:=h2.shape
 obtain⟨a3,c3,rfl⟩:=h3.shape
 obtain⟨a4,c4,rfl⟩:=h4.shape
 obtain⟨a5,c5,rfl⟩:=h5.shape
 obtain⟨a6,c6,rfl⟩:=h6.shape
 obtain⟨a7,c7,rfl⟩:=h7.shape
 obtain⟨a9,c9,rfl⟩:=h9.shape
 obtain⟨a10,c10,rfl⟩:=h10.shape
 have H0:=Lib.hid (yO.mk fun w' (hf:Fr [] w w')=>Lo gv (p:=fun g:List bu=>g.all bP) (an.fr gv.fr h0 hf) (fun g hm v w2 hf0 hR=>by
  have hf2:=hf.trans hf0
  obtain⟨v2,e2,hR⟩:=hR
  obtain rfl:v=v2:=by simpa using e2
  exact S5 g v hR (hw.types g hm)))
 have H1:=Lib.hid (yO.mk fun w' (hf:Fr [] w w')=>Ls gp (p:=kl) (an.fr gp.fr h1 hf) (fun g hm c w2 hf0 hR=>by
  have hf2:=hf.trans hf0
  obtain rfl:c=eR g:=hR
  exact T0 g (hw.imports g hm).1 (hw.imports g hm).2))
 have H2:=Lib.hid (yO.mk fun w' (hf:Fr [] w w')=>OX dG (p:=kY) (an.fr dG.fr h2 hf) (fun g hm c w2 hf0 hR=>by
  have hf2:=hf.trans hf0
  exact T8 (il hg hf2) g c hR (hw.funcs g hm).1 (hw.funcs g hm).2))
 have H3:=Lib.hid (yO.mk fun w' (hf:Fr [] w w')=>LJ jj (p:=gC) (an.fr jj.fr h3 hf) (fun g hm c w2 hf0 hR=>by
  have hf2:=hf.trans hf0
  exact R8 (il hg hf2) g c hR (hw.tables g hm)))
 have H4:=Lib.hid (yO.mk fun w' (hf:Fr [] w w')=>Pu fR (p:=jD) (an.fr fR.fr h4 hf) (fun g hm c w2 hf0 hR=>by
  have hf2:=hf.trans hf0
  obtain rfl:c=du g:=hR
  exact pG _ g))
 have H5:=Lib.hid (yO.mk fun w' (hf:Fr [] w w')=>LL gj (p:=ev) (an.fr gj.fr h5 hf) (fun g hm v w2 hf0 hR=>by
  have hf2:=hf.trans hf0
  obtain rfl:v= .int .i64 g:=by simpa [aE,gK]using hR
  exact(eJ _ g).mono (fun e w3 h=>⟨h.1,h.2▸Fr.refl _ _⟩)))
 have H6:=Lib.hid (yO.mk fun w' (hf:Fr [] w w')=>O0 jm (p:=hJ) (an.fr jm.fr h6 hf) (fun g hm c w2 hf0 hR=>by
  have hf2:=hf.trans hf0
  exact Td (il hg hf2) g c hR (hw.globals g hm)))
 have H7:=Lib.hid (yO.mk fun w' (hf:Fr [] w w')=>ME gq (p:=kj) (an.fr gq.fr h7 hf) (fun g hm c w2 hf0 hR=>by
  have hf2:=hf.trans hf0
  obtain rfl:c=gw g:=hR
  exact JM _ g (hw.exports g hm)))
 have H9:=Lib.hid (yO.mk fun w' (hf:Fr [] w w')=>HO fH (p:=fP) (an.fr fH.fr h9 hf) (fun g hm c w2 hf0 hR=>by
  have hf2:=hf.trans hf0
  exact PU (il hg hf2) g c hR (hw.elems g hm).1 (hw.elems g hm).2))
 have H10:=Lib.hid (yO.mk fun w' (hf:Fr [] w w')=>NV gP (p:=ix) (an.fr gP.fr h10 hf) (fun g hm c w2 hf0 hR=>by
  have hf2:=hf.trans hf0
  exact SH (il hg hf2) g c hR (hw.datas g hm)))
 exact Lv H0 H1 H2 H3 H4 H5 H6 H7 H9 H10 rfl (Lib.hid rfl)
theorem Lk:Tryz.prog.underlying 9=some .string:=by kernel_rfl
theorem HZ {w:World} {ops:Array Oper} {rest:List Oper} {o:Oper} {a:Act} {Q:Exit→Act→World→Prop} {s x:Operand} {v:Value} {Y:List UInt8} (hgd:o.guard=none)
 (ho:o.op= .call {callee:= .builtin .append,args:= #[s,x],argTypes:= #[34,9]}) (hs:a.eval s=v) (hx:a.eval x= .string ⟨Y.toArray⟩)
 (h:∃S w0 G G' X,St S w0 w G∧Ac G v X G'∧X.length+Y.length≤140737488355328∧
  ∀v' w',St S w0 w' (.own 5 1 v' (X++Y).length ((X++Y).map B)::G')→wpList Tryz.prog ops Q rest (a.put o.dst v') w'):
 wpList Tryz.prog ops Q (o::rest) a w:=by
 obtain⟨S,w0,G,G',X,hst,hp,hb,h⟩:=h
 have hsrc:Src Tryz.prog 1 9 (.string ⟨Y.toArray⟩) Y.length (Y.map B) w:=by
  have:=Src.ofString (P:=Tryz.prog) (w:=w) Lk ⟨Y.toArray⟩
  have e1:(⟨Y.toArray⟩:ByteArray).size=Y.length:=by simp[ByteArray.size]
  have e2:byteCells ⟨Y.toArray⟩=Y.map B:=rfl
  rw[e1,e2]at this
  exact this
 refine dF hgd s x 9 ho v X.length (X.map B) hs ((hst.dst hp).head) _ Y.length (Y.map B) hx hsrc hb fun v' w' ho' hf hb'=> ?_
 exact W2
set_option maxRecDepth 100000
set_option maxHeartbeats 1600000
theorem xz {S:List Nat} {w0 w:World} {G:List bt} {v:Value} {xs:List UInt8} (hS:St S w0 w (.own 5 1 (v) (xs).length ((xs).map B)::G)) (n:Int) (h0:0≤n) (hn:n<9223372036854775808) (hx:xs.length≤70368744177664):
 Calls Tryz.prog 19 #[v,.int .i64 n] w fun e w'=>∃v',e= .returned v'∧St S w0 w' (.own 5 1 (v') (xs++au n).length ((xs++au n).map B)::G):=by
 obtain⟨m,rfl⟩:∃m:Nat,n=m:=⟨n.toNat,by omega⟩
 have hl:=bG m (by omega)
 show Calls Tryz.prog 19 #[v,.int .i64 m] w fun e w'=>∃v',e= .returned v'∧St S w0 w' (.own 5 1 (v') (xs++aI m).length ((xs++aI m).map B)::G)
 exact Un
theorem ki {w:World} {v:Value} {n:Int} {Q:Ending→World→Prop} (h:∃S w0 G G' xs,St S w0 w G∧bg G (.own 5 1 (v) (xs).length ((xs).map B)) G'∧(0≤n∧n<9223372036854775808)∧xs.length≤70368744177664∧∀v' w',St S w0 w' (.own 5 1 (v') (xs++au n).length ((xs++au n).map B)::G')→Q (.returned v') w'):Calls Tryz.prog 19 #[v,.int .i64 n] w Q:=by
 obtain⟨S,w0,G,G',xs,h1,h2,h3,h4,h5⟩:=h
 exact(xz (h1.pick h2) n h3.1 h3.2 h4).mono fun e w' ⟨v',e1,e2⟩=>e1▸h5 v' w' e2
theorem iK (n:Nat):au (n:Int)=aI n:=rfl
theorem Oy {S:List Nat} {w0 w:World} {G:List bt} {v:Value} {xs:List UInt8} (hS:St S w0 w (.own 5 1 (v) (xs).length ((xs).map B)::G)) (s:List UInt8) (hs:s.length≤1099511627776) (hx:xs.length≤70368744177600):
 Calls Tryz.prog 81 #[v,.string ⟨s.toArray⟩] w fun e w'=>∃v',e= .returned v'∧St S w0 w' (.own 5 1 (v') (xs++dX s).length ((xs++dX s).map B)::G):=by
 have hl:=bG s.length (by omega)
 have e:xs++dX s=xs++au ((s.length:Nat):Int)++s:=by unfold dX;rw[iK];simp
 rw[e]
 have hl2:(au ((s.length:Nat):Int)).length≤10:=hl
 clear e
 go_enter Tryz.func81,Tryz.ntmps81
 go_wp2_with first|(go_at_call 19;refine ki ?_;refine sC ?_;intro vN wN hS;(try clear hQ);have hQ:=St.fq hS)|(at_builtin;refine HZ rfl rfl rfl rfl ?_;(repeat(apply Exists.intro));refine⟨?_,?_,?_,?_⟩;(·exact aA);(·(try simp only[World.size_alloc,World.size_setCell,ay,ar]);apply Ac.own;(exact aK));(·exact bS);intro vN wN hS;(try clear hQ);have hQ:=St.fq hS)
 exact sz
theorem Qg {S:List Nat} {w0 w:World} {G:List bt} {v:Value} {xs:List UInt8} (hS:St S w0 w (.own 5 1 (v) (xs).length ((xs).map B)::G)) (b:Bool) (hx:xs.length≤70368744177664):
 Calls Tryz.prog 130 #[v,.bool b] w fun e w'=>∃v',e= .returned v'∧St S w0 w' (.own 5 1 (v') (xs++ [if b then 1 else 0]).length ((xs++ [if b then 1 else 0]).map B)::G):=by
 cases b
 ·show Calls Tryz.prog 130 #[v,.bool false] w fun e w'=>∃v',e= .returned v'∧St S w0 w' (.own 5 1 (v') (xs++ [UInt8.ofNat (0:Int).toNat]).length ((xs++ [UInt8.ofNat (0:Int).toNat]).map B)::G)
  go_enter Tryz.func130,Tryz.ntmps130
  exact Th
 ·show Calls Tryz.prog 130 #[v,.bool true] w fun e w'=>∃v',e= .returned v'∧St S w0 w' (.own 5 1 (v') (xs++ [UInt8.ofNat (1:Int).toNat]).length ((xs++ [UInt8.ofNat (1:Int).toNat]).map B)::G)
  go_enter Tryz.func130,Tryz.ntmps130
  exact Th
theorem GS {S:List Nat} {w0 w:World} {G:List bt} {v:Value} {xs:List UInt8} (hS:St S w0 w (.own 5 1 (v) (xs).length ((xs).map B)::G)) (n:Int) (h0:0≤n) (hn:n<9223372036854775808) (hx:xs.length≤70368744177600):
 Calls Tryz.prog 25 #[v,.int .i64 n] w fun e w'=>∃v',e= .returned v'∧St S w0 w' (.own 5 1 (v') (xs++eW n).length ((xs++eW n).map B)::G):=by
 have e:xs++eW n=xs++ [UInt8.ofNat (0:Int).toNat]++au n:=by unfold eW;simp
 rw[e]
 clear e
 go_enter Tryz.func25,Tryz.ntmps25
 exact U7
theorem Jl {S:List Nat} {w0 w:World} {G:List bt} {v sv:Value} {xs s:List UInt8} (hS:St S w0 w (.own 5 1 (v) (xs).length ((xs).map B):: .own 5 1 (sv) (s).length ((s).map B)::G)) (hs:s.length≤35184372088832) (hx:xs.length≤35184372088832):
 Calls Tryz.prog 30 #[v,sv] w fun e w'=>∃v',e= .returned v'∧St S w0 w' (.own 5 1 (v') (xs++aX s).length ((xs++aX s).map B):: .own 5 1 (sv) (s).length ((s).map B)::G):=by
 have hl:=bG s.length (by omega)
 have e:xs++aX s=xs++au ((s.length:Nat):Int)++s:=by unfold aX;rw[iK];simp
 rw[e]
 have hl2:(au ((s.length:Nat):Int)).length≤10:=hl
 clear e
 obtain⟨a,c,rfl⟩:∃a c,sv= .slice a s.length c:=by
  obtain⟨a,c,rfl⟩:=(bf.sl (hS.own (.there .here)) (S':= []) (by simp)).shape
  exact⟨a,c,rfl⟩
 go_enter Tryz.func30,Tryz.ntmps30
 exact U7
theorem Dc {S:List Nat} {w0 w:World} {G:List bt} {v sv:Value} {xs s:List UInt8} (hS:St [] w0 w (.own 5 1 (v) (xs).length ((xs).map B)::G)) (hb:Sl [] w0 1 sv s.length (s.map B)) (hs:s.length≤35184372088832) (hx:xs.length≤70368744177000):
 Calls Tryz.prog 30 #[v,sv] w fun e w'=>∃v',e= .returned v'∧St [] w0 w' (.own 5 1 (v') (xs++aX s).length ((xs++aX s).map B)::G):=by
 have hl:=bG s.length (by omega)
 have e:xs++aX s=xs++au ((s.length:Nat):Int)++s:=by unfold aX;rw[iK];simp
 rw[e]
 have hl2:(au ((s.length:Nat):Int)).length≤10:=hl
 clear e
 have hb2:=hb
 obtain⟨a,c,rfl⟩:=hb.shape
 clear hb
 go_enter Tryz.func30,Tryz.ntmps30
 go_wp2_with first|(go_at_call 19;refine ki ?_;refine sC ?_;intro vN wN hS;(try clear hQ);have hQ:=St.fq hS)|(at_builtin;refine ER rfl rfl rfl rfl ?_;(repeat(apply Exists.intro));refine⟨?_,?_,?_,?_,?_⟩;(·exact aA);(·(try simp only[World.size_alloc,World.size_setCell,ay,ar]);apply Ac.own;(exact aK));(·(try simp only[World.size_alloc,World.size_setCell,ay,ar]);apply jv.arg;apply St.sl (hs:=hb2);(exact aA));(·exact bS);intro vN wN hS;(try clear hQ);have hQ:=St.fq hS)
 exact sz
theorem FM {S:List Nat} {w0 w:World} {G:List bt} {v:Value} {xs:List UInt8} (hS:St S w0 w (.own 5 1 (v) (xs).length ((xs).map B)::G)) (l:eA) (h1:l.min<18446744073709551616) (h2:l.max<18446744073709551616) (hx:xs.length≤70368744177600):
 Calls Tryz.prog 23 #[v,.agg (du l).toArray] w fun e w'=>∃v',e= .returned v'∧St S w0 w' (.own 5 1 (v') (xs++ea l).length ((xs++ea l).map B)::G):=by
 obtain⟨wd,mn,mx,hm⟩:=l
 dsimp only at h1 h2
 have l1:=bG mn h1
 have l2:=bG mx h2
 unfold du
 dsimp only
 have b1:bits .or .u8 0 1=1:=by decide+kernel
 have b4:bits .or .u8 0 4=4:=by decide+kernel
 have b5:bits .or .u8 1 4=5:=by decide+kernel
 cases wd<;>cases hm
 ·have e:xs++ea ⟨false,mn,mx,false⟩=xs++ [UInt8.ofNat (0:Int).toNat]++aI mn:=by unfold ea;simp
  exact UX
 ·have e:xs++ea ⟨false,mn,mx,true⟩=xs++ [UInt8.ofNat (1:Int).toNat]++aI mn++aI mx:=by unfold ea;simp
  exact UC
 ·have e:xs++ea ⟨true,mn,mx,false⟩=xs++ [UInt8.ofNat (4:Int).toNat]++aI mn:=by unfold ea;simp
  exact UX
 ·have e:xs++ea ⟨true,mn,mx,true⟩=xs++ [UInt8.ofNat (5:Int).toNat]++aI mn++aI mx:=by unfold ea;simp
  exact UC
theorem MT {w:World} {v:Value} (l:eA) {Q:Ending→World→Prop} (h:∃S w0 G G' xs,St S w0 w G∧bg G (.own 5 1 (v) (xs).length ((xs).map B)) G'∧(l.min<18446744073709551616∧l.max<18446744073709551616)∧xs.length≤70368744177600∧∀v' w',St S w0 w' (.own 5 1 (v') (xs++ea l).length ((xs++ea l).map B)::G')→Q (.returned v') w'):Calls Tryz.prog 23 #[v,.agg (du l).toArray] w Q:=by
 obtain⟨S,w0,G,G',xs,h1,h2,h3,h4,h5⟩:=h
 exact(FM (h1.pick h2) l h3.1 h3.2 h4).mono fun e w' ⟨v',e1,e2⟩=>e1▸h5 v' w' e2
theorem dn (t:aF) (h:t.heap.ok):(es t).length≤13:=by
 unfold es
 split
 ·exact lx t h
 ·simp
theorem Kr {w0 w:World} {G:List bt} {v:Value} {xs:List UInt8} (hS:St [] w0 w (.own 5 1 (v) (xs).length ((xs).map B)::G)) (hg:Gl [] w0) (t:dJ) (hok:t.elem.heap.ok) (h1:t.lim.min<18446744073709551616) (h2:t.lim.max<18446744073709551616) (hx:xs.length≤70368744177000):
 Calls Tryz.prog 82 #[v,.agg (dv t).toArray] w fun e w'=>∃v',e= .returned v'∧St [] w0 w' (.own 5 1 (v') (xs++em t).length ((xs++em t).map B)::G):=by
 obtain⟨⟨ek,en,⟨hk,hn⟩⟩,⟨wd,mn,mx,hm⟩⟩:=t
 dsimp only at h1 h2 hok
 have l0:=dn ⟨ek,en,⟨hk,hn⟩⟩ hok
 have e:xs++em ⟨⟨ek,en,⟨hk,hn⟩⟩,⟨wd,mn,mx,hm⟩⟩=xs++es ⟨ek,en,⟨hk,hn⟩⟩++ea ⟨wd,mn,mx,hm⟩:=by unfold em;simp
 rw[e]
 clear e
 unfold dv cj du
 go_enter Tryz.func82,Tryz.ntmps82
 go_wp2
 go_region_held3 (fun w'=>w'.cell? ⟨w.heap.size,0,none⟩=some (.int .i64 ek)∧w'.cell? ⟨w.heap.size,1,none⟩=some (.bool en)∧w'.cell? ⟨w.heap.size,2,none⟩=some (.int .i64 hk)∧w'.cell? ⟨w.heap.size,3,none⟩=some (.int .i64 hn)∧w'.cell? ⟨w.heap.size,4,none⟩=some (.bool wd)∧w'.cell? ⟨w.heap.size,5,none⟩=some (.int .u64 (mn:Int))∧w'.cell? ⟨w.heap.size,6,none⟩=some (.int .u64 (mx:Int))∧w'.cell? ⟨w.heap.size,7,none⟩=some (.bool hm)) (first|(go_keep;done)|(simp[hQ];done)) (first|((try clear hQ);refine JK fun vN wN hS hQ=> ?_)|(go_at_call 97;(with_reducible refine(oU (⟨ek,en,⟨hk,hn⟩⟩:aF) ?_ ?_).mono ?_);(·apply St.gl (hs:=hg);(exact aA));(·exact hok);rintro e w4 ⟨v4,rfl,s4⟩;(try clear hQ);refine qa s4 fun hS hQ=> ?_)|(go_at_call 23;refine MT ⟨wd,mn,mx,hm⟩ ?_;(repeat(apply Exists.intro));refine⟨?_,?_,?_,?_,?_⟩;(·exact aA);(·exact aK);(·exact⟨h1,h2⟩);(·exact bS);intro vN wN hS;(try clear hQ);have hQ:=St.fq hS))
 go_wp2
 exact sz
theorem iT {w:World} {v:Value} (s:List UInt8) (hs:s.length≤1099511627776) {Q:Ending→World→Prop} (h:∃S w0 G G' xs,St S w0 w G∧bg G (.own 5 1 (v) (xs).length ((xs).map B)) G'∧xs.length≤70368744177600∧∀v' w',St S w0 w' (.own 5 1 (v') (xs++dX s).length ((xs++dX s).map B)::G')→Q (.returned v') w'):Calls Tryz.prog 81 #[v,.string ⟨s.toArray⟩] w Q:=by
 obtain⟨S,w0,G,G',xs,h1,h2,h3,h5⟩:=h
 exact(Oy (h1.pick h2) s hs h3).mono fun e w' ⟨v',e1,e2⟩=>e1▸h5 v' w' e2
def PZ (b:Bool):List UInt8:= [if b then 1 else 0]
theorem TV {w:World} {v:Value} (b:Bool) {Q:Ending→World→Prop} (h:∃S w0 G G' xs,St S w0 w G∧bg G (.own 5 1 (v) (xs).length ((xs).map B)) G'∧xs.length≤70368744177664∧∀v' w',St S w0 w' (.own 5 1 (v') (xs++PZ b).length ((xs++PZ b).map B)::G')→Q (.returned v') w'):Calls Tryz.prog 130 #[v,.bool b] w Q:=by
 obtain⟨S,w0,G,G',xs,h1,h2,h3,h5⟩:=h
 exact(Qg (h1.pick h2) b h3).mono fun e w' ⟨v',e1,e2⟩=>e1▸h5 v' w' e2
theorem T7 {w:World} {v:Value} (n:Int) (hn:0≤n∧n<9223372036854775808) {Q:Ending→World→Prop} (h:∃S w0 G G' xs,St S w0 w G∧bg G (.own 5 1 (v) (xs).length ((xs).map B)) G'∧xs.length≤70368744177600∧∀v' w',St S w0 w' (.own 5 1 (v') (xs++eW n).length ((xs++eW n).map B)::G')→Q (.returned v') w'):Calls Tryz.prog 25 #[v,.int .i64 n] w Q:=by
 obtain⟨S,w0,G,G',xs,h1,h2,h3,h5⟩:=h
 exact(GS (h1.pick h2) n hn.1 hn.2 h3).mono fun e w' ⟨v',e1,e2⟩=>e1▸h5 v' w' e2
theorem wV {w0 w:World} {v:Value} (hg:Gl [] w0) (t:dJ) (hok:t.elem.heap.ok) (h1:t.lim.min<18446744073709551616) (h2:t.lim.max<18446744073709551616) {Q:Ending→World→Prop} (h:∃G G' xs,St [] w0 w G∧bg G (.own 5 1 (v) (xs).length ((xs).map B)) G'∧xs.length≤70368744177000∧∀v' w',St [] w0 w' (.own 5 1 (v') (xs++em t).length ((xs++em t).map B)::G')→Q (.returned v') w'):Calls Tryz.prog 82 #[v,.agg (dv t).toArray] w Q:=by
 obtain⟨G,G',xs,a1,a2,a3,a5⟩:=h
 exact(Kr (a1.pick a2) hg t hok h1 h2 a3).mono fun e w' ⟨v',e1,e2⟩=>e1▸a5 v' w' e2
theorem Hv {w0 w:World} {G:List bt} {v:Value} {xs:List UInt8} (hS:St [] w0 w (.own 5 1 (v) (xs).length ((xs).map B)::G)) (hg:cq [] w0) (t:dW) (hok:t.val.heap.ok) (hx:xs.length≤70368744177000):
 Calls Tryz.prog 83 #[v,.agg (dK t).toArray] w fun e w'=>∃v',e= .returned v'∧St [] w0 w' (.own 5 1 (v') (xs++ga t).length ((xs++ga t).map B)::G):=by
 obtain⟨⟨ek,en,⟨hk,hn⟩⟩,m⟩:=t
 dsimp only at hok
 have l0:=dn ⟨ek,en,⟨hk,hn⟩⟩ hok
 have e:xs++ga ⟨⟨ek,en,⟨hk,hn⟩⟩,m⟩=xs++es ⟨ek,en,⟨hk,hn⟩⟩++PZ m:=by unfold ga PZ;simp
 rw[e]
 clear e
 unfold dK cj
 go_enter Tryz.func83,Tryz.ntmps83
 go_wp2
 go_region_held3 (fun w'=>w'.cell? ⟨w.heap.size,0,none⟩=some (.int .i64 ek)∧w'.cell? ⟨w.heap.size,1,none⟩=some (.bool en)∧w'.cell? ⟨w.heap.size,2,none⟩=some (.int .i64 hk)∧w'.cell? ⟨w.heap.size,3,none⟩=some (.int .i64 hn)∧w'.cell? ⟨w.heap.size,4,none⟩=some (.bool m)) (first|(go_keep;done)|(simp[hQ];done)) (first|((try clear hQ);refine JK fun vN wN hS hQ=> ?_)|(go_at_call 97;(with_reducible refine(oU (⟨ek,en,⟨hk,hn⟩⟩:aF) ?_ ?_).mono ?_);(·apply St.gl (hs:=hg.gl);(exact aA));(·exact hok);rintro e w4 ⟨v4,rfl,s4⟩;(try clear hQ);refine qa s4 fun hS hQ=> ?_)|(go_at_call 130;refine TV m ?_;refine kv ?_;intro vN wN hS;(try clear hQ);have hQ:=St.fq hS))
 go_wp2
 exact sz
theorem Cy {w0 w:World} {v:Value} (hg:cq [] w0) (t:dW) (hok:t.val.heap.ok) {Q:Ending→World→Prop} (h:∃G G' xs,St [] w0 w G∧bg G (.own 5 1 (v) (xs).length ((xs).map B)) G'∧xs.length≤70368744177000∧∀v' w',St [] w0 w' (.own 5 1 (v') (xs++ga t).length ((xs++ga t).map B)::G')→Q (.returned v') w'):Calls Tryz.prog 83 #[v,.agg (dK t).toArray] w Q:=by
 obtain⟨G,G',xs,a1,a2,a3,a5⟩:=h
 exact(Hv (a1.pick a2) hg t hok a3).mono fun e w' ⟨v',e1,e2⟩=>e1▸a5 v' w' e2
structure jq (l:List aa):Prop where
 wf:lB l
 sm:∀i,i∈l→Dz i
 len:(al l).length≤17592186044000
theorem OM {w:World} (hg:cq [] w) (v:Value) (l:List aa) (h:eo v l w) (hp:jq l):Calls Tryz.prog 132 #[v] w fun e w'=>∃v',e= .returned v'∧St [] w w' [.own 5 1 (v') (al l).length ((al l).map B)]:=by
 obtain⟨ds,h1,h2⟩:=h
 exact PG NB hg v l ds h1 h2.ins hp.wf.2 hp.len hp.wf.1 hp.sm
theorem FA {w0 w:World} {G:List bt} {v rv:Value} {xs:List UInt8} (hS:St [] w0 w (.own 5 1 (v) (xs).length ((xs).map B)::G)) (hg:cq [] w0) (l:List aa) (h:eo rv l w0) (hp:jq l) (hx:xs.length≤70368744177000):
 Calls Tryz.prog 87 #[v,rv] w fun e w'=>∃v',e= .returned v'∧St [] w0 w' (.own 5 1 (v') (xs++al l).length ((xs++al l).map B)::G):=by
 have HP:=Lib.hid fun w' (hf:Fr [] w0 w')=>OM (hg.fr hf (by simp)) rv l (eo.fr h hf) hp
 have lp:=hp.len
 obtain⟨a,c,rfl⟩:=an.shape h
 clear hp h
 go_enter Tryz.func87,Tryz.ntmps87
 exact U4
theorem tD {w0 w:World} {v rv:Value} (hg:cq [] w0) (l:List aa) (hr:eo rv l w0) (hp:jq l) {Q:Ending→World→Prop} (h:∃G G' xs,St [] w0 w G∧bg G (.own 5 1 (v) (xs).length ((xs).map B)) G'∧xs.length≤70368744177000∧∀v' w',St [] w0 w' (.own 5 1 (v') (xs++al l).length ((xs++al l).map B)::G')→Q (.returned v') w'):Calls Tryz.prog 87 #[v,rv] w Q:=by
 obtain⟨G,G',xs,a1,a2,a3,a5⟩:=h
 exact(FA (a1.pick a2) hg l hr hp a3).mono fun e w' ⟨v',e1,e2⟩=>e1▸a5 v' w' e2
theorem C2 (l:eA) (h1:l.min<18446744073709551616) (h2:l.max<18446744073709551616):(ea l).length≤21:=by
 have l1:=bG l.min h1
 have l2:=bG l.max h2
 unfold ea
 split<;>simp<;>omega
theorem fI (s:List UInt8) (hs:s.length≤1099511627776):(dX s).length≤10+s.length:=by
 have:=bG s.length (by omega)
 unfold dX
 exact zV
theorem QX {w0 w:World} {G:List bt} {v:Value} {xs:List UInt8} (hS:St [] w0 w (.own 5 1 (v) (xs).length ((xs).map B)::G)) (hg:cq [] w0) (g:mD) (c:List Value) (h:qR g c w0) (hok:g.type.val.heap.ok) (hp:jq g.init) (hx:xs.length≤35184372088832):
 Calls Tryz.prog 27 #[v,.agg c.toArray] w fun e w'=>∃v',e= .returned v'∧St [] w0 w' (.own 5 1 (v') (xs++gg g).length ((xs++gg g).map B)::G):=by
 obtain⟨rv,rfl,hr⟩:=h
 obtain⟨⟨⟨ek,en,⟨hk,hn⟩⟩,m⟩,is⟩:=g
 dsimp only at hok hp hr
 have hr2:=hr
 obtain⟨a,cc,rfl⟩:=an.shape hr
 clear hr
 have l0:=dn ⟨ek,en,⟨hk,hn⟩⟩ hok
 have l1:(ga ⟨⟨ek,en,⟨hk,hn⟩⟩,m⟩).length≤14:=by unfold ga;rw[List.length_append];simp;omega
 have e:xs++gg ⟨⟨⟨ek,en,⟨hk,hn⟩⟩,m⟩,is⟩=xs++ga ⟨⟨ek,en,⟨hk,hn⟩⟩,m⟩++al is:=by unfold gg;simp
 rw[e]
 clear e
 unfold dK cj
 go_enter Tryz.func27,Tryz.ntmps27
 go_wp2
 go_region_held3 (fun w'=>w'.cell? ⟨w.heap.size,0,none⟩=some (.int .i64 ek)∧w'.cell? ⟨w.heap.size,1,none⟩=some (.bool en)∧w'.cell? ⟨w.heap.size,2,none⟩=some (.int .i64 hk)∧w'.cell? ⟨w.heap.size,3,none⟩=some (.int .i64 hn)∧w'.cell? ⟨w.heap.size,4,none⟩=some (.bool m)∧w'.cell? ⟨w.heap.size,5,none⟩=some (.slice a is.length cc)) (first|(go_keep;done)|(simp[hQ];done)) (first|(go_at_call 83;refine Cy hg ⟨⟨ek,en,⟨hk,hn⟩⟩,m⟩ hok ?_;refine kv ?_;intro vN wN hS;(try clear hQ);have hQ:=St.fq hS)|(go_at_call 87;refine tD hg is hr2 hp ?_;refine kv ?_;intro vN wN hS;(try clear hQ);have hQ:=St.fq hS))
 go_wp2
 exact sz
theorem QJ {S:List Nat} {w0 w:World} {G:List bt} {v:Value} {xs:List UInt8} (hS:St S w0 w (.own 5 1 (v) (xs).length ((xs).map B)::G)) (x:kB) (hn:x.name.length≤1099511627776) (h0:0≤x.n∧x.n<9223372036854775808) (hx:xs.length≤35184372088832):
 Calls Tryz.prog 29 #[v,.agg (gw x).toArray] w fun e w'=>∃v',e= .returned v'∧St S w0 w' (.own 5 1 (v') (xs++fF x).length ((xs++fF x).map B)::G):=by
 obtain⟨nm,k,n⟩:=x
 dsimp only at hn h0
 have l0:=fI nm hn
 have e:xs++fF ⟨nm,k,n⟩=xs++dX nm++ [UInt8.ofNat (k% 256).toNat]++au n:=by unfold fF;simp
 rw[e]
 clear e
 have hb:0≤k% 256∧k% 256<256:=by omega
 have hw:=pE k
 unfold gw iI
 go_enter Tryz.func29,Tryz.ntmps29
 go_wp2
 go_region_held3 (fun w'=>w'.cell? ⟨w.heap.size,0,none⟩=some (.string ⟨nm.toArray⟩)∧w'.cell? ⟨w.heap.size,1,none⟩=some (.int .i64 k)∧w'.cell? ⟨w.heap.size,2,none⟩=some (.int .i64 n)) (first|(go_keep;done)|(simp[hQ];done)) (first|((try clear hQ);refine JK fun vN wN hS hQ=> ?_)|(go_at_call 81;refine iT nm hn ?_;refine kv ?_;intro vN wN hS;(try clear hQ);have hQ:=St.fq hS)|(go_at_call 19;refine ki ?_;refine sC ?_;intro vN wN hS;(try clear hQ);have hQ:=St.fq hS))
 all_goals
  (try go_wp2)
  go_ret
  exact⟨_,rfl,hS.sel (by exact ic)⟩
theorem bB.sl2 {w:World} {g:Nat} {Y:List UInt8} {T:TypeId} (hl:bB w g (Y.map B) T) (hn:Y.length=2):Sl [] w 1 (.slice (some ⟨g,0,none⟩) 2 2) Y.length (Y.map B):=by
 refine⟨by simp,?_,some ⟨g,0,none⟩,2,by rw[hn],by omega,by decide,(fun h=>by cases h),.inr ⟨g,0,rfl,by simp,hl.lt,fun j hj=> ?_⟩⟩
 ·exact Ud
 ·rw[Nat.zero_add]
  exact hl.cell j
def L4 (g:List bu):Prop:=(∀t,t∈g→t.len≤1048576)∧g.length≤1048576
theorem Ng {w:World} (hg:cq [] w) (v:Value) (g:List bu) (h:ET v g w) (hp:L4 g):Calls Tryz.prog 79 #[v] w fun e w'=>∃v',e= .returned v'∧St [] w w' [.own 5 1 (v') (qO g).length ((qO g).map B)]:=by
 obtain⟨cs,h1,h2⟩:=h
 exact(Du hg.gl v g cs h1 h2 hp.1 hp.2).mono fun e w' ⟨v,h1,h2,h3,h4⟩=>⟨v,h1,St.ofOut h2 h3 h4⟩
theorem PS {w0 w:World} {G:List bt} {v rv:Value} {xs:List UInt8} (hS:St [] w0 w (.own 5 1 (v) (xs).length ((xs).map B)::G)) (hg:cq [] w0) (g:List bu) (h:ET rv g w0) (hp:L4 g) (hx:xs.length+(cm g).length≤70368744177000):
 Calls Tryz.prog 14 #[v,rv] w fun e w'=>∃v',e= .returned v'∧St [] w0 w' (.own 5 1 (v') (xs++cm g).length ((xs++cm g).map B)::G):=by
 have HP:=Lib.hid fun w' (hf:Fr [] w0 w')=>Ng (hg.fr hf (by simp)) rv g (gv.fr g [rv] w0 w' hf ⟨rv,rfl,h⟩|>fun⟨_,e,k⟩=>by cases e;exact k) hp
 obtain⟨a,c,rfl⟩:=(mF h).shape
 clear hp h
 by_cases h0:g.length=0
 ·have e:cm g= [78,0]:=by unfold cm;rw[if_pos h0]
  rw[e]at hx⊢
  have q:(((g.length:Nat):Int)==0)=true:=by simp[h0]
  simp only[List.length_cons,List.length_nil]at hx
  clear e h0
  go_enter Tryz.func14,Tryz.ntmps14
  go_wp2_with first|(at_builtin;refine ER rfl rfl rfl rfl ?_;(repeat(apply Exists.intro));refine⟨?_,?_,?_,?_,?_⟩;(·exact aA);(·(try simp only[World.size_alloc,World.size_setCell,ay,ar]);apply Ac.own;(exact aK));(·((try simp only[World.size_alloc,World.size_setCell,ay,ar]);apply jv.arg;refine bB.sl2 (Y:= [78,0]) (St.loc (G:= _) (by exact aA) (by exact aK)) rfl));(·exact bS);intro vN wN hS;(try clear hQ);have hQ:=St.fq hS)|fail
  exact sz
 ·have e:cm g=qO g:=by unfold cm;rw[if_neg h0]
  rw[e]at hx⊢
  have q:(((g.length:Nat):Int)==0)=false:=by simpa using h0
  clear e h0
  go_enter Tryz.func14,Tryz.ntmps14
  exact U4
theorem Ru {S:List Nat} {w0 w:World} {G:List bt} {v:Value} {xs:List UInt8} (hS:St S w0 w (.own 5 1 (v) (xs).length ((xs).map B)::G)) (n:Int) (lv bv:Value) (hl:lv.oneCell'=true) (hb:bv.oneCell'=true) (h0:0≤n∧n<9223372036854775808) (hx:xs.length≤70368744177000):
 Calls Tryz.prog 18 #[v,.agg #[.int .i64 n,lv,bv]] w fun e w'=>∃v',e= .returned v'∧St S w0 w' (.own 5 1 (v') (xs++au n).length ((xs++au n).map B)::G):=by
 go_enter Tryz.func18,Tryz.ntmps18
 go_wp2_with first|(go_at_call 19;refine ki ?_;refine sC ?_;intro vN wN hS;(try clear hQ);have hQ:=St.fq hS)|fail
 exact sz
theorem QY {w0 w:World} {G:List bt} {v:Value} {xs:List UInt8} (hS:St [] w0 w (.own 5 1 (v) (xs).length ((xs).map B)::G)) (hg:cq [] w0) (r:fN) (h0:0≤r.n∧r.n<9223372036854775808) (hok:r.val.heap.ok) (hx:xs.length≤70368744177000):
 Calls Tryz.prog 100 #[v,.agg (fk r).toArray] w fun e w'=>∃v',e= .returned v'∧St [] w0 w' (.own 5 1 (v') (xs++ee r).length ((xs++ee r).map B)::G):=by
 obtain⟨n,⟨ek,en,⟨hk,hn⟩⟩⟩:=r
 dsimp only at h0 hok
 have l0:=dn ⟨ek,en,⟨hk,hn⟩⟩ hok
 have l1:=az n h0.2
 have e:xs++ee ⟨n,⟨ek,en,⟨hk,hn⟩⟩⟩=xs++au n++es ⟨ek,en,⟨hk,hn⟩⟩:=by unfold ee;simp
 rw[e]
 clear e
 unfold fk cj
 go_enter Tryz.func100,Tryz.ntmps100
 go_wp2
 go_region_held3 (fun w'=>w'.cell? ⟨w.heap.size,0,none⟩=some (.int .i64 n)∧w'.cell? ⟨w.heap.size,1,none⟩=some (.int .i64 ek)∧w'.cell? ⟨w.heap.size,2,none⟩=some (.bool en)∧w'.cell? ⟨w.heap.size,3,none⟩=some (.int .i64 hk)∧w'.cell? ⟨w.heap.size,4,none⟩=some (.int .i64 hn)) (first|(go_keep;done)|(simp[hQ];done)) (first|((try clear hQ);refine JK fun vN wN hS hQ=> ?_)|(go_at_call 97;(with_reducible refine(oU (⟨ek,en,⟨hk,hn⟩⟩:aF) ?_ ?_).mono ?_);(·apply St.gl (hs:=hg.gl);(exact aA));(·exact hok);rintro e w4 ⟨v4,rfl,s4⟩;(try clear hQ);refine qa s4 fun hS hQ=> ?_)|(go_at_call 19;refine ki ?_;refine sC ?_;intro vN wN hS;(try clear hQ);have hQ:=St.fq hS))
 all_goals
  (try go_wp2)
  go_ret
  exact⟨_,rfl,hS.sel (by exact ic)⟩
set_option maxHeartbeats 3200000
theorem Qz {w0 w:World} {G:List bt} {v:Value} {xs:List UInt8} (hS:St [] w0 w (.own 5 1 (v) (xs).length ((xs).map B)::G)) (hg:cq [] w0) (t:lO) (c:List Value) (h:qG t c w0) (hok:t.type.elem.heap.ok) (h1:t.type.lim.min<18446744073709551616) (h2:t.type.lim.max<18446744073709551616) (hp:jq t.init) (hx:xs.length≤35184372088832):
 Calls Tryz.prog 21 #[v,.agg c.toArray] w fun e w'=>∃v',e= .returned v'∧St [] w0 w' (.own 5 1 (v') (xs++fD t).length ((xs++fD t).map B)::G):=by
 obtain⟨rv,rfl,hr⟩:=h
 obtain⟨⟨⟨ek,en,⟨hk,hn⟩⟩,⟨wd,mn,mx,hm⟩⟩,hi,is⟩:=t
 dsimp only at hok h1 h2 hp hr
 have hr2:=hr
 obtain⟨a,cc,rfl⟩:=an.shape hr
 clear hr
 have l0:=dn ⟨ek,en,⟨hk,hn⟩⟩ hok
 have l2:=C2 ⟨wd,mn,mx,hm⟩ h1 h2
 have l1:(em ⟨⟨ek,en,⟨hk,hn⟩⟩,⟨wd,mn,mx,hm⟩⟩).length≤40:=by unfold em;rw[List.length_append];simp;omega
 unfold dv cj du
 cases hi
 ·have e:xs++fD ⟨⟨⟨ek,en,⟨hk,hn⟩⟩,⟨wd,mn,mx,hm⟩⟩,false,is⟩=xs++em ⟨⟨ek,en,⟨hk,hn⟩⟩,⟨wd,mn,mx,hm⟩⟩:=by unfold fD;simp
  rw[e]
  clear e
  go_enter Tryz.func21,Tryz.ntmps21
  go_wp2_with first|(go_at_call 82;refine wV hg.gl ⟨⟨ek,en,⟨hk,hn⟩⟩,⟨wd,mn,mx,hm⟩⟩ hok h1 h2 ?_;refine kv ?_;intro vN wN hS;(try clear hQ);have hQ:=St.fq hS)
  exact sz
 ·have e:xs++fD ⟨⟨⟨ek,en,⟨hk,hn⟩⟩,⟨wd,mn,mx,hm⟩⟩,true,is⟩=xs++ [64,0]++em ⟨⟨ek,en,⟨hk,hn⟩⟩,⟨wd,mn,mx,hm⟩⟩++al is:=by unfold fD;simp
  rw[e]
  clear e
  go_enter Tryz.func21,Tryz.ntmps21
  go_wp2
  go_region_held3 (fun w'=>w'.cell? ⟨w.heap.size,0,none⟩=some (.int .i64 ek)∧w'.cell? ⟨w.heap.size,1,none⟩=some (.bool en)∧w'.cell? ⟨w.heap.size,2,none⟩=some (.int .i64 hk)∧w'.cell? ⟨w.heap.size,3,none⟩=some (.int .i64 hn)∧w'.cell? ⟨w.heap.size,4,none⟩=some (.bool wd)∧w'.cell? ⟨w.heap.size,5,none⟩=some (.int .u64 (mn:Int))∧w'.cell? ⟨w.heap.size,6,none⟩=some (.int .u64 (mx:Int))∧w'.cell? ⟨w.heap.size,7,none⟩=some (.bool hm)∧w'.cell? ⟨w.heap.size,9,none⟩=some (.slice a is.length cc)) (first|(go_keep;done)|(simp[hQ];done)) (first|(refine F0 rfl rfl rfl rfl ?_;(repeat(apply Exists.intro));refine⟨?_,?_,?_,?_,?_⟩;(·exact aA);(·(try simp only[World.size_alloc,World.size_setCell,ay,ar]);apply Ac.own;(exact aK));(·((try simp only[World.size_alloc,World.size_setCell,ay,ar]);apply jv.arg;refine bB.sl2 (Y:= [64,0]) (St.loc (G:= _) (by exact aA) (by exact aK)) rfl));(·exact bS);intro vN wN hS;(try clear hQ);have hQ:=St.fq hS)|(go_at_call 82;refine wV hg.gl ⟨⟨ek,en,⟨hk,hn⟩⟩,⟨wd,mn,mx,hm⟩⟩ hok h1 h2 ?_;refine kv ?_;intro vN wN hS;(try clear hQ);have hQ:=St.fq hS)|(go_at_call 87;refine tD hg is hr2 hp ?_;refine kv ?_;intro vN wN hS;(try clear hQ);have hQ:=St.fq hS))
  all_goals
   (try go_wp2)
   go_ret
   exact⟨_,rfl,hS.sel (by exact ic)⟩
structure D3 (i:jp):Prop where
 modu:i.modu.length≤1099511627776
 name:i.name.length≤1099511627776
 n:0≤i.what.n∧i.what.n<9223372036854775808
 ok1:i.what.table.elem.heap.ok
 m1:i.what.table.lim.min<18446744073709551616
 m2:i.what.table.lim.max<18446744073709551616
 m3:i.what.mem.min<18446744073709551616
 m4:i.what.mem.max<18446744073709551616
 ok2:i.what.global.val.heap.ok
theorem Wo {w0 w:World} {G:List bt} {v:Value} {xs:List UInt8} (hS:St [] w0 w (.own 5 1 (v) (xs).length ((xs).map B)::G)) (hg:cq [] w0) (x:jp) (hp:D3 x) (h:x.what.kind=1) (hx:xs.length≤35184372088832):
 Calls Tryz.prog 16 #[v,.agg (eR x).toArray] w fun e w'=>∃v',e= .returned v'∧St [] w0 w' (.own 5 1 (v') (xs++dR x).length ((xs++dR x).map B)::G):=by
 obtain⟨p1,p2,h0,ok1,m1,m2,m3,m4,ok2⟩:=hp
 obtain⟨a1,a2,⟨k,n,⟨⟨ek,en,⟨ehk,ehn⟩⟩,⟨lw,lmn,lmx,lh⟩⟩,⟨mw,mmn,mmx,mh⟩,⟨⟨gk,gn,⟨ghk,ghn⟩⟩,gm⟩⟩⟩:=x
 dsimp only at p1 p2 h0 ok1 m1 m2 m3 m4 ok2 h
 have l1:=fI a1 p1
 have l2:=fI a2 p2
 have hb:0≤k% 256∧k% 256<256:=by omega
 have hw:=pE k
 have q1:(k==1)=true:=by simp[h]
 have e:xs++dR ⟨a1,a2,⟨k,n,⟨⟨ek,en,⟨ehk,ehn⟩⟩,⟨lw,lmn,lmx,lh⟩⟩,⟨mw,mmn,mmx,mh⟩,⟨⟨gk,gn,⟨ghk,ghn⟩⟩,gm⟩⟩⟩=xs++dX a1++dX a2++ [UInt8.ofNat (k% 256).toNat]++em ⟨⟨ek,en,⟨ehk,ehn⟩⟩,⟨lw,lmn,lmx,lh⟩⟩:=by
  unfold dR oA;simp[h]
 rw[e]
 clear e h
 unfold eR lz dv dK cj du iI
 go_enter Tryz.func16,Tryz.ntmps16
 go_wp2
 go_region_held3 (fun w'=>w'.cell? ⟨w.heap.size,0,none⟩=some (.string ⟨a1.toArray⟩)∧w'.cell? ⟨w.heap.size,1,none⟩=some (.string ⟨a2.toArray⟩)) (first|(go_keep;done)|(simp[hQ];done)) (first|(go_at_call 81;(with_reducible refine iT a1 p1 ?_);refine kv ?_;intro vN wN hS;(try clear hQ);have hQ:=St.fq hS)|(go_at_call 81;(with_reducible refine iT a2 p2 ?_);refine kv ?_;intro vN wN hS;(try clear hQ);have hQ:=St.fq hS))
 go_wp2_with first|(at_builtin;(try clear hQ);refine wb fun vN wN hS hQ=> ?_)|(refine bC (ty:=73) rfl rfl rfl kH rfl ?_;(repeat(apply Exists.intro));refine⟨?_,?_,?_,?_⟩;(·exact aA);(·(try simp only[World.size_alloc,World.size_setCell,ay,ar]);exact eD.elem (cH (mid:= [.int .i64 ek,.bool en,.int .i64 ehk,.int .i64 ehn,.bool lw,.int .u64 (lmn:Int),.int .u64 (lmx:Int),.bool lh]) 4 (bB.range (St.loc hS (by exact aK))) rfl));(·exact jO))|(go_at_call 82;refine wV hg.gl ⟨⟨ek,en,⟨ehk,ehn⟩⟩,⟨lw,lmn,lmx,lh⟩⟩ ok1 m1 m2 ?_;refine kv ?_;intro vN wN hS;(try clear hQ);have hQ:=St.fq hS)|fail
 exact sz
theorem VD {w0 w:World} {G:List bt} {v:Value} {xs:List UInt8} (hS:St [] w0 w (.own 5 1 (v) (xs).length ((xs).map B)::G)) (hg:cq [] w0) (x:jp) (hp:D3 x) (h:x.what.kind=2) (hx:xs.length≤35184372088832):
 Calls Tryz.prog 16 #[v,.agg (eR x).toArray] w fun e w'=>∃v',e= .returned v'∧St [] w0 w' (.own 5 1 (v') (xs++dR x).length ((xs++dR x).map B)::G):=by
 obtain⟨p1,p2,h0,ok1,m1,m2,m3,m4,ok2⟩:=hp
 obtain⟨a1,a2,⟨k,n,⟨⟨ek,en,⟨ehk,ehn⟩⟩,⟨lw,lmn,lmx,lh⟩⟩,⟨mw,mmn,mmx,mh⟩,⟨⟨gk,gn,⟨ghk,ghn⟩⟩,gm⟩⟩⟩:=x
 dsimp only at p1 p2 h0 ok1 m1 m2 m3 m4 ok2 h
 have l1:=fI a1 p1
 have l2:=fI a2 p2
 have hb:0≤k% 256∧k% 256<256:=by omega
 have hw:=pE k
 have q1:(k==1)=false:=by simp[h]
 have q2:(k==2)=true:=by simp[h]
 have e:xs++dR ⟨a1,a2,⟨k,n,⟨⟨ek,en,⟨ehk,ehn⟩⟩,⟨lw,lmn,lmx,lh⟩⟩,⟨mw,mmn,mmx,mh⟩,⟨⟨gk,gn,⟨ghk,ghn⟩⟩,gm⟩⟩⟩=xs++dX a1++dX a2++ [UInt8.ofNat (k% 256).toNat]++ea ⟨mw,mmn,mmx,mh⟩:=by
  unfold dR oA;simp[h]
 rw[e]
 clear e h
 unfold eR lz dv dK cj du iI
 go_enter Tryz.func16,Tryz.ntmps16
 go_wp2
 go_region_held3 (fun w'=>w'.cell? ⟨w.heap.size,0,none⟩=some (.string ⟨a1.toArray⟩)∧w'.cell? ⟨w.heap.size,1,none⟩=some (.string ⟨a2.toArray⟩)) (first|(go_keep;done)|(simp[hQ];done)) (first|(go_at_call 81;(with_reducible refine iT a1 p1 ?_);refine kv ?_;intro vN wN hS;(try clear hQ);have hQ:=St.fq hS)|(go_at_call 81;(with_reducible refine iT a2 p2 ?_);refine kv ?_;intro vN wN hS;(try clear hQ);have hQ:=St.fq hS))
 go_wp2_with first|(at_builtin;(try clear hQ);refine wb fun vN wN hS hQ=> ?_)|(refine bC (ty:=50) rfl rfl rfl mr rfl ?_;(repeat(apply Exists.intro));refine⟨?_,?_,?_,?_⟩;(·exact aA);(·(try simp only[World.size_alloc,World.size_setCell,ay,ar]);exact eD.elem (cH (mid:= [.bool mw,.int .u64 (mmn:Int),.int .u64 (mmx:Int),.bool mh]) 12 (bB.range (St.loc hS (by exact aK))) rfl));(·exact jX))|(go_at_call 23;refine MT ⟨mw,mmn,mmx,mh⟩ ?_;(repeat(apply Exists.intro));refine⟨?_,?_,?_,?_,?_⟩;(·exact aA);(·exact aK);(·exact⟨m3,m4⟩);(·exact bS);intro vN wN hS;(try clear hQ);have hQ:=St.fq hS)|fail
 exact sz
theorem VB {w0 w:World} {G:List bt} {v:Value} {xs:List UInt8} (hS:St [] w0 w (.own 5 1 (v) (xs).length ((xs).map B)::G)) (hg:cq [] w0) (x:jp) (hp:D3 x) (h:x.what.kind=3) (hx:xs.length≤35184372088832):
 Calls Tryz.prog 16 #[v,.agg (eR x).toArray] w fun e w'=>∃v',e= .returned v'∧St [] w0 w' (.own 5 1 (v') (xs++dR x).length ((xs++dR x).map B)::G):=by
 obtain⟨p1,p2,h0,ok1,m1,m2,m3,m4,ok2⟩:=hp
 obtain⟨a1,a2,⟨k,n,⟨⟨ek,en,⟨ehk,ehn⟩⟩,⟨lw,lmn,lmx,lh⟩⟩,⟨mw,mmn,mmx,mh⟩,⟨⟨gk,gn,⟨ghk,ghn⟩⟩,gm⟩⟩⟩:=x
 dsimp only at p1 p2 h0 ok1 m1 m2 m3 m4 ok2 h
 have l1:=fI a1 p1
 have l2:=fI a2 p2
 have hb:0≤k% 256∧k% 256<256:=by omega
 have hw:=pE k
 have q1:(k==1)=false:=by simp[h]
 have q2:(k==2)=false:=by simp[h]
 have q3:(k==3)=true:=by simp[h]
 have e:xs++dR ⟨a1,a2,⟨k,n,⟨⟨ek,en,⟨ehk,ehn⟩⟩,⟨lw,lmn,lmx,lh⟩⟩,⟨mw,mmn,mmx,mh⟩,⟨⟨gk,gn,⟨ghk,ghn⟩⟩,gm⟩⟩⟩=xs++dX a1++dX a2++ [UInt8.ofNat (k% 256).toNat]++ga ⟨⟨gk,gn,⟨ghk,ghn⟩⟩,gm⟩:=by
  unfold dR oA;simp[h]
 rw[e]
 clear e h
 unfold eR lz dv dK cj du iI
 go_enter Tryz.func16,Tryz.ntmps16
 go_wp2
 go_region_held3 (fun w'=>w'.cell? ⟨w.heap.size,0,none⟩=some (.string ⟨a1.toArray⟩)∧w'.cell? ⟨w.heap.size,1,none⟩=some (.string ⟨a2.toArray⟩)) (first|(go_keep;done)|(simp[hQ];done)) (first|(go_at_call 81;(with_reducible refine iT a1 p1 ?_);refine kv ?_;intro vN wN hS;(try clear hQ);have hQ:=St.fq hS)|(go_at_call 81;(with_reducible refine iT a2 p2 ?_);refine kv ?_;intro vN wN hS;(try clear hQ);have hQ:=St.fq hS))
 go_wp2_with first|(at_builtin;(try clear hQ);refine wb fun vN wN hS hQ=> ?_)|(refine bC (ty:=75) rfl rfl rfl pM rfl ?_;(repeat(apply Exists.intro));refine⟨?_,?_,?_,?_⟩;(·exact aA);(·(try simp only[World.size_alloc,World.size_setCell,ay,ar]);exact eD.elem (cH (mid:= [.int .i64 gk,.bool gn,.int .i64 ghk,.int .i64 ghn,.bool gm]) 16 (bB.range (St.loc hS (by exact aK))) rfl));(·exact jz))|(go_at_call 83;refine Cy hg ⟨⟨gk,gn,⟨ghk,ghn⟩⟩,gm⟩ ok2 ?_;refine kv ?_;intro vN wN hS;(try clear hQ);have hQ:=St.fq hS)|fail
 exact sz
theorem VP {w0 w:World} {G:List bt} {v:Value} {xs:List UInt8} (hS:St [] w0 w (.own 5 1 (v) (xs).length ((xs).map B)::G)) (hg:cq [] w0) (x:jp) (hp:D3 x) (h:x.what.kind=4) (hx:xs.length≤35184372088832):
 Calls Tryz.prog 16 #[v,.agg (eR x).toArray] w fun e w'=>∃v',e= .returned v'∧St [] w0 w' (.own 5 1 (v') (xs++dR x).length ((xs++dR x).map B)::G):=by
 obtain⟨p1,p2,h0,ok1,m1,m2,m3,m4,ok2⟩:=hp
 obtain⟨a1,a2,⟨k,n,⟨⟨ek,en,⟨ehk,ehn⟩⟩,⟨lw,lmn,lmx,lh⟩⟩,⟨mw,mmn,mmx,mh⟩,⟨⟨gk,gn,⟨ghk,ghn⟩⟩,gm⟩⟩⟩:=x
 dsimp only at p1 p2 h0 ok1 m1 m2 m3 m4 ok2 h
 have l1:=fI a1 p1
 have l2:=fI a2 p2
 have hb:0≤k% 256∧k% 256<256:=by omega
 have hw:=pE k
 have q1:(k==1)=false:=by simp[h]
 have q2:(k==2)=false:=by simp[h]
 have q3:(k==3)=false:=by simp[h]
 have q4:(k==4)=true:=by simp[h]
 have e:xs++dR ⟨a1,a2,⟨k,n,⟨⟨ek,en,⟨ehk,ehn⟩⟩,⟨lw,lmn,lmx,lh⟩⟩,⟨mw,mmn,mmx,mh⟩,⟨⟨gk,gn,⟨ghk,ghn⟩⟩,gm⟩⟩⟩=xs++dX a1++dX a2++ [UInt8.ofNat (k% 256).toNat]++eW n:=by
  unfold dR oA;simp[h]
 rw[e]
 clear e h
 unfold eR lz dv dK cj du iI
 go_enter Tryz.func16,Tryz.ntmps16
 go_wp2
 go_region_held3 (fun w'=>w'.cell? ⟨w.heap.size,0,none⟩=some (.string ⟨a1.toArray⟩)∧w'.cell? ⟨w.heap.size,1,none⟩=some (.string ⟨a2.toArray⟩)) (first|(go_keep;done)|(simp[hQ];done)) (first|(go_at_call 81;(with_reducible refine iT a1 p1 ?_);refine kv ?_;intro vN wN hS;(try clear hQ);have hQ:=St.fq hS)|(go_at_call 81;(with_reducible refine iT a2 p2 ?_);refine kv ?_;intro vN wN hS;(try clear hQ);have hQ:=St.fq hS))
 go_wp2_with first|(at_builtin;(try clear hQ);refine wb fun vN wN hS hQ=> ?_)|(go_at_call 25;refine T7 n h0 ?_;refine kv ?_;intro vN wN hS;(try clear hQ);have hQ:=St.fq hS)|fail
 exact sz
theorem Ur {w0 w:World} {G:List bt} {v:Value} {xs:List UInt8} (hS:St [] w0 w (.own 5 1 (v) (xs).length ((xs).map B)::G)) (hg:cq [] w0) (x:jp) (hp:D3 x) (h:x.what.kind≠1∧x.what.kind≠2∧x.what.kind≠3∧x.what.kind≠4) (hx:xs.length≤35184372088832):
 Calls Tryz.prog 16 #[v,.agg (eR x).toArray] w fun e w'=>∃v',e= .returned v'∧St [] w0 w' (.own 5 1 (v') (xs++dR x).length ((xs++dR x).map B)::G):=by
 obtain⟨p1,p2,h0,ok1,m1,m2,m3,m4,ok2⟩:=hp
 obtain⟨a1,a2,⟨k,n,⟨⟨ek,en,⟨ehk,ehn⟩⟩,⟨lw,lmn,lmx,lh⟩⟩,⟨mw,mmn,mmx,mh⟩,⟨⟨gk,gn,⟨ghk,ghn⟩⟩,gm⟩⟩⟩:=x
 dsimp only at p1 p2 h0 ok1 m1 m2 m3 m4 ok2 h
 have l1:=fI a1 p1
 have l2:=fI a2 p2
 have hb:0≤k% 256∧k% 256<256:=by omega
 have hw:=pE k
 have q1:(k==1)=false:=by simp;omega
 have q2:(k==2)=false:=by simp;omega
 have q3:(k==3)=false:=by simp;omega
 have q4:(k==4)=false:=by simp;omega
 have e:xs++dR ⟨a1,a2,⟨k,n,⟨⟨ek,en,⟨ehk,ehn⟩⟩,⟨lw,lmn,lmx,lh⟩⟩,⟨mw,mmn,mmx,mh⟩,⟨⟨gk,gn,⟨ghk,ghn⟩⟩,gm⟩⟩⟩=xs++dX a1++dX a2++ [UInt8.ofNat (k% 256).toNat]++au n:=by
  unfold dR oA;simp[h.1,h.2.1,h.2.2.1,h.2.2.2]
 rw[e]
 clear e h
 unfold eR lz dv dK cj du iI
 go_enter Tryz.func16,Tryz.ntmps16
 go_wp2
 go_region_held3 (fun w'=>w'.cell? ⟨w.heap.size,0,none⟩=some (.string ⟨a1.toArray⟩)∧w'.cell? ⟨w.heap.size,1,none⟩=some (.string ⟨a2.toArray⟩)) (first|(go_keep;done)|(simp[hQ];done)) (first|(go_at_call 81;(with_reducible refine iT a1 p1 ?_);refine kv ?_;intro vN wN hS;(try clear hQ);have hQ:=St.fq hS)|(go_at_call 81;(with_reducible refine iT a2 p2 ?_);refine kv ?_;intro vN wN hS;(try clear hQ);have hQ:=St.fq hS))
 go_wp2_with first|(at_builtin;(try clear hQ);refine wb fun vN wN hS hQ=> ?_)|(go_at_call 19;refine ki ?_;refine sC ?_;intro vN wN hS;(try clear hQ);have hQ:=St.fq hS)|fail
 exact sz
theorem Rg {w0 w:World} {G:List bt} {v:Value} {xs:List UInt8} (hS:St [] w0 w (.own 5 1 (v) (xs).length ((xs).map B)::G)) (hg:cq [] w0) (x:jp) (hp:D3 x) (hx:xs.length≤35184372088832):
 Calls Tryz.prog 16 #[v,.agg (eR x).toArray] w fun e w'=>∃v',e= .returned v'∧St [] w0 w' (.own 5 1 (v') (xs++dR x).length ((xs++dR x).map B)::G):=by
 by_cases h1:x.what.kind=1
 ·exact Wo hS hg x hp h1 hx
 by_cases h2:x.what.kind=2
 ·exact VD hS hg x hp h2 hx
 by_cases h3:x.what.kind=3
 ·exact VB hS hg x hp h3 hx
 by_cases h4:x.what.kind=4
 ·exact VP hS hg x hp h4 hx
 exact Ur hS hg x hp ⟨h1,h2,h3,h4⟩ hx
end Go.Proofs.YtpdlmdlkecnpgaaGreatDoor
