/- Texts: IbPut IbPutR Same2W. -/
import Derived.Test.YtpdlmdlkecnpgaaGreatDoorH0
import Derived.Test.YtpdlmdlkecnpgaaGreatDoorH18
import Derived.Test.YtpdlmdlkecnpgaaGreatDoorH8
import Derived.Test.YtpdlmdlkecnpgaaGreatDoorH10
import Derived.Test.YtpdlmdlkecnpgaaGreatDoorH7
import Derived.Test.YtpdlmdlkecnpgaaGreatDoorH17
import Derived.Test.YtpdlmdlkecnpgaaGreatDoorH24
import Derived.Test.YtpdlmdlkecnpgaaGreatDoorH13
set_option linter.unusedSimpArgs false
set_option linter.unusedVariables false
namespace Go.Proofs.YtpdlmdlkecnpgaaGreatDoor
open Go.RowKit
theorem wa (n:Nat) (w:World) (hn:n<18446744073709551616):Calls Tryz.prog 85 #[.int .u64 n] w fun e w'=>∃v,e= .returned v∧St [] w w' [.own 5 1 (v) (aI n).length ((aI n).map B)]:=
 (mZ n w hn).mono fun e w' ⟨v,h1,h2,h3,h4⟩=>⟨v,h1,St.ofOut h2 h3 h4⟩
theorem sP (n:Nat) (w:World) (hn:n<18446744073709551616):Calls Tryz.prog 85 #[.int .u64 (IntKind.u64.wrap n)] w fun e w'=>∃v,e= .returned v∧St [] w w' [.own 5 1 (v) (aI n).length ((aI n).map B)]:=by
 rw[show IntKind.u64.wrap (n:Int)=(n:Int) from(show(n:Int)% 18446744073709551616=n by omega)]
 exact wa n w hn
theorem L0 (n:Int) (w:World) (h1: -9223372036854775808≤n) (h2:n<9223372036854775808):Calls Tryz.prog 243 #[.int .i64 n] w fun e w'=>∃v,e= .returned v∧St [] w w' [.own 5 1 (v) (eN n).length ((eN n).map B)]:=
 (CB n w h1 h2).mono fun e w' ⟨v,h1,h2,h3,h4⟩=>⟨v,h1,St.ofOut h2 h3 h4⟩
set_option maxRecDepth 100000
set_option maxHeartbeats 1600000
theorem AI {S:List Nat} {w0 w:World} {G:List bt} {v:Value} {xs:List UInt8} (hS:St S w0 w (.own 5 1 (v) (xs).length ((xs).map B)::G)) (n:Int) (h0:0≤n) (hn:n<9223372036854775808) (hx:xs.length≤35184372088832):
 Calls Tryz.prog 242 #[v,.int .i64 n] w fun e w'=>∃v',e= .returned v'∧St S w0 w' (.own 5 1 (v') (xs++au n).length ((xs++au n).map B)::G):=by
 obtain⟨m,rfl⟩:∃m:Nat,n=m:=⟨n.toNat,by omega⟩
 have hl:=bG m (by omega)
 show Calls Tryz.prog 242 #[v,.int .i64 m] w fun e w'=>∃v',e= .returned v'∧St S w0 w' (.own 5 1 (v') (xs++aI m).length ((xs++aI m).map B)::G)
 exact Un
theorem mE {w:World} {v:Value} {n:Int} {Q:Ending→World→Prop} (h:∃S w0 G G' xs,St S w0 w G∧bg G (.own 5 1 (v) (xs).length ((xs).map B)) G'∧(0≤n∧n<9223372036854775808)∧xs.length≤35184372088832∧∀v' w',St S w0 w' (.own 5 1 (v') (xs++au n).length ((xs++au n).map B)::G')→Q (.returned v') w'):Calls Tryz.prog 242 #[v,.int .i64 n] w Q:=by
 obtain⟨S,w0,G,G',xs,h1,h2,h3,h4,h5⟩:=h
 exact(AI (h1.pick h2) n h3.1 h3.2 h4).mono fun e w' ⟨v',e1,e2⟩=>e1▸h5 v' w' e2
theorem az (n:Int) (h:n<9223372036854775808):(au n).length≤10:=bG _ (by omega)
theorem Fb (n:Int):bits .and .i64 n 255=n% 256:=by
 have h255:(BitVec.ofInt 64 255).toNat=2^8-1:=by decide
 have key:(BitVec.ofInt 64 n&&&BitVec.ofInt 64 255).toNat=(n% ((2^64:Nat):Int)).toNat% 2^8:=by
  rw[BitVec.toNat_and,BitVec.toNat_ofInt,h255,Nat.and_two_pow_sub_one_eq_mod]
 show IntKind.i64.wrap ((BitVec.ofInt 64 n&&&BitVec.ofInt 64 255).toNat:Nat)=n% 256
 rw[key,IntKind.wrap_i64]
 omega
theorem pE (n:Int):IntKind.u8.wrap n=n% 256:=rfl
theorem Lj {S:List Nat} {w0 w:World} {G:List bt} {v:Value} {xs:List UInt8} (hS:St S w0 w (.own 5 1 (v) (xs).length ((xs).map B)::G)) (op:Int) (h0:0≤op) (hn:op<65536) (hx:xs.length≤35184372088830):
 Calls Tryz.prog 194 #[v,.int .i64 op] w fun e w'=>∃v',e= .returned v'∧St S w0 w' (.own 5 1 (v') (xs++xW op).length ((xs++xW op).map B)::G):=by
 by_cases h:op<256
 ·have e:xW op= [UInt8.ofNat op.toNat]:=by unfold xW;rw[if_pos h]
  rw[e]
  have hw:op% 256=op:=by omega
  have hb:0≤op∧op<256:=⟨h0,h⟩
  clear e
  go_enter Tryz.func194,Tryz.ntmps194
  exact Th
 ·have e:xs++xW op=xs++ [UInt8.ofNat (op/256).toNat]++au (op% 256):=by unfold xW;rw[if_neg h];simp
  rw[e]
  have hand:=Fb op
  clear e
  go_enter Tryz.func194,Tryz.ntmps194
  exact Ug
theorem Jo (w:World) (i:aa) (tv lv cv:Value) (ht:tv.oneCell'=true) (hl:lv.oneCell'=true) (hc:cv.oneCell'=true):Calls Tryz.prog 244 #[.agg (cp i tv lv cv).toArray] w fun e w'=>e= .returned (.int .u8 (ke i.null i.null2).toNat)∧Fr [] w w':=by
 obtain⟨o,x,y,u,h,h2,n1,n2,ts,ls,b,cs⟩:=i
 dsimp only
 unfold cp
 dsimp only
 cases n1<;>cases n2
 all_goals
  go_enter Tryz.func244,Tryz.ntmps244
  go_wp2
  go_ret
  exact⟨rfl,by exact cF⟩
theorem oU {w:World} (t:aF) (hg:Gl [] w) (hk:t.heap.ok):Calls Tryz.prog 97 #[.agg #[.int .i64 t.kind,.bool t.null,.int .i64 t.heap.kind,.int .i64 t.heap.n]] w fun e w'=>∃v',e= .returned v'∧St [] w w' [.own 5 1 (v') (es t).length ((es t).map B)]:=
 (DH hg t hk).mono fun e w' ⟨v,h1,h2,h3,h4⟩=>⟨v,h1,St.ofOut h2 h3 h4⟩
theorem tl {w:World} (h:aC) (hg:Gl [] w) (hk:h.ok):Calls Tryz.prog 245 #[.agg #[.int .i64 h.kind,.int .i64 h.n]] w fun e w'=>∃v',e= .returned v'∧St [] w w' [.own 5 1 (v') (jt h).length ((jt h).map B)]:=
 (Cl hg h hk).mono fun e w' ⟨v,h1,h2,h3,h4⟩=>⟨v,h1,St.ofOut h2 h3 h4⟩
theorem uy {w:World} (hg:Gl [] w) (b:bJ) (hb:cY b=true):
 Calls Tryz.prog 247 #[.agg #[.int .i64 b.kind,.int .i64 b.val.kind,.bool b.val.null,.int .i64 b.val.heap.kind,.int .i64 b.val.heap.n,.int .i64 b.n]] w fun e w'=>∃v',e= .returned v'∧St [] w w' [.own 5 1 (v') (dp b).length ((dp b).map B)]:=by
 have hS:=St.start [] w
 rcases(ns b).1 hb with rfl|⟨h1,h2,h3⟩|⟨h1,h2,h3⟩
 ·show Calls Tryz.prog 247 #[.agg #[.int .i64 0,.int .i64 0,.bool false,.int .i64 0,.int .i64 0,.int .i64 0]] w fun e w'=>∃v',e= .returned v'∧St [] w w' [.own 5 1 (v') ([64]).length (([64]).map B)]
  go_enter Tryz.func247,Tryz.ntmps247
  go_wp2
  go_ret
  refine⟨_,rfl,?_⟩
  have h4:=St.dst (((hS.alloc [.int .i64 0,.int .i64 0,.bool false,.int .i64 0,.int .i64 0,.int .i64 0] 174).alloc [.int .u8 64] 5)) (.lit .here (by omega))
  simp only[World.size_alloc]at h4
  exact h4.sel (.cons .here .nil)
 ·have e:dp b=es b.val:=by unfold dp;rw[if_pos h1]
  rw[e]
  have hok:=db h2
  obtain⟨bk,⟨vk,vn,⟨wk,wn⟩⟩,bn⟩:=b
  dsimp only at h1 h3 hok⊢
  subst h1
  clear h2 hb e
  go_enter Tryz.func247,Tryz.ntmps247
  go_wp2_with first|(go_at_call 97;(with_reducible refine(oU (⟨vk,vn,⟨wk,wn⟩⟩:aF) ?_ ?_).mono ?_);(·apply St.gl (hs:=hg);(exact aA));(·exact hok);rintro e w4 ⟨v4,rfl,s4⟩;(try clear hQ);refine qa s4 fun hS hQ=> ?_)
  exact sz
 ·have e:dp b=eN b.n:=by unfold dp;rw[if_neg (by omega),if_pos h1]
  rw[e]
  have hn:=(bz _).1 h3
  obtain⟨bk,⟨vk,vn,⟨wk,wn⟩⟩,bn⟩:=b
  dsimp only at h1 hn⊢
  subst h1
  clear h2 h3 hb e
  obtain⟨hn1,hn2⟩:=hn
  go_enter Tryz.func247,Tryz.ntmps247
  go_wp2_with first|(go_at_call 243;(with_reducible refine(L0 bn _ (by omega) (by omega)).mono ?_);rintro e w4 ⟨v4,rfl,s4⟩;(try clear hQ);refine qa s4 fun hS hQ=> ?_)
  exact sz
theorem Bh {S:List Nat} {w0 w:World} {G:List bt} {v:Value} {xs:List UInt8} (hS:St S w0 w (.own 5 1 (v) (xs).length ((xs).map B)::G)) (c:cQ) (hc:dm c=true) (hx:xs.length≤35184372088800):
 Calls Tryz.prog 248 #[v,.agg #[.int .i64 c.kind,.int .i64 c.tag,.int .i64 c.label]] w fun e w'=>∃v',e= .returned v'∧St S w0 w' (.own 5 1 (v') (xs++dM c).length ((xs++dM c).map B)::G):=by
 obtain⟨h1,h2,h3,h4⟩:=(kr c).1 hc
 have h3':=(bz _).1 h3
 by_cases hk:c.kind<2
 ·rw[if_pos hk]at h4
  have h4':=(bz _).1 h4
  have e:xs++dM c=xs++ [UInt8.ofNat c.kind.toNat]++au c.tag++au c.label:=by unfold dM;rw[if_pos hk];simp
  rw[e]
  have l1:=az c.tag (by omega)
  have l2:=az c.label (by omega)
  obtain⟨ck,ct,cl⟩:=c
  dsimp only at h1 h2 h3' h4' hk l1 l2⊢
  clear hc h3 h4 e
  go_enter Tryz.func248,Tryz.ntmps248
  exact Ug
 ·have e:xs++dM c=xs++ [UInt8.ofNat c.kind.toNat]++au c.label:=by unfold dM;rw[if_neg hk];simp
  rw[e]
  have l2:=az c.label (by omega)
  obtain⟨ck,ct,cl⟩:=c
  dsimp only at h1 h2 h3' hk l2⊢
  clear hc h3 h4 e
  go_enter Tryz.func248,Tryz.ntmps248
  exact Ug
theorem Lg {w:World} {v:Value} {c:cQ} {Q:Ending→World→Prop} (h:∃S w0 G G' xs,St S w0 w G∧bg G (.own 5 1 (v) (xs).length ((xs).map B)) G'∧dm c=true∧xs.length≤35184372088800∧∀v' w',St S w0 w' (.own 5 1 (v') (xs++dM c).length ((xs++dM c).map B)::G')→Q (.returned v') w'):Calls Tryz.prog 248 #[v,.agg #[.int .i64 c.kind,.int .i64 c.tag,.int .i64 c.label]] w Q:=by
 obtain⟨S,w0,G,G',xs,h1,h2,h3,h4,h5⟩:=h
 exact(Bh (h1.pick h2) c h3 h4).mono fun e w' ⟨v',e1,e2⟩=>e1▸h5 v' w' e2
theorem nY {b:bJ} (h:cY b=true):(dp b).length≤13:=by
 rcases(ns b).1 h with rfl|⟨h1,h2,h3⟩|⟨h1,h2,h3⟩
 ·decide
 ·unfold dp;rw[if_pos h1,ig h2];exact lx _ (db h2)
 ·have:=(bz _).1 h3
  have:=i8 b.n (by omega) (by omega)
  unfold dp;rw[if_neg (by omega),if_pos h1];omega
theorem iC {α:Type} {f:α→List UInt8} {m:Nat}:∀(l:List α),(∀x,x∈l→(f x).length≤m)→(l.flatMap f).length≤l.length*m
 | [],_=>by simp
 |a::l,h=>by
  have h1:=h a (by simp)
  have h2:=iC l fun x hx=>h x (by simp[hx])
  rw[List.flatMap_cons,List.length_append,List.length_cons,Nat.add_mul,Nat.one_mul]
  omega
theorem Fi {u:Nat} (h:u<4294967296):wrap32 (u:Int)=j0 u∧wrap64 (j0 u)=j0 u:=by
 unfold wrap32 wrap64 j0
 split<;>omega
theorem CX {u:Nat} (h:u<18446744073709551616):wrap64 (u:Int)=fC u:=by
 unfold wrap64 fC
 split<;>omega
theorem qT {c:cQ} (h:dm c=true):(dM c).length≤21:=by
 obtain⟨h1,h2,h3,h4⟩:=(kr c).1 h
 have h3':=(bz _).1 h3
 have l2:=az c.label (by omega)
 unfold dM
 split
 ·rename_i hk
  rw[if_pos hk]at h4
  have h4':=(bz _).1 h4
  have l1:=az c.tag (by omega)
  exact Sv
 ·simp only[List.length_cons,List.length_append,List.length_nil]
  omega
theorem TI (ls:List Int) (h:ls.all ev=true):(ls.flatMap au).length≤ls.length*10:=
 iC ls fun n hn=>by
  have:=(bz _).1 (List.all_eq_true.1 h n hn)
  exact az n (by omega)
theorem zh (ts:List aF) (h:∀t,t∈ts→t.heap.ok) (hn:ts.length≤1048576):(oj ts).length≤20+ts.length*13:=by
 unfold oj
 split
 ·have h1:=iC ts fun x hx=>lx x (h x hx)
  have h2:=bG ts.length (by omega)
  exact xX
 ·simp
set_option maxHeartbeats 6400000
theorem OH {w0 w:World} {G:List bt} {v:Value} {xs:List UInt8} (hS:St [] w0 w (.own 5 1 (v) (xs).length ((xs).map B)::G)) (hg:cq [] w0) (o x y:Int) (u:Nat) (hk hn jk jn:Int) (n1 n2:Bool) (ts:List aF) (ls:List Int) (bk vk:Int) (vn:Bool) (wk wn bn:Int) (cs:List cQ) (tv lv cv:Value) (hR:gR [] w0 (⟨o,x,y,u,⟨hk,hn⟩,⟨jk,jn⟩,n1,n2,ts,ls,⟨bk,⟨vk,vn,⟨wk,wn⟩⟩,bn⟩,cs⟩:aa) tv lv cv) (hx:xs.length≤17592186044416) (hm:dx (⟨o,x,y,u,⟨hk,hn⟩,⟨jk,jn⟩,n1,n2,ts,ls,⟨bk,⟨vk,vn,⟨wk,wn⟩⟩,bn⟩,cs⟩:aa)=true) (hl1:ts.length≤1048576) (hl2:ls.length≤1048576) (hl3:cs.length≤1048576) (hu:u<18446744073709551616) (hsh:oS o):
 Calls Tryz.prog 193 #[v,.agg (cp (⟨o,x,y,u,⟨hk,hn⟩,⟨jk,jn⟩,n1,n2,ts,ls,⟨bk,⟨vk,vn,⟨wk,wn⟩⟩,bn⟩,cs⟩:aa) tv lv cv).toArray] w fun e w'=>∃v',e= .returned v'∧St [] w0 w' (.own 5 1 (v') (xs++aW (⟨o,x,y,u,⟨hk,hn⟩,⟨jk,jn⟩,n1,n2,ts,ls,⟨bk,⟨vk,vn,⟨wk,wn⟩⟩,bn⟩,cs⟩:aa)).length ((xs++aW (⟨o,x,y,u,⟨hk,hn⟩,⟨jk,jn⟩,n1,n2,ts,ls,⟨bk,⟨vk,vn,⟨wk,wn⟩⟩,bn⟩,cs⟩:aa)).map B)::G):=by
 have hb:=ed (cU hm)
 have ho1: -9223372036854775808≤o:=by have:=hb.1;dsimp only at this;omega
 have ho2:o<9223372036854775808:=by have:=hb.1;have:=hb.2.1;dsimp only at this;omega
 obtain⟨tS,lS,cS⟩:=hR
 obtain⟨ta,tc,rfl⟩:=tS.shape
 obtain⟨la,lc,rfl⟩:=lS.shape
 obtain⟨ca,cc,rfl⟩:=cS.shape
 dsimp only at tS lS cS
 have e0:xs++aW (⟨o,x,y,u,⟨hk,hn⟩,⟨jk,jn⟩,n1,n2,ts,ls,⟨bk,⟨vk,vn,⟨wk,wn⟩⟩,bn⟩,cs⟩:aa)=xs:=by rw[FC (by exact hsh)];simp
 have E0:=Lib.hid e0
 clear e0
 generalize xs++aW (⟨o,x,y,u,⟨hk,hn⟩,⟨jk,jn⟩,n1,n2,ts,ls,⟨bk,⟨vk,vn,⟨wk,wn⟩⟩,bn⟩,cs⟩:aa)=Y at E0⊢
 obtain⟨h4,h6,h7,h5,h8,h9,h10,h11,h12,h2,h3,h13⟩:=hsh
 have HK:Hid (ag o=ag o):=Lib.hid rfl
 have k4:(ag o==4)=false:=by simpa using h4
 have k6:(ag o==6)=false:=by simpa using h6
 have k7:(ag o==7)=false:=by simpa using h7
 have k5:(ag o==5)=false:=by simpa using h5
 have k8:(ag o==8)=false:=by simpa using h8
 have k9:(ag o==9)=false:=by simpa using h9
 have k10:(ag o==10)=false:=by simpa using h10
 have k11:(ag o==11)=false:=by simpa using h11
 have k12:(ag o==12)=false:=by simpa using h12
 have k2:(ag o==2)=false:=by simpa using h2
 have k3:(ag o==3)=false:=by simpa using h3
 have k13:(ag o==13)=false:=by simpa using h13
 clear h4 h6 h7 h5 h8 h9 h10 h11 h12 h2 h3 h13
 clear hb hm
 unfold cp
 dsimp only
 go_enter Tryz.func193,Tryz.ntmps193
 go_wp2_with first|(go_at_call 233;(with_reducible refine(dd ?_ _ ?_ ?_).mono ?_);(·apply St.gl7 (hg:=hg);(exact aw));(·omega);(·omega);rintro e w2 ⟨rfl,hF2⟩;(try clear hQ);refine cB hF2 fun hS hQ=> ?_;(try rw[HK.out]))
 go_ret
 refine⟨v,rfl,?_⟩
 rw[E0.out]
 exact hS.sel (by exact ic)
theorem OC {w0 w:World} {G:List bt} {v:Value} {xs:List UInt8} (hS:St [] w0 w (.own 5 1 (v) (xs).length ((xs).map B)::G)) (hg:cq [] w0) (o x y:Int) (u:Nat) (hk hn jk jn:Int) (n1 n2:Bool) (ts:List aF) (ls:List Int) (bk vk:Int) (vn:Bool) (wk wn bn:Int) (cs:List cQ) (tv lv cv:Value) (hR:gR [] w0 (⟨o,x,y,u,⟨hk,hn⟩,⟨jk,jn⟩,n1,n2,ts,ls,⟨bk,⟨vk,vn,⟨wk,wn⟩⟩,bn⟩,cs⟩:aa) tv lv cv) (hx:xs.length≤17592186044416) (hm:dx (⟨o,x,y,u,⟨hk,hn⟩,⟨jk,jn⟩,n1,n2,ts,ls,⟨bk,⟨vk,vn,⟨wk,wn⟩⟩,bn⟩,cs⟩:aa)=true) (hl1:ts.length≤1048576) (hl2:ls.length≤1048576) (hl3:cs.length≤1048576) (hu:u<18446744073709551616) (hsh:ag o=4):
 Calls Tryz.prog 193 #[v,.agg (cp (⟨o,x,y,u,⟨hk,hn⟩,⟨jk,jn⟩,n1,n2,ts,ls,⟨bk,⟨vk,vn,⟨wk,wn⟩⟩,bn⟩,cs⟩:aa) tv lv cv).toArray] w fun e w'=>∃v',e= .returned v'∧St [] w0 w' (.own 5 1 (v') (xs++aW (⟨o,x,y,u,⟨hk,hn⟩,⟨jk,jn⟩,n1,n2,ts,ls,⟨bk,⟨vk,vn,⟨wk,wn⟩⟩,bn⟩,cs⟩:aa)).length ((xs++aW (⟨o,x,y,u,⟨hk,hn⟩,⟨jk,jn⟩,n1,n2,ts,ls,⟨bk,⟨vk,vn,⟨wk,wn⟩⟩,bn⟩,cs⟩:aa)).map B)::G):=by
 exact Ya
theorem MX {w0 w:World} {G:List bt} {v:Value} {xs:List UInt8} (hS:St [] w0 w (.own 5 1 (v) (xs).length ((xs).map B)::G)) (hg:cq [] w0) (o x y:Int) (u:Nat) (hk hn jk jn:Int) (n1 n2:Bool) (ts:List aF) (ls:List Int) (bk vk:Int) (vn:Bool) (wk wn bn:Int) (cs:List cQ) (tv lv cv:Value) (hR:gR [] w0 (⟨o,x,y,u,⟨hk,hn⟩,⟨jk,jn⟩,n1,n2,ts,ls,⟨bk,⟨vk,vn,⟨wk,wn⟩⟩,bn⟩,cs⟩:aa) tv lv cv) (hx:xs.length≤17592186044416) (hm:dx (⟨o,x,y,u,⟨hk,hn⟩,⟨jk,jn⟩,n1,n2,ts,ls,⟨bk,⟨vk,vn,⟨wk,wn⟩⟩,bn⟩,cs⟩:aa)=true) (hl1:ts.length≤1048576) (hl2:ls.length≤1048576) (hl3:cs.length≤1048576) (hu:u<18446744073709551616) (hsh:ag o=6):
 Calls Tryz.prog 193 #[v,.agg (cp (⟨o,x,y,u,⟨hk,hn⟩,⟨jk,jn⟩,n1,n2,ts,ls,⟨bk,⟨vk,vn,⟨wk,wn⟩⟩,bn⟩,cs⟩:aa) tv lv cv).toArray] w fun e w'=>∃v',e= .returned v'∧St [] w0 w' (.own 5 1 (v') (xs++aW (⟨o,x,y,u,⟨hk,hn⟩,⟨jk,jn⟩,n1,n2,ts,ls,⟨bk,⟨vk,vn,⟨wk,wn⟩⟩,bn⟩,cs⟩:aa)).length ((xs++aW (⟨o,x,y,u,⟨hk,hn⟩,⟨jk,jn⟩,n1,n2,ts,ls,⟨bk,⟨vk,vn,⟨wk,wn⟩⟩,bn⟩,cs⟩:aa)).map B)::G):=by
 exact Ya
theorem MC {w0 w:World} {G:List bt} {v:Value} {xs:List UInt8} (hS:St [] w0 w (.own 5 1 (v) (xs).length ((xs).map B)::G)) (hg:cq [] w0) (o x y:Int) (u:Nat) (hk hn jk jn:Int) (n1 n2:Bool) (ts:List aF) (ls:List Int) (bk vk:Int) (vn:Bool) (wk wn bn:Int) (cs:List cQ) (tv lv cv:Value) (hR:gR [] w0 (⟨o,x,y,u,⟨hk,hn⟩,⟨jk,jn⟩,n1,n2,ts,ls,⟨bk,⟨vk,vn,⟨wk,wn⟩⟩,bn⟩,cs⟩:aa) tv lv cv) (hx:xs.length≤17592186044416) (hm:dx (⟨o,x,y,u,⟨hk,hn⟩,⟨jk,jn⟩,n1,n2,ts,ls,⟨bk,⟨vk,vn,⟨wk,wn⟩⟩,bn⟩,cs⟩:aa)=true) (hl1:ts.length≤1048576) (hl2:ls.length≤1048576) (hl3:cs.length≤1048576) (hu:u<18446744073709551616) (hsh:ag o=7):
 Calls Tryz.prog 193 #[v,.agg (cp (⟨o,x,y,u,⟨hk,hn⟩,⟨jk,jn⟩,n1,n2,ts,ls,⟨bk,⟨vk,vn,⟨wk,wn⟩⟩,bn⟩,cs⟩:aa) tv lv cv).toArray] w fun e w'=>∃v',e= .returned v'∧St [] w0 w' (.own 5 1 (v') (xs++aW (⟨o,x,y,u,⟨hk,hn⟩,⟨jk,jn⟩,n1,n2,ts,ls,⟨bk,⟨vk,vn,⟨wk,wn⟩⟩,bn⟩,cs⟩:aa)).length ((xs++aW (⟨o,x,y,u,⟨hk,hn⟩,⟨jk,jn⟩,n1,n2,ts,ls,⟨bk,⟨vk,vn,⟨wk,wn⟩⟩,bn⟩,cs⟩:aa)).map B)::G):=by
 have hb:=ed (cU hm)
 have ho1: -9223372036854775808≤o:=by have:=hb.1;dsimp only at this;omega
 have ho2:o<9223372036854775808:=by have:=hb.1;have:=hb.2.1;dsimp only at this;omega
 obtain⟨tS,lS,cS⟩:=hR
 obtain⟨ta,tc,rfl⟩:=tS.shape
 obtain⟨la,lc,rfl⟩:=lS.shape
 obtain⟨ca,cc,rfl⟩:=cS.shape
 dsimp only at tS lS cS
 have e0:xs++aW (⟨o,x,y,u,⟨hk,hn⟩,⟨jk,jn⟩,n1,n2,ts,ls,⟨bk,⟨vk,vn,⟨wk,wn⟩⟩,bn⟩,cs⟩:aa)=xs++au x++au y:=by rw[FI (by exact hsh)];simp
 have E0:=Lib.hid e0
 clear e0
 generalize xs++aW (⟨o,x,y,u,⟨hk,hn⟩,⟨jk,jn⟩,n1,n2,ts,ls,⟨bk,⟨vk,vn,⟨wk,wn⟩⟩,bn⟩,cs⟩:aa)=Y at E0⊢
 have hp:=aQ hm (x6 (i:=(⟨o,x,y,u,⟨hk,hn⟩,⟨jk,jn⟩,n1,n2,ts,ls,⟨bk,⟨vk,vn,⟨wk,wn⟩⟩,bn⟩,cs⟩:aa)) hsh)
 have hp1:=hp.1
 simp only[Bool.and_eq_true,bz]at hp1
 obtain⟨hX,hY⟩:=hp1
 have lX:=az x (by omega)
 have lY:=az y (by omega)
 have HK:=Lib.hid hsh
 clear hsh hp
 clear hb hm
 unfold cp
 dsimp only
 go_enter Tryz.func193,Tryz.ntmps193
 go_wp2_with first|(go_at_call 233;(with_reducible refine(dd ?_ _ ?_ ?_).mono ?_);(·apply St.gl7 (hg:=hg);(exact aw));(·omega);(·omega);rintro e w2 ⟨rfl,hF2⟩;(try clear hQ);refine cB hF2 fun hS hQ=> ?_;(try rw[HK.out]))
 go_region_held3 (fun w'=>w'.cell? ⟨w.heap.size,1,none⟩=some (.int .i64 x)∧w'.cell? ⟨w.heap.size,2,none⟩=some (.int .i64 y))
  (first|(go_keep;done)|(simp[hQ];done)) (first|(go_at_call 242;(try rw[hwk]);refine mE ?_;refine zy ?_;intro vN wN hS;(try clear hQ);have hQ:=St.fq hS))
 go_wp2
 exact wy
theorem OT {w0 w:World} {G:List bt} {v:Value} {xs:List UInt8} (hS:St [] w0 w (.own 5 1 (v) (xs).length ((xs).map B)::G)) (hg:cq [] w0) (o x y:Int) (u:Nat) (hk hn jk jn:Int) (n1 n2:Bool) (ts:List aF) (ls:List Int) (bk vk:Int) (vn:Bool) (wk wn bn:Int) (cs:List cQ) (tv lv cv:Value) (hR:gR [] w0 (⟨o,x,y,u,⟨hk,hn⟩,⟨jk,jn⟩,n1,n2,ts,ls,⟨bk,⟨vk,vn,⟨wk,wn⟩⟩,bn⟩,cs⟩:aa) tv lv cv) (hx:xs.length≤17592186044416) (hm:dx (⟨o,x,y,u,⟨hk,hn⟩,⟨jk,jn⟩,n1,n2,ts,ls,⟨bk,⟨vk,vn,⟨wk,wn⟩⟩,bn⟩,cs⟩:aa)=true) (hl1:ts.length≤1048576) (hl2:ls.length≤1048576) (hl3:cs.length≤1048576) (hu:u<18446744073709551616) (hsh:ag o=5):
 Calls Tryz.prog 193 #[v,.agg (cp (⟨o,x,y,u,⟨hk,hn⟩,⟨jk,jn⟩,n1,n2,ts,ls,⟨bk,⟨vk,vn,⟨wk,wn⟩⟩,bn⟩,cs⟩:aa) tv lv cv).toArray] w fun e w'=>∃v',e= .returned v'∧St [] w0 w' (.own 5 1 (v') (xs++aW (⟨o,x,y,u,⟨hk,hn⟩,⟨jk,jn⟩,n1,n2,ts,ls,⟨bk,⟨vk,vn,⟨wk,wn⟩⟩,bn⟩,cs⟩:aa)).length ((xs++aW (⟨o,x,y,u,⟨hk,hn⟩,⟨jk,jn⟩,n1,n2,ts,ls,⟨bk,⟨vk,vn,⟨wk,wn⟩⟩,bn⟩,cs⟩:aa)).map B)::G):=by
 have hb:=ed (cU hm)
 have ho1: -9223372036854775808≤o:=by have:=hb.1;dsimp only at this;omega
 have ho2:o<9223372036854775808:=by have:=hb.1;have:=hb.2.1;dsimp only at this;omega
 obtain⟨tS,lS,cS⟩:=hR
 obtain⟨ta,tc,rfl⟩:=tS.shape
 obtain⟨la,lc,rfl⟩:=lS.shape
 obtain⟨ca,cc,rfl⟩:=cS.shape
 dsimp only at tS lS cS
 have e0:xs++aW (⟨o,x,y,u,⟨hk,hn⟩,⟨jk,jn⟩,n1,n2,ts,ls,⟨bk,⟨vk,vn,⟨wk,wn⟩⟩,bn⟩,cs⟩:aa)=xs++au ((ls.length:Nat):Int)++ls.flatMap au++au x:=by rw[A8 (by exact hsh)];simp[ae,au]
 have E0:=Lib.hid e0
 clear e0
 generalize xs++aW (⟨o,x,y,u,⟨hk,hn⟩,⟨jk,jn⟩,n1,n2,ts,ls,⟨bk,⟨vk,vn,⟨wk,wn⟩⟩,bn⟩,cs⟩:aa)=Y at E0⊢
 have hp:=aQ hm (zd (i:=(⟨o,x,y,u,⟨hk,hn⟩,⟨jk,jn⟩,n1,n2,ts,ls,⟨bk,⟨vk,vn,⟨wk,wn⟩⟩,bn⟩,cs⟩:aa)) hsh)
 have hp1:=hp.1
 simp only[Bool.and_eq_true,bz]at hp1
 obtain⟨hX,hL⟩:=hp1
 have hL:=Lib.hid hL
 have lX:=az x (by omega)
 have lN:=az ((ls.length:Nat):Int) (by omega)
 have HK:=Lib.hid hsh
 clear hsh hp
 clear hb hm
 unfold cp
 dsimp only
 go_enter Tryz.func193,Tryz.ntmps193
 go_wp2_with first|(go_at_call 233;(with_reducible refine(dd ?_ _ ?_ ?_).mono ?_);(·apply St.gl7 (hg:=hg);(exact aw));(·omega);(·omega);rintro e w2 ⟨rfl,hF2⟩;(try clear hQ);refine cB hF2 fun hS hQ=> ?_;(try rw[HK.out]))|(go_at_call 242;(try rw[hwk]);refine mE ?_;refine zy ?_;intro vN wN hS;(try clear hQ);have hQ:=St.fq hS)
 go_loopw [0,43] (fun v n wr=>∃(k:Nat),n= .int .i64 k∧k≤ls.length∧St [] w0 wr (.own 5 1 (v) (xs++au ((ls.length:Nat):Int)++(ls.take k).flatMap au).length ((xs++au ((ls.length:Nat):Int)++(ls.take k).flatMap au).map B):: .loc w.heap.size [.int .i64 o,.int .i64 x,.int .i64 y,.int .u64 (u:Int),.int .i64 hk,.int .i64 hn,.int .i64 jk,.int .i64 jn,.bool n1,.bool n2,.slice ta ts.length tc,.slice la ls.length lc,.int .i64 bk,.int .i64 vk,.bool vn,.int .i64 wk,.int .i64 wn,.int .i64 bn,.slice ca cs.length cc] 177::G)) (fun _ n _=>ls.length-(intOf n).toNat)
 case atStart=>
  refine⟨0,rfl,by omega,?_⟩
  rw[show xs++au ((ls.length:Nat):Int)++(ls.take 0).flatMap au=xs++au ((ls.length:Nat):Int) from by simp]
  exact hS.sel (by exact ic)
 case round=>
  obtain⟨k,rfl,hk2,hS⟩:=hrel
  (try clear hQ);have hQ:=St.fq hS
  have lK:((ls.take k).flatMap au).length≤(ls.take k).length*10:=iC _ fun n hn=>(by
   have:=(bz _).1 (List.all_eq_true.1 hL.out n (List.mem_of_mem_take hn))
   exact az n (by omega))
  rw[List.length_take]at lK
  by_cases hlt:k<ls.length
  ·obtain⟨m,hm⟩:∃t,ls[k]? =some t:=⟨ls[k],by simp[hlt]⟩
   obtain⟨b,off,cap2,hv,hb,hnS,hc⟩:=Sl.elem lS (fun _=>rfl) k m hm
   injection hv with hv1 hv2 hv3
   subst hv1 hv3
   have hbw:b<wr.heap.size:=Nat.lt_of_lt_of_le hb hS.fr.size
   have f0:=(hS.fr.cell hb (by simp) _).trans (hc 0 (by decide))
   simp only[Nat.add_zero,←Nat.add_assoc,gK,Nat.mul_one,List.getElem?_cons_zero]at f0
   have hm2:=(bz m).1 (List.all_eq_true.1 hL.out m (List.mem_of_getElem? hm))
   have lM:=az m (by omega)
   have e:xs++au ((ls.length:Nat):Int)++(ls.take (k+1)).flatMap au=xs++au ((ls.length:Nat):Int)++(ls.take k).flatMap au++au m:=by
    rw[List.take_add_one,hm];simp
   have E:=Lib.hid e
   clear e hm
   go_wp2_with first|(go_at_call 242;(try rw[hwk]);refine mE ?_;refine zy ?_;intro vN wN hS;(try clear hQ);have hQ:=St.fq hS)
   exact Xx
  ·obtain rfl:k=ls.length:=by omega
   rw[List.take_length]at hS lK
   go_wp2_with first|(go_at_call 242;(try rw[hwk]);refine mE ?_;refine zy ?_;intro vN wN hS;(try clear hQ);have hQ:=St.fq hS)
   exact wy
theorem OA {w0 w:World} {G:List bt} {v:Value} {xs:List UInt8} (hS:St [] w0 w (.own 5 1 (v) (xs).length ((xs).map B)::G)) (hg:cq [] w0) (o x y:Int) (u:Nat) (hk hn jk jn:Int) (n1 n2:Bool) (ts:List aF) (ls:List Int) (bk vk:Int) (vn:Bool) (wk wn bn:Int) (cs:List cQ) (tv lv cv:Value) (hR:gR [] w0 (⟨o,x,y,u,⟨hk,hn⟩,⟨jk,jn⟩,n1,n2,ts,ls,⟨bk,⟨vk,vn,⟨wk,wn⟩⟩,bn⟩,cs⟩:aa) tv lv cv) (hx:xs.length≤17592186044416) (hm:dx (⟨o,x,y,u,⟨hk,hn⟩,⟨jk,jn⟩,n1,n2,ts,ls,⟨bk,⟨vk,vn,⟨wk,wn⟩⟩,bn⟩,cs⟩:aa)=true) (hl1:ts.length≤1048576) (hl2:ls.length≤1048576) (hl3:cs.length≤1048576) (hu:u<18446744073709551616) (hsh:ag o=8):
 Calls Tryz.prog 193 #[v,.agg (cp (⟨o,x,y,u,⟨hk,hn⟩,⟨jk,jn⟩,n1,n2,ts,ls,⟨bk,⟨vk,vn,⟨wk,wn⟩⟩,bn⟩,cs⟩:aa) tv lv cv).toArray] w fun e w'=>∃v',e= .returned v'∧St [] w0 w' (.own 5 1 (v') (xs++aW (⟨o,x,y,u,⟨hk,hn⟩,⟨jk,jn⟩,n1,n2,ts,ls,⟨bk,⟨vk,vn,⟨wk,wn⟩⟩,bn⟩,cs⟩:aa)).length ((xs++aW (⟨o,x,y,u,⟨hk,hn⟩,⟨jk,jn⟩,n1,n2,ts,ls,⟨bk,⟨vk,vn,⟨wk,wn⟩⟩,bn⟩,cs⟩:aa)).map B)::G):=by
 have hb:=ed (cU hm)
 have ho1: -9223372036854775808≤o:=by have:=hb.1;dsimp only at this;omega
 have ho2:o<9223372036854775808:=by have:=hb.1;have:=hb.2.1;dsimp only at this;omega
 obtain⟨tS,lS,cS⟩:=hR
 obtain⟨ta,tc,rfl⟩:=tS.shape
 obtain⟨la,lc,rfl⟩:=lS.shape
 obtain⟨ca,cc,rfl⟩:=cS.shape
 dsimp only at tS lS cS
 have e0:xs++aW (⟨o,x,y,u,⟨hk,hn⟩,⟨jk,jn⟩,n1,n2,ts,ls,⟨bk,⟨vk,vn,⟨wk,wn⟩⟩,bn⟩,cs⟩:aa)=xs++xe x y++aI u:=by rw[F6 (by exact hsh)];simp
 have E0:=Lib.hid e0
 clear e0
 generalize xs++aW (⟨o,x,y,u,⟨hk,hn⟩,⟨jk,jn⟩,n1,n2,ts,ls,⟨bk,⟨vk,vn,⟨wk,wn⟩⟩,bn⟩,cs⟩:aa)=Y at E0⊢
 have hp:=aQ hm (yF (i:=(⟨o,x,y,u,⟨hk,hn⟩,⟨jk,jn⟩,n1,n2,ts,ls,⟨bk,⟨vk,vn,⟨wk,wn⟩⟩,bn⟩,cs⟩:aa)) hsh)
 have hp1:=hp.1
 simp only[Bool.and_eq_true,bz,decide_eq_true_eq]at hp1
 obtain⟨⟨hx1,hx2⟩,hY⟩:=hp1
 have lX:=az x (by omega)
 have lZ:=az (x+64) (by omega)
 have lY:=az y (by omega)
 have lU:=bG u hu
 have hw:=IntWalk.wrap64_in (x+64) (by omega)
 have hwk:IntKind.i64.wrap (x+64)=x+64:=by rw[IntKind.wrap_i64];omega
 have HK:=Lib.hid hsh
 clear hsh hp
 clear hb hm
 unfold cp
 dsimp only
 unfold xe at E0
 by_cases hy:y=0
 ·rw[if_pos hy]at E0
  have q:(y !=0)=false:=by simp[hy]
  clear hy
  go_enter Tryz.func193,Tryz.ntmps193
  go_wp2_with first|(go_at_call 233;(with_reducible refine(dd ?_ _ ?_ ?_).mono ?_);(·apply St.gl7 (hg:=hg);(exact aw));(·omega);(·omega);rintro e w2 ⟨rfl,hF2⟩;(try clear hQ);refine cB hF2 fun hS hQ=> ?_;(try rw[HK.out]))|(at_builtin;(try clear hQ);refine wb fun vN wN hS hQ=> ?_)|(go_at_call 242;(try rw[hwk]);refine mE ?_;refine zy ?_;intro vN wN hS;(try clear hQ);have hQ:=St.fq hS)|(go_at_call 85;(first|(with_reducible refine(wa u _ (by omega)).mono ?_)|(with_reducible refine(sP u _ (by omega)).mono ?_));rintro e w4 ⟨v4,rfl,s4⟩;(try clear hQ);refine qa s4 fun hS hQ=> ?_)
  exact wy
 ·have q:(y !=0)=true:=by simp[hy]
  rw[if_neg hy,←List.append_assoc]at E0
  clear hy
  go_enter Tryz.func193,Tryz.ntmps193
  go_wp2_with first|(go_at_call 233;(with_reducible refine(dd ?_ _ ?_ ?_).mono ?_);(·apply St.gl7 (hg:=hg);(exact aw));(·omega);(·omega);rintro e w2 ⟨rfl,hF2⟩;(try clear hQ);refine cB hF2 fun hS hQ=> ?_;(try rw[HK.out]))
  go_region_held3 (fun w'=>w'.cell? ⟨w.heap.size,1,none⟩=some (.int .i64 x)∧w'.cell? ⟨w.heap.size,2,none⟩=some (.int .i64 y))
   (first|(go_keep;done)|(simp[hQ];done)) (first|(go_at_call 242;(try rw[hwk]);refine mE ?_;refine zy ?_;intro vN wN hS;(try clear hQ);have hQ:=St.fq hS))
  go_wp2_with first|(at_builtin;(try clear hQ);refine wb fun vN wN hS hQ=> ?_)|(go_at_call 85;(first|(with_reducible refine(wa u _ (by omega)).mono ?_)|(with_reducible refine(sP u _ (by omega)).mono ?_));rintro e w4 ⟨v4,rfl,s4⟩;(try clear hQ);refine qa s4 fun hS hQ=> ?_)
  exact wy
theorem MW {w0 w:World} {G:List bt} {v:Value} {xs:List UInt8} (hS:St [] w0 w (.own 5 1 (v) (xs).length ((xs).map B)::G)) (hg:cq [] w0) (o x y:Int) (u:Nat) (hk hn jk jn:Int) (n1 n2:Bool) (ts:List aF) (ls:List Int) (bk vk:Int) (vn:Bool) (wk wn bn:Int) (cs:List cQ) (tv lv cv:Value) (hR:gR [] w0 (⟨o,x,y,u,⟨hk,hn⟩,⟨jk,jn⟩,n1,n2,ts,ls,⟨bk,⟨vk,vn,⟨wk,wn⟩⟩,bn⟩,cs⟩:aa) tv lv cv) (hx:xs.length≤17592186044416) (hm:dx (⟨o,x,y,u,⟨hk,hn⟩,⟨jk,jn⟩,n1,n2,ts,ls,⟨bk,⟨vk,vn,⟨wk,wn⟩⟩,bn⟩,cs⟩:aa)=true) (hl1:ts.length≤1048576) (hl2:ls.length≤1048576) (hl3:cs.length≤1048576) (hu:u<18446744073709551616) (hsh:ag o=9):
 Calls Tryz.prog 193 #[v,.agg (cp (⟨o,x,y,u,⟨hk,hn⟩,⟨jk,jn⟩,n1,n2,ts,ls,⟨bk,⟨vk,vn,⟨wk,wn⟩⟩,bn⟩,cs⟩:aa) tv lv cv).toArray] w fun e w'=>∃v',e= .returned v'∧St [] w0 w' (.own 5 1 (v') (xs++aW (⟨o,x,y,u,⟨hk,hn⟩,⟨jk,jn⟩,n1,n2,ts,ls,⟨bk,⟨vk,vn,⟨wk,wn⟩⟩,bn⟩,cs⟩:aa)).length ((xs++aW (⟨o,x,y,u,⟨hk,hn⟩,⟨jk,jn⟩,n1,n2,ts,ls,⟨bk,⟨vk,vn,⟨wk,wn⟩⟩,bn⟩,cs⟩:aa)).map B)::G):=by
 have hb:=ed (cU hm)
 have ho1: -9223372036854775808≤o:=by have:=hb.1;dsimp only at this;omega
 have ho2:o<9223372036854775808:=by have:=hb.1;have:=hb.2.1;dsimp only at this;omega
 obtain⟨tS,lS,cS⟩:=hR
 obtain⟨ta,tc,rfl⟩:=tS.shape
 obtain⟨la,lc,rfl⟩:=lS.shape
 obtain⟨ca,cc,rfl⟩:=cS.shape
 dsimp only at tS lS cS
 have e0:xs++aW (⟨o,x,y,u,⟨hk,hn⟩,⟨jk,jn⟩,n1,n2,ts,ls,⟨bk,⟨vk,vn,⟨wk,wn⟩⟩,bn⟩,cs⟩:aa)=xs++eN (j0 u):=by rw[F3 (by exact hsh)]
 have E0:=Lib.hid e0
 clear e0
 generalize xs++aW (⟨o,x,y,u,⟨hk,hn⟩,⟨jk,jn⟩,n1,n2,ts,ls,⟨bk,⟨vk,vn,⟨wk,wn⟩⟩,bn⟩,cs⟩:aa)=Y at E0⊢
 have hp:=aQ hm (ym (i:=(⟨o,x,y,u,⟨hk,hn⟩,⟨jk,jn⟩,n1,n2,ts,ls,⟨bk,⟨vk,vn,⟨wk,wn⟩⟩,bn⟩,cs⟩:aa)) hsh)
 have hp1:=hp.1
 simp only[decide_eq_true_eq]at hp1
 obtain⟨t1,t2,_⟩:=xH hp1
 have lX:=i8 (j0 u) (by omega) (by omega)
 obtain⟨hw1,hw2⟩:=Fi hp1
 have HK:=Lib.hid hsh
 clear hsh hp
 clear hb hm
 unfold cp
 dsimp only
 go_enter Tryz.func193,Tryz.ntmps193
 go_wp2_with first|(go_at_call 233;(with_reducible refine(dd ?_ _ ?_ ?_).mono ?_);(·apply St.gl7 (hg:=hg);(exact aw));(·omega);(·omega);rintro e w2 ⟨rfl,hF2⟩;(try clear hQ);refine cB hF2 fun hS hQ=> ?_;(try rw[HK.out]))|(at_builtin;(try clear hQ);refine wb fun vN wN hS hQ=> ?_)|(go_at_call 243;(with_reducible refine(L0 (j0 u) _ (by omega) (by omega)).mono ?_);rintro e w4 ⟨v4,rfl,s4⟩;(try clear hQ);refine qa s4 fun hS hQ=> ?_)
 exact wy
theorem rM (f1 f2:Bool) (s1 s2:List aC) (k1 k2:Int) (p1 p2 r1 r2:List aF) (l1 l2:List ey) {b1 b2 b3 b4:Bool} (h1:decide (s1=s2)=b1) (h2:decide (p1=p2)=b2) (h3:decide (r1=r2)=b3) (h4:decide (l1=l2)=b4):
 decide ((⟨f1,s1,⟨k1,p1,r1,l1⟩⟩:bu)=⟨f2,s2,⟨k2,p2,r2,l2⟩⟩)=((f1==f2)&&b1&&(k1==k2)&&b2&&b3&&b4):=by
 subst h1 h2 h3 h4
 rw[Bool.eq_iff_iff]
 simp only[decide_eq_true_eq,bu.mk.injEq,iW.mk.injEq,Bool.and_eq_true,beq_iff_eq]
 constructor
 ·rintro⟨a,b,c,d,e,f⟩;exact⟨⟨⟨⟨⟨a,b⟩,c⟩,d⟩,e⟩,f⟩
 ·rintro⟨⟨⟨⟨⟨a,b⟩,c⟩,d⟩,e⟩,f⟩;exact⟨a,b,c,d,e,f⟩
theorem Ol (w:World) (t u:bu) (hv pv rv fv hv' pv' rv' fv':Value) (h:kb [] w t hv pv rv fv) (h':kb [] w u hv' pv' rv' fv'):
 Calls Tryz.prog 109 #[.agg #[.bool t.final_,hv,.int .i64 t.comp.kind,pv,rv,fv],.agg #[.bool u.final_,hv',.int .i64 u.comp.kind,pv',rv',fv']] w fun e w'=>e= .returned (.bool (decide (t=u)))∧Fr [] w w':=by
 obtain⟨f1,s1,⟨k1,p1,r1,l1⟩⟩:=t
 obtain⟨f2,s2,⟨k2,p2,r2,l2⟩⟩:=u
 obtain⟨x1,x2,x3,x4⟩:=h
 obtain⟨y1,y2,y3,y4⟩:=h'
 dsimp only at x1 x2 x3 x4 y1 y2 y3 y4⊢
 obtain⟨a1,c1,rfl⟩:=x1.shape
 obtain⟨a2,c2,rfl⟩:=x2.shape
 obtain⟨a3,c3,rfl⟩:=x3.shape
 obtain⟨a4,c4,rfl⟩:=x4.shape
 obtain⟨d1,e1,rfl⟩:=y1.shape
 obtain⟨d2,e2,rfl⟩:=y2.shape
 obtain⟨d3,e3,rfl⟩:=y3.shape
 obtain⟨d4,e4,rfl⟩:=y4.shape
 by_cases hf:f1=f2
 ·subst hf
  have fo:=((Fr.refl [] w).alloc (.cells #[.bool f1,.slice a1 s1.length c1,.int .i64 k1,.slice a2 p1.length c2,.slice a3 r1.length c3,.slice a4 l1.length c4] 136)).alloc (.cells #[.bool f1,.slice d1 s2.length e1,.int .i64 k2,.slice d2 p2.length e2,.slice d3 r2.length e3,.slice d4 l2.length e4] 136)
  have L1:bB ((w.alloc (.cells #[.bool f1,.slice a1 s1.length c1,.int .i64 k1,.slice a2 p1.length c2,.slice a3 r1.length c3,.slice a4 l1.length c4] 136)).alloc (.cells #[.bool f1,.slice d1 s2.length e1,.int .i64 k2,.slice d2 p2.length e2,.slice d3 r2.length e3,.slice d4 l2.length e4] 136)) w.heap.size [.bool f1,.slice a1 s1.length c1,.int .i64 k1,.slice a2 p1.length c2,.slice a3 r1.length c3,.slice a4 l1.length c4] 136:=(bB.new _ _ _).alloc _
  have L2:bB ((w.alloc (.cells #[.bool f1,.slice a1 s1.length c1,.int .i64 k1,.slice a2 p1.length c2,.slice a3 r1.length c3,.slice a4 l1.length c4] 136)).alloc (.cells #[.bool f1,.slice d1 s2.length e1,.int .i64 k2,.slice d2 p2.length e2,.slice d3 r2.length e3,.slice d4 l2.length e4] 136)) (w.heap.size+1) [.bool f1,.slice d1 s2.length e1,.int .i64 k2,.slice d2 p2.length e2,.slice d3 r2.length e3,.slice d4 l2.length e4] 136:=LY (by simp) [.bool f1,.slice d1 s2.length e1,.int .i64 k2,.slice d2 p2.length e2,.slice d3 r2.length e3,.slice d4 l2.length e4] _
  have z1:=x1.fr fo (by simp)
  have z2:=x2.fr fo (by simp)
  have z3:=x3.fr fo (by simp)
  have z4:=x4.fr fo (by simp)
  have v1:=y1.fr fo (by simp)
  have v2:=y2.fr fo (by simp)
  have v3:=y3.fr fo (by simp)
  have v4:=y4.fr fo (by simp)
  clear x1 x2 x3 x4 y1 y2 y3 y4
  go_enter Tryz.func109,Tryz.ntmps109
  go_wp2_with first|(go_at_call 177;(with_reducible refine(Ew _ _ _ s1 s2 z1 v1).mono ?_);rintro e w1 ⟨rfl,ff1⟩;generalize hb1:decide (s1=s2)=b1;have Hb1:=Lib.hid hb1;clear hb1;have L11:=L1.fr ff1 (by simp);have L21:=L2.fr ff1 (by simp);have hLC1:=L11.cell;have hLF1:=L11.frz;have hLT1:=L11.lt;have hLC2:=L21.cell;have hLF2:=L21.frz;have hLT2:=L21.lt;have z21:=z2.fr ff1 (by simp);have v21:=v2.fr ff1 (by simp))|(go_at_call 178;(with_reducible refine(nK _ _ _ p1 p2 z21 v21).mono ?_);rintro e w2 ⟨rfl,ff2⟩;generalize hb2:decide (p1=p2)=b2;have Hb2:=Lib.hid hb2;clear hb2;have L12:=L11.fr ff2 (by simp);have L22:=L21.fr ff2 (by simp);have hLC3:=L12.cell;have hLF3:=L12.frz;have hLT3:=L12.lt;have hLC4:=L22.cell;have hLF4:=L22.frz;have hLT4:=L22.lt;have z32:=z3.fr (ff1.trans ff2) (by simp);have v32:=v3.fr (ff1.trans ff2) (by simp))|(go_at_call 178;(with_reducible refine(nK _ _ _ r1 r2 z32 v32).mono ?_);rintro e w3 ⟨rfl,ff3⟩;generalize hb3:decide (r1=r2)=b3;have Hb3:=Lib.hid hb3;clear hb3;have L13:=L12.fr ff3 (by simp);have L23:=L22.fr ff3 (by simp);have hLC5:=L13.cell;have hLF5:=L13.frz;have hLT5:=L13.lt;have hLC6:=L23.cell;have hLF6:=L23.frz;have hLT6:=L23.lt;have z43:=z4.fr ((ff1.trans ff2).trans ff3) (by simp);have v43:=v4.fr ((ff1.trans ff2).trans ff3) (by simp))|(go_at_call 179;(with_reducible refine(BN _ _ _ l1 l2 z43 v43).mono ?_);rintro e w4 ⟨rfl,ff4⟩;generalize hb4:decide (l1=l2)=b4;have Hb4:=Lib.hid hb4;clear hb4)
  all_goals
   go_ret
   refine⟨congrArg Ending.returned (congrArg Value.bool ?_),by first|exact fo.trans (((ff1.trans ff2).trans ff3).trans ff4)|exact fo.trans ((ff1.trans ff2).trans ff3)|exact fo.trans (ff1.trans ff2)|exact fo.trans ff1⟩
   first|rw[rM _ _ _ _ _ _ _ _ _ _ _ _ Hb1.out Hb2.out Hb3.out Hb4.out]|rw[rM _ _ _ _ _ _ _ _ _ _ _ _ Hb1.out Hb2.out Hb3.out rfl]|rw[rM _ _ _ _ _ _ _ _ _ _ _ _ Hb1.out Hb2.out rfl rfl]|rw[rM _ _ _ _ _ _ _ _ _ _ _ _ Hb1.out rfl rfl rfl]
   simp_all
 ·have g:(f1==f2)=false:=by simpa using hf
  rw[rM _ _ _ _ _ _ _ _ _ _ _ _ rfl rfl rfl rfl,g]
  clear hf
  have fo:=((Fr.refl [] w).alloc (.cells #[.bool f1,.slice a1 s1.length c1,.int .i64 k1,.slice a2 p1.length c2,.slice a3 r1.length c3,.slice a4 l1.length c4] 136)).alloc (.cells #[.bool f2,.slice d1 s2.length e1,.int .i64 k2,.slice d2 p2.length e2,.slice d3 r2.length e3,.slice d4 l2.length e4] 136)
  go_enter Tryz.func109,Tryz.ntmps109
  go_wp2
  go_ret
  exact⟨by simp,fo⟩
end Go.Proofs.YtpdlmdlkecnpgaaGreatDoor
