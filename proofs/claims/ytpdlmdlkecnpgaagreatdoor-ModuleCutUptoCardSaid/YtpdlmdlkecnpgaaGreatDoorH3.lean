/- Texts: LawK0 TbinP TbinL TbinL2. -/
import Derived.Test.YtpdlmdlkecnpgaaGreatDoorH0
import Derived.Test.YtpdlmdlkecnpgaaGreatDoorCards
import Derived.Test.YtpdlmdlkecnpgaaGreatDoorTie
import Derived.Test.YtpdlmdlkecnpgaaGreatDoorH1
import Derived.WalkKit
import Derived.ProofKit
import Derived.OpenShut
import Derived.Deep.DeepHandedRow
import Derived.Lib.LaidTab
set_option linter.unusedSimpArgs false
set_option linter.unusedVariables false
namespace Go.Proofs.YtpdlmdlkecnpgaaGreatDoor
open Go.ChangeShapes Go.WideShapes Go.ChangeAt Go.RowKit
theorem own:ownKnob Tryz.prog.godebug=none:=by kernel_rfl
theorem Qh:laidOutB Tryz.prog=true:=by kernel_rfl
theorem qp {H:Type} {enc:TypeId×Value→H} {P:Program} (hl:laidOutB P=true) {W W':World} (hb:Below W.heap.size W W'):∀(ts:List TypeId) (vs:List Value) (ds:List (DataW H)) (ps:List MemPlace),
 (∀t,t∈ts→P.readableRec t=true∧t<P.types.size)→(∀x∈ps,x.block<W.heap.size)→DataW.TrodAll enc P W 0 (fun _=>true) true ts vs ds ps→
 DataW.TrodAll enc P W' 0 (fun b=>decide (b<W.heap.size)) true ts vs ds ps
 | [],vs,ds,ps,_,_,h=>by
  obtain⟨rfl,rfl,rfl⟩:=trodAll_nil h
  exact trodAll_mk0
 |t::ts,vs,ds,ps,ht,hlt,h=>by
  obtain⟨v,vs',d,ds',p,q,rfl,rfl,rfl,h1,h2⟩:=trodAll_cons h
  exact trodAll_cons_mk (Below.trod hl (ht t (by simp)).1 (ht t (by simp)).2 h1 hb (fun x hx=>hlt x (List.mem_append_left _ hx)))
   (qp hl hb ts vs' ds' q (fun u hu=>ht u (List.mem_cons_of_mem _ hu)) (fun x hx=>hlt x (List.mem_append_right _ hx)) h2)
theorem IL:Tryz.prog.underlying 4=some .bool:=by kernel_rfl
theorem BO {H:Type} {enc:TypeId×Value→H} {fn:Func} {s:ChangeSpec} {W W':World} {args:Array Value} {ds gs:List (DataW H)} {before:List MemPlace}
 (hW:DataW.Whole enc Tryz.prog fn.params.toList s.vars false W args.toList ds gs before) (hv:s.vars= []) (hr:fn.resultTypes= #[4])
 (hp:∀t,t∈fn.params.toList→Tryz.prog.readableRec t=true∧t<Tryz.prog.types.size) (hs:s.fn H (ds++ [])={results:= [.lit (.bool true)],args:=ds}) (hb:Fr [] W W'):
 s.post enc Tryz.prog fn false true false false W args (.bool true) W':=by
 have hW':=hW
 obtain⟨p,q,hA,hV,rfl,hfz,hnd⟩:=hW
 rw[hv]at hV
 obtain⟨rfl,rfl⟩:=trodVars_none hV
 have hbl:=hb.below
 refine⟨ds,[],p++ [],[],p,[],hW',?_,?_,?_,hbl.frame _,fun h=>by cases h⟩
 ·rw[hs,hr]
  exact trodAll_mk1 (shut_bool IL true)
 ·rw[hs]
  exact qp Qh hbl _ _ _ _ hp (fun x hx=>by simpa using hW'.lt x (by simpa using hx)) hA
 ·rw[hs,hv]
  rfl
structure aC where
 kind:Int
 n:Int
deriving DecidableEq,Inhabited
structure aF where
 kind:Int
 null:Bool
 heap:aC
deriving DecidableEq,Inhabited
structure ey where
 pack:Int
 val:aF
 mut_:Bool
deriving DecidableEq,Inhabited
structure iW where
 kind:Int
 params:List aF
 results:List aF
 fields:List ey
deriving DecidableEq,Inhabited
structure bu where
 final_:Bool
 supers:List aC
 comp:iW
deriving DecidableEq,Inhabited
def aC.zero:aC:=⟨0,0⟩
def aF.zero:aF:=⟨0,false,⟨0,0⟩⟩
def iW.zero:iW:=⟨0,[],[],[]⟩
def bu.zero:bu:=⟨false,[],⟨0,[],[],[]⟩⟩
structure ax where
 at_:Nat
 err:Int
 errAt:Int
deriving DecidableEq,Inhabited
def ax.fail (s:ax) (e a:Int):ax:=if s.err=0∧e≠0 then {s with err:=e,errAt:=a}else s
def ax.refuse (s:ax) (e:Int) (a:Nat):ax:={s.fail e a with at_:=a}
def ax.form (s:ax) (a:Nat):ax:=if s.err=0 then s.refuse 60 a else s
def ax.next (s:ax):ax:={s with at_:=s.at_+1}
def ax.told {α:Type} (s:ax) (z t:α):α:=if s.err=0 then t else z
def bF (bs:List UInt8) (s:ax):Nat:=if s.err=0∧s.at_<bs.length then(bs.getD s.at_ 0).toNat else 0
def ai (bs:List UInt8) (s:ax):Nat×ax:=
 if s.err=0∧s.at_<bs.length then((bs.getD s.at_ 0).toNat,s.next)else(0,s.fail 10 s.at_)
def rU (bs:List UInt8) (bits:Nat) (s:ax):Nat×ax:=
 if s.err=0 then
  if (ak bs s.at_ bits false).2.2=0 then((ak bs s.at_ bits false).1,{s with at_:=(ak bs s.at_ bits false).2.1})
  else(0,s.fail (ak bs s.at_ bits false).2.2 s.at_)
 else(0,s)
def rS (bs:List UInt8) (bits:Nat) (s:ax):Int×ax:=
 if s.err=0 then
  if (ak bs s.at_ bits true).2.2=0 then(fC (ak bs s.at_ bits true).1,{s with at_:=(ak bs s.at_ bits true).2.1})
  else(0,s.fail (ak bs s.at_ bits true).2.2 s.at_)
 else(0,s)
def af (bs:List UInt8) (s:ax):Nat×ax:=
 if bs.length-(rU bs 32 s).2.at_< (rU bs 32 s).1 then(0,(rU bs 32 s).2.refuse 10 s.at_)else rU bs 32 s
def dB:List Int:= [11,5,4,3,2,1,9,7,6,10,8,12]
def cz (c:Nat):Int:=if c<105∨117≤c then 0 else dB.getD (c-105) 0
def co (bs:List UInt8) (s:ax):aC×ax:=
 if cz (bF bs s)=0 then
  if (rS bs 33 s).1<0 then(aC.zero,(rS bs 33 s).2.refuse 60 s.at_)
  else((rS bs 33 s).2.told aC.zero ⟨13,(rS bs 33 s).1⟩,(rS bs 33 s).2)
 else(⟨cz (bF bs s),0⟩,s.next)
def bw (bs:List UInt8) (s:ax):aF×ax:=
 if (ai bs s).1=127 then(⟨1,false,⟨0,0⟩⟩,(ai bs s).2)
 else if (ai bs s).1=126 then(⟨2,false,⟨0,0⟩⟩,(ai bs s).2)
 else if (ai bs s).1=100∨(ai bs s).1=99 then
  ((co bs (ai bs s).2).2.told aF.zero ⟨3,(ai bs s).1==99,(co bs (ai bs s).2).1⟩,(co bs (ai bs s).2).2)
 else if (ai bs s).1=125∨(ai bs s).1=124∨(ai bs s).1=123 then(aF.zero,(ai bs s).2.refuse 61 s.at_)
 else if cz (ai bs s).1=0 then(aF.zero,(ai bs s).2.form s.at_)
 else(⟨3,true,⟨cz (ai bs s).1,0⟩⟩,(ai bs s).2)
def av {α:Type} (f:ax→α×ax):Nat→ax→List α×ax
 |0,s=>([],s)
 |n+1,s=>if s.err=0 then((f s).1::(av f n (f s).2).1,(av f n (f s).2).2)else([],s)
def bX {α:Type} (bs:List UInt8) (f:ax→α×ax) (s:ax):List α×ax:=
 ((av f (af bs s).1 (af bs s).2).2.told [] (av f (af bs s).1 (af bs s).2).1,(av f (af bs s).1 (af bs s).2).2)
def eT (bs:List UInt8) (s:ax):List aF×ax:=bX bs (bw bs) s
def bR (bs:List UInt8) (s:ax):aC×ax:=(⟨13,(rU bs 32 s).1⟩,(rU bs 32 s).2)
def fY (bs:List UInt8) (s:ax):(Int×aF)×ax:=
 if bF bs s=120 then((8,⟨1,false,⟨0,0⟩⟩),s.next)
 else if bF bs s=119 then((16,⟨1,false,⟨0,0⟩⟩),s.next)
 else((0,(bw bs s).1),(bw bs s).2)
def sW (bs:List UInt8) (s:ax):Bool×ax:=
 ((ai bs s).1==1,if 1< (ai bs s).1 then(ai bs s).2.form s.at_ else(ai bs s).2)
def bE (bs:List UInt8) (s:ax):ey×ax:=
 (⟨(fY bs s).1.1,(fY bs s).1.2,(sW bs (fY bs s).2).1⟩,(sW bs (fY bs s).2).2)
def et (bs:List UInt8) (s:ax):iW×ax:=
 if (ai bs s).1=96 then
  (⟨1,(eT bs (ai bs s).2).1,(eT bs (eT bs (ai bs s).2).2).1,[]⟩,(eT bs (eT bs (ai bs s).2).2).2)
 else if (ai bs s).1=95 then(⟨2,[],[],(bX bs (bE bs) (ai bs s).2).1⟩,(bX bs (bE bs) (ai bs s).2).2)
 else if (ai bs s).1=94 then(⟨3,[],[],[(bE bs (ai bs s).2).1]⟩,(bE bs (ai bs s).2).2)
 else(iW.zero,(ai bs s).2.form s.at_)
def iG (bs:List UInt8) (s:ax):(Bool×List aC)×ax:=
 if bF bs s=80∨bF bs s=79 then((bF bs s==79,(bX bs (bR bs) s.next).1),(bX bs (bR bs) s.next).2)
 else((true,[]),s)
def dc (bs:List UInt8) (s:ax):bu×ax:=
 ((et bs (iG bs s).2).2.told bu.zero ⟨(iG bs s).1.1,(iG bs s).1.2,(et bs (iG bs s).2).1⟩,(et bs (iG bs s).2).2)
def gy (bs:List UInt8) (s:ax):List bu×ax:=
 if bF bs s=78 then bX bs (dc bs) s.next else((dc bs s).2.told [] [(dc bs s).1],(dc bs s).2)
def ah:ax:=⟨0,0,0⟩
def bQ (h:aC):Bool:=decide (h.kind=13∧0≤h.n∧h.n≤4294967295)
def jd (h:aC):Bool:=decide (1≤h.kind∧h.kind≤12∧h.n=0)
def aj (v:aF):Bool:=
 if v.kind=1∨v.kind=2 then decide (v=⟨v.kind,false,⟨0,0⟩⟩)
 else if v.kind=3 then jd v.heap||bQ v.heap
 else false
def bM (f:ey):Bool:=
 if f.pack=0 then aj f.val
 else if f.pack=8∨f.pack=16 then decide (f.val=⟨1,false,⟨0,0⟩⟩)
 else false
def bP (s:bu):Bool:=
 s.supers.all bQ&&(s.comp.params.all aj&&s.comp.results.all aj&&s.comp.fields.all bM)&&
 (if s.comp.kind=1 then s.comp.fields.length==0
  else if s.comp.kind=2 then s.comp.params.length+s.comp.results.length==0
  else if s.comp.kind=3 then s.comp.params.length+s.comp.results.length==0&&s.comp.fields.length==1
  else false)
def nc (k:Int):List UInt8:=((List.range 12).filter fun i=>dB.getD i 0==k).map fun i=>UInt8.ofNat (105+i)
def d8 (h:aC):List UInt8:=if h.kind=13 then eN h.n else nc h.kind
def bZ (v:aF):List UInt8:=
 if v.kind=1 then [127]else if v.kind=2 then [126]
 else if v.null=false then 100::d8 v.heap
 else if v.heap.kind=13 then 99::d8 v.heap
 else d8 v.heap
def ae {α:Type} (f:α→List UInt8) (l:List α):List UInt8:=aI l.length++l.flatMap f
def aZ (h:aC):List UInt8:=aI h.n.toNat
def bj (f:ey):List UInt8:=
 (if f.pack=8 then [120]else if f.pack=16 then [119]else bZ f.val)++ [if f.mut_ then 1 else 0]
def dg (s:bu):List UInt8:=
 (if s.final_=false then 80::ae aZ s.supers else if 0<s.supers.length then 79::ae aZ s.supers else [])++
 (if s.comp.kind=1 then 96::(ae bZ s.comp.params++ae bZ s.comp.results)
  else if s.comp.kind=2 then 95::ae bj s.comp.fields
  else 94::s.comp.fields.head?.elim [] bj)
def qO (l:List bu):List UInt8:=
 if l.all bP then
  (match l with
   | []=> []
   | [s]=>dg s
   |l=>78::ae dg l)
 else []
abbrev bb (α:Type):=List UInt8→ax→α×ax
def ax.adv (s:ax) (k:Nat):ax:={s with at_:=s.at_+k}
theorem wY (s:ax):s.adv 0=s:=rfl
theorem dt (s:ax) (a b:Nat):(s.adv a).adv b=s.adv (a+b):=by simp[ax.adv,Nat.add_assoc]
@[simp] theorem adv_err (s : ax) (k : Nat) : (s.adv k).err = s.err := rfl
@[simp] theorem adv_errAt (s : ax) (k : Nat) : (s.adv k).errAt = s.errAt := rfl
@[simp] theorem adv_at (s : ax) (k : Nat) : (s.adv k).at_ = s.at_ + k := rfl
def ci {α:Type} (F:bb α):Prop:=∀bs s,s.err≠0→(F bs s).2=s
def cD {α:Type} (F:bb α) (P:α→Nat→Prop):Prop:=
 ∀bs s,s.err=0→s.at_≤bs.length→(F bs s).2.err=0→∃k,(F bs s).2=s.adv k∧s.at_+k≤bs.length∧P (F bs s).1 k
def xD (s:ax) (c:Nat):Prop:=s.err=10∧0≤s.errAt∧s.errAt≤c
def oe {α:Type} (F:bb α) (bs:List UInt8) (s:ax) (k c:Nat):Prop:=
 (s.at_+k≤c→F (bs.take c) s=F bs s)∧(c<s.at_+k→xD (F (bs.take c) s).2 c)
def SN {α:Type} (F:bb α):Prop:=
 ∀bs s k,s.err=0→s.at_≤bs.length→(F bs s).2=s.adv k→∀c,s.at_<c→c≤bs.length→oe F bs s k c
def pZ {α:Type} (F:bb α):Prop:=
 ∀bs s k,s.err=0→s.at_≤bs.length→(F bs s).2=s.adv k→∀c,s.at_≤c→c≤bs.length→oe F bs s k c
def aJ {α β:Type} (F:bb α) (G:Nat→α→bb β):bb β:=fun bs s=>G s.at_ (F bs s).1 bs (F bs s).2
def cM {α β:Type} (F:bb α) (m:α→β):bb β:=fun bs s=>(m (F bs s).1,(F bs s).2)
theorem cD.mono {α:Type} {F:bb α} {P Q:α→Nat→Prop} (h:cD F P) (hq:∀x k,P x k→Q x k):cD F Q:=
 fun bs s he ha h0=>let⟨k,h1,h2,h3⟩:=h bs s he ha h0;⟨k,h1,h2,hq _ _ h3⟩
theorem pR {s:ax} {a b:Nat} (h:s.adv a=s.adv b):a=b:=by
 have:=congrArg ax.at_ h;simp at this;exact this
theorem cD.bind {α β:Type} {F:bb α} {G:Nat→α→bb β} {P:α→Nat→Prop} {Q:α→β→Nat→Prop} (hF:cD F P) (hFs:ci F) (hZ:∀(bs:List UInt8) (s:ax),(F bs s).2.err≠0→ci (G s.at_ (F bs s).1))
 (hG:∀a x k,P x k→cD (G a x) (Q x)):cD (aJ F G) (fun y k=>∃x k1 k2,k=k1+k2∧P x k1∧Q x y k2):=by
 intro bs s he ha h0
 have h1:(F bs s).2.err=0:=by
  by_cases hc:(F bs s).2.err=0
  ·exact hc
  ·have:=hZ bs s hc bs (F bs s).2 hc
   unfold aJ at h0
   rw[this]at h0
   exact absurd h0 hc
 obtain⟨k1,e1,l1,p1⟩:=hF bs s he ha h1
 obtain⟨k2,e2,l2,p2⟩:=hG s.at_ _ _ p1 bs (F bs s).2 h1 (by rw[e1];exact l1) h0
 refine⟨k1+k2,?_,?_,_,k1,k2,rfl,p1,p2⟩
 ·unfold aJ;rw[e2,e1,dt]
 ·rw[e1]at l2;simp at l2;omega
theorem NJ {α β:Type} {F:bb α} {G:Nat→α→bb β} {P:α→Nat→Prop} {Q:α→β→Nat→Prop} (hF:cD F P) (hZ:∀(bs:List UInt8) (s:ax),(F bs s).2.err≠0→ci (G s.at_ (F bs s).1))
 (hG:∀a x k,P x k→cD (G a x) (Q x)) {bs:List UInt8} {s:ax} {k:Nat} (he:s.err=0) (ha:s.at_≤bs.length) (hk:(aJ F G bs s).2=s.adv k):
 ∃k1 k2,k=k1+k2∧(F bs s).2=s.adv k1∧s.at_+k1≤bs.length∧P (F bs s).1 k1∧(G s.at_ (F bs s).1 bs (s.adv k1)).2=(s.adv k1).adv k2:=by
 have h1:(F bs s).2.err=0:=by
  by_cases hc:(F bs s).2.err=0
  ·exact hc
  ·have:=hZ bs s hc bs (F bs s).2 hc
   unfold aJ at hk
   rw[this]at hk
   rw[hk]at hc
   exact absurd he hc
 obtain⟨k1,e1,l1,p1⟩:=hF bs s he ha h1
 unfold aJ at hk
 rw[e1]at hk
 obtain⟨k2,e2,l2,p2⟩:=hG s.at_ _ _ p1 bs (s.adv k1) he l1 (by rw[hk];exact he)
 refine⟨k1,k2,?_,e1,l1,p1,e2⟩
 rw[hk,dt]at e2
 exact pR e2
theorem tP {α β:Type} {F:bb α} {G:Nat→α→bb β} {P:α→Nat→Prop} {Q:α→β→Nat→Prop} (hF:cD F P)
 (hZ:∀(bs:List UInt8) (s:ax),(F bs s).2.err≠0→ci (G s.at_ (F bs s).1)) (hG:∀a x k,P x k→cD (G a x) (Q x)) (hGc:∀a x k,P x k→pZ (G a x))
 {bs:List UInt8} {s:ax} {k c:Nat} (he:s.err=0) (ha:s.at_≤bs.length) (hk:(aJ F G bs s).2=s.adv k) (hc:c≤bs.length)
 (hFc:∀k1,(F bs s).2=s.adv k1→oe F bs s k1 c):oe (aJ F G) bs s k c:=by
 obtain⟨k1,k2,rfl,e1,l1,p1,e2⟩:=NJ hF hZ hG he ha hk
 obtain⟨f1,f2⟩:=hFc k1 e1
 rcases Nat.lt_or_ge c (s.at_+k1)with h|h
 ·refine⟨by omega,fun _=> ?_⟩
  have hE:=f2 h
  unfold aJ
  rw[hZ _ _ (by rw[hE.1];decide) (bs.take c) _ (by rw[hE.1];decide)]
  exact hE
 ·have hFe:=f1 h
  have:=hGc s.at_ _ _ p1 bs (s.adv k1) k2 he l1 e2 c (by simpa using h) hc
  unfold oe at this
  simp only[adv_at,Nat.add_assoc]at this
  unfold oe aJ
  rw[hFe,e1]
  simpa only[Nat.add_assoc]using this
theorem pZ.bind {α β:Type} {F:bb α} {G:Nat→α→bb β} {P:α→Nat→Prop} {Q:α→β→Nat→Prop} (hF:cD F P) (hFc:pZ F)
 (hZ:∀(bs:List UInt8) (s:ax),(F bs s).2.err≠0→ci (G s.at_ (F bs s).1)) (hG:∀a x k,P x k→cD (G a x) (Q x)) (hGc:∀a x k,P x k→pZ (G a x)):pZ (aJ F G):=
 fun bs s _ he ha hk c hac hc=>tP hF hZ hG hGc he ha hk hc fun k1 h1=>hFc bs s k1 he ha h1 c hac hc
theorem SN.bind {α β:Type} {F:bb α} {G:Nat→α→bb β} {P:α→Nat→Prop} {Q:α→β→Nat→Prop} (hF:cD F P) (hFc:SN F)
 (hZ:∀(bs:List UInt8) (s:ax),(F bs s).2.err≠0→ci (G s.at_ (F bs s).1)) (hG:∀a x k,P x k→cD (G a x) (Q x)) (hGc:∀a x k,P x k→pZ (G a x)):SN (aJ F G):=
 fun bs s _ he ha hk c hac hc=>tP hF hZ hG hGc he ha hk hc fun k1 h1=>hFc bs s k1 he ha h1 c hac hc
def mH {α:Type} (F G:bb α):Prop:=∀bs s,(F bs s).2=(G bs s).2∧((G bs s).2.err=0→(F bs s).1=(G bs s).1)
theorem mH.stuck {α:Type} {F G:bb α} (h:mH F G) (hG:ci G):ci F:=fun bs s he=>(h bs s).1.trans (hG bs s he)
theorem mH.back {α:Type} {F G:bb α} {P:α→Nat→Prop} (h:mH F G) (hG:cD G P):cD F P:=fun bs s he ha h0=>by
 have h1:=h bs s
 rw[h1.1]at h0
 obtain⟨k,a,b,c⟩:=hG bs s he ha h0
 exact⟨k,h1.1.trans a,b,by rw[h1.2 h0];exact c⟩
theorem mH.cut {α:Type} {F G:bb α} (h:mH F G) (hG:pZ G):pZ F:=fun bs s k he ha hk c hac hc=>by
 have h1:=h bs s
 rw[h1.1]at hk
 obtain⟨a,b⟩:=hG bs s k he ha hk c hac hc
 have h2:=h (bs.take c) s
 refine⟨fun hh=> ?_,fun hh=>by rw[h2.1];exact b hh⟩
 have e:=a hh
 have h0:(G bs s).2.err=0:=by rw[hk];exact he
 refine Prod.ext ?_ ?_
 ·rw[h2.2 (by rw[e];exact h0),h1.2 h0,e]
 ·rw[h2.1,h1.1,e]
theorem gS {α β:Type} {F:bb α} {P:α→Nat→Prop} {Q:β→Nat→Prop} (h:cD F P) (m:α→β) (hq:∀x k,P x k→Q (m x) k):cD (cM F m) Q:=
 fun bs s he ha h0=>let⟨k,h1,h2,h3⟩:=h bs s he ha h0;⟨k,h1,h2,hq _ _ h3⟩
theorem BB {α β:Type} {F:bb α} (h:pZ F) (m:α→β):pZ (cM F m):=fun bs s k he ha hk c hac hc=>by
 obtain⟨a,b⟩:=h bs s k he ha hk c hac hc
 exact⟨fun hh=>by unfold cM;rw[a hh],b⟩
def kc {α:Type} (x:α):bb α:=fun _ s=>(x,s)
theorem kT {α:Type} (x:α):ci (kc x):=fun _ _ _=>rfl
theorem mM {α:Type} {x:α} {Q:α→Nat→Prop} (h:Q x 0):cD (kc x) Q:=fun _ s _ ha _=>⟨0,(wY s).symm,by omega,h⟩
theorem oL {α:Type} (x:α):pZ (kc x):=fun bs s k he ha hk c hac hc=>by
 have:k=0:=by have:=congrArg ax.at_ hk;simp[kc]at this;exact this
 subst this
 exact⟨fun _=>rfl,fun h=>by omega⟩
def og {α:Type} (F:bb α):Prop:=∀bs s,s.err=0→(F bs s).2.err≠0
theorem og.back {α:Type} {F:bb α} (h:og F) (Q:α→Nat→Prop):cD F Q:=fun bs s he _ h0=>absurd h0 (h bs s he)
theorem og.cut {α:Type} {F:bb α} (h:og F):pZ F:=fun bs s k he _ hk=>absurd (by rw[hk];exact he) (h bs s he)
theorem fU {s:ax} (h:s.err≠0) (e a:Int):s.fail e a=s:=by simp[ax.fail,h]
theorem eg {s:ax} (h:s.err=0) {e:Int} (he:e≠0) (a:Int):s.fail e a={s with err:=e,errAt:=a}:=by simp[ax.fail,h,he]
theorem wD {s:ax} (h:s.err≠0) (a:Nat):s.form a=s:=by simp[ax.form,h]
theorem rr {s:ax} (h:s.err=0) (a:Nat):(s.form a).err=60:=by simp[ax.form,ax.refuse,ax.fail,h]
theorem lG {s:ax} (h:s.err=0) {e:Int} (he:e≠0) (a:Nat):(s.refuse e a).err=e:=by simp[ax.refuse,ax.fail,h,he]
theorem eF:ci ai:=fun bs s h=>by simp[ai,h,fU h]
theorem kO (bs:List UInt8) (s:ax) (h:(ai bs s).2.err≠0):(ai bs s).1=0:=by
 unfold ai at h⊢
 split at h
 ·rename_i hc;exact absurd hc.1 h
 ·rename_i hc;rw[if_neg hc]
theorem iw:cD ai fun x k=>k=1∧x<256:=fun bs s he ha h0=>by
 unfold ai at h0⊢
 split at h0
 ·rename_i hc
  rw[if_pos hc]
  exact⟨1,rfl,by omega,rfl,by have:=(bs.getD s.at_ 0).toNat_lt;omega⟩
 ·rw[eg he (by decide)]at h0
  simp at h0
theorem yB (bs:List UInt8) (i c:Nat) (h:i<c):(bs.take c).getD i 0=bs.getD i 0:=by
 simp[List.getD,List.getElem?_take,h]
theorem sR:pZ ai:=fun bs s k he ha hk c hac hc=>by
 have hk1:k=1∧s.at_<bs.length:=by
  unfold ai at hk
  split at hk
  ·rename_i h;exact⟨(pR (a:=1) hk).symm,h.2⟩
  ·rw[eg he (by decide)]at hk
   have:=congrArg ax.err hk;simp[he]at this
 obtain⟨rfl,hl⟩:=hk1
 refine⟨fun h=> ?_,fun h=> ?_⟩
 ·have h1:s.at_< (bs.take c).length:=by simp;omega
  unfold ai
  rw[if_pos ⟨he,h1⟩,if_pos ⟨he,hl⟩,yB _ _ _ (by omega)]
 ·have h1:¬s.at_< (bs.take c).length:=by simp;omega
  unfold ai
  rw[if_neg (fun hh=>h1 hh.2),eg he (by decide)]
  exact⟨rfl,by simp,by simp;omega⟩
theorem oJ (bits:Nat):ci (fun bs=>rU bs bits):=fun bs s h=>by simp[rU,h]
theorem qY (bits:Nat):ci (fun bs=>rS bs bits):=fun bs s h=>by simp[rS,h]
theorem Fv (bs:List UInt8) (bits:Nat) (s:ax) (h:(rU bs bits s).2.err≠0):(rU bs bits s).1=0:=by
 unfold rU at h⊢
 exact V2
theorem uL (bs:List UInt8) (bits:Nat) (s:ax) (h:(rS bs bits s).2.err≠0):(rS bs bits s).1=0:=by
 unfold rS at h⊢
 exact V2
theorem eH {bs:List UInt8} {at_ bits:Nat} {sg:Bool} (h:at_≤bs.length):ak bs at_ bits sg=dV sg bits (bs.drop at_) at_ 0 0:=by simp[ak,h]
theorem uw {bs:List UInt8} {at_ bits:Nat} {sg:Bool} {v nx c:Nat} (h:ak bs at_ bits sg=(v,nx,0)) (ha:at_≤bs.length) (hac:at_≤c) (hc:c≤bs.length):
 ak (bs.take c) at_ bits sg=if c<nx then(0,0,10)else(v,nx,0):=by
 rw[eH ha]at h
 rw[eH (by simp;omega),List.drop_take,KR _ _ _ _ _ _ _ _ _ h]
 simp only[show at_+(c-at_)=c by omega]
theorem Fe {bs:List UInt8} {bits:Nat} {s:ax} (he:s.err=0) (h0:(rU bs bits s).2.err=0):
 ∃v nx,ak bs s.at_ bits false=(v,nx,0)∧rU bs bits s=(v,{s with at_:=nx}):=by
 unfold rU at h0⊢
 exact X4
theorem Ov {bs:List UInt8} {bits:Nat} {s:ax} (he:s.err=0) (h0:(rS bs bits s).2.err=0):
 ∃v nx,ak bs s.at_ bits true=(v,nx,0)∧rS bs bits s=(fC v,{s with at_:=nx}):=by
 unfold rS at h0⊢
 exact X4
theorem NU (s:ax) {nx:Nat} (h:s.at_≤nx):({s with at_:=nx}:ax)=s.adv (nx-s.at_):=by
 simp[ax.adv];omega
theorem nS (bits:Nat) (h1:1≤bits) (hb:bits≤64):cD (fun bs=>rU bs bits) fun x k=>(aI x).length≤k∧x<2^bits:=fun bs s he ha h0=>by
 obtain⟨v,nx,hr,hu⟩:=Fe he h0
 rw[eH ha]at hr
 have hok:=lr _ _ _ _ _ _ _ _ hr
 obtain⟨n,e1,e2,e3⟩:=zH bits hb _ _ _ _ _ _ (by omega) (by simp) hr
 simp at e1 e2
 subst e1
 refine⟨nx-s.at_,?_,?_,?_⟩
 ·simp only[hu];exact NU s (by omega)
 ·simp at hok;omega
 ·simp only[hu];exact⟨by omega,e2⟩
theorem uJ (bits:Nat) (h1:1≤bits) (hb:bits≤64):cD (fun bs=>rS bs bits) fun x k=>(eN x).length≤k∧ -(2^(bits-1))≤x∧x<2^(bits-1):=fun bs s he ha h0=>by
 obtain⟨v,nx,hr,hu⟩:=Ov he h0
 rw[eH ha]at hr
 have hok:=lr _ _ _ _ _ _ _ _ hr
 obtain⟨n,e1,e2,e3,e4⟩:=zA bits hb _ _ _ _ _ _ (by omega) (by simp) (by simp) hr
 simp at e1 e2 e3
 refine⟨nx-s.at_,?_,?_,?_⟩
 ·simp only[hu];exact NU s (by omega)
 ·simp at hok;omega
 ·simp only[hu,e1];exact⟨by omega,e2,e3⟩
theorem z6 (bits:Nat):pZ (fun bs=>rU bs bits):=fun bs s k he ha hk c hac hc=>by
 obtain⟨v,nx,hr,hu⟩:=Fe (bs:=bs) (bits:=bits) he (by show(rU bs bits s).2.err=0;rw[show(rU bs bits s).2=s.adv k from hk];exact he)
 have hl:=eH ha▸hr
 have hok:=lr _ _ _ _ _ _ _ _ hl
 have hk':s.at_+k=nx:=by
  have:(rU bs bits s).2.at_=s.at_+k:=by rw[show(rU bs bits s).2=s.adv k from hk];rfl
  rw[hu]at this;simp at this;omega
 have hcut:=uw hr ha hac hc
 unfold oe
 rw[hk']
 refine⟨fun h=> ?_,fun h=> ?_⟩
 ·rw[if_neg (by omega)]at hcut
  show rU (bs.take c) bits s=rU bs bits s
  rw[hu];simp[rU,he,hcut]
 ·rw[if_pos h]at hcut
  show xD (rU (bs.take c) bits s).2 c
  simp[rU,he,hcut,eg he,xD]
  omega
theorem Aw (bits:Nat):pZ (fun bs=>rS bs bits):=fun bs s k he ha hk c hac hc=>by
 obtain⟨v,nx,hr,hu⟩:=Ov (bs:=bs) (bits:=bits) he (by show(rS bs bits s).2.err=0;rw[show(rS bs bits s).2=s.adv k from hk];exact he)
 have hl:=eH ha▸hr
 have hok:=lr _ _ _ _ _ _ _ _ hl
 have hk':s.at_+k=nx:=by
  have:(rS bs bits s).2.at_=s.at_+k:=by rw[show(rS bs bits s).2=s.adv k from hk];rfl
  rw[hu]at this;simp at this;omega
 have hcut:=uw hr ha hac hc
 unfold oe
 rw[hk']
 refine⟨fun h=> ?_,fun h=> ?_⟩
 ·rw[if_neg (by omega)]at hcut
  show rS (bs.take c) bits s=rS bs bits s
  rw[hu];simp[rS,he,hcut]
 ·rw[if_pos h]at hcut
  show xD (rS (bs.take c) bits s).2 c
  simp[rS,he,hcut,eg he,xD]
  omega
def Bl {α β:Type} (F:bb α) (z:β) (m:α→β):bb β:=fun bs s=>((F bs s).2.told z (m (F bs s).1),(F bs s).2)
theorem mu {α β:Type} (F:bb α) (z:β) (m:α→β):mH (Bl F z m) (cM F m):=fun bs s=>⟨rfl,fun h=>by
 have h:(F bs s).2.err=0:=h
 simp[Bl,cM,ax.told,h]⟩
theorem nG {s:ax} (bs:List UInt8) (h:s.err≠0):bF bs s=0:=by simp[bF,h]
theorem fJ {s:ax} {bs:List UInt8} (h:bF bs s≠0):s.err=0∧s.at_<bs.length∧bF bs s=(bs.getD s.at_ 0).toNat:=by
 unfold bF at h⊢
 split at h
 ·rename_i hc;rw[if_pos hc];exact⟨hc.1,hc.2,rfl⟩
 ·exact absurd rfl h
theorem CZ {bs:List UInt8} {s:ax} {c:Nat} (h:s.at_<c) (hc:c≤bs.length):bF (bs.take c) s=bF bs s:=by
 unfold bF
 rw[yB _ _ _ h]
 have h1:(s.at_< (bs.take c).length):=by simp;omega
 have h2:s.at_<bs.length:=by omega
 by_cases he:s.err=0
 ·rw[if_pos ⟨he,h1⟩,if_pos ⟨he,h2⟩]
 ·rw[if_neg (fun h=>he h.1),if_neg (fun h=>he h.1)]
theorem A3 {bs:List UInt8} {s:ax} {c:Nat} (h:c≤s.at_):bF (bs.take c) s=0:=by
 unfold bF
 rw[if_neg]
 simp;omega
theorem Jw {c:Nat} (h:cz c≠0):105≤c∧c≤116:=by
 unfold cz at h
 split at h
 ·exact absurd rfl h
 ·omega
theorem nA {c:Nat} (h:cz c≠0):1≤cz c∧cz c≤12∧nc (cz c)= [UInt8.ofNat c]∧(UInt8.ofNat c).toNat=c:=by
 have h2:=Jw h
 exact XY
def dz (h:aC):Bool:=jd h||bQ h
def us (h:aC) (k:Nat):Prop:=dz h=true∧(d8 h).length≤k∧1≤k
theorem Ce:ci co:=fun bs s h=>by
 unfold co
 have h2:=qY 33 bs s h
 simp only at h2
 have h1:(rS bs 33 s).1=0:=by simp[rS,h]
 simp[nG bs h,cz,h1,h2]
theorem xt:cD co us:=fun bs s he ha h0=>by
 unfold co at h0⊢
 split at h0
 ·rename_i h1
  simp only[if_pos h1]
  split at h0
  ·rename_i h2
   by_cases h3:(rS bs 33 s).2.err=0
   ·rw[show((rS bs 33 s).2.refuse 60 s.at_).err=60 from lG h3 (by decide) _]at h0
    cases h0
   ·rw[uL bs 33 s h3]at h2
    exact absurd h2 (by decide)
  ·rename_i h2
   simp only[if_neg h2]
   obtain⟨k,e,l,p1,p2,p3⟩:=uJ 33 (by decide) (by decide) bs s he ha h0
   simp only at e p1 p2 p3
   refine⟨k,e,l,?_⟩
   have h0':(rS bs 33 s).2.err=0:=h0
   simp only[ax.told,if_pos h0',us]
   refine⟨?_,by simpa [d8]using p1,by have:=rg (rS bs 33 s).1;omega⟩
   simp only[dz,bQ,Bool.or_eq_true,decide_eq_true_eq]
   right
   have p3:(rS bs 33 s).1<4294967296:=by simpa using p3
   refine⟨trivial,by omega,by omega⟩
 ·rename_i h1
  simp only[if_neg h1]
  have:=fJ (s:=s) (bs:=bs) (fun h0=>h1 (by rw[h0];rfl))
  obtain⟨f1,f2,f3,_⟩:=nA h1
  refine⟨1,rfl,by omega,?_,?_,by omega⟩
  ·simp[dz,jd,f1,f2]
  ·simp only[d8]
   rw[if_neg (by omega),f3];simp
theorem yP:pZ co:=fun bs s k he ha hk c hac hc=>by
 by_cases h1:cz (bF bs s)=0
 ·have hS:(co bs s).2.err=0:=by rw[hk];exact he
  have h2:¬(rS bs 33 s).1<0:=by
   intro h2
   unfold co at hS
   rw[if_pos h1,if_pos h2]at hS
   by_cases h3:(rS bs 33 s).2.err=0
   ·rw[show((rS bs 33 s).2.refuse 60 s.at_).err=60 from lG h3 (by decide) _]at hS
    cases hS
   ·rw[uL bs 33 s h3]at h2
    exact absurd h2 (by decide)
  have hk2:(rS bs 33 s).2=s.adv k:=by
   unfold co at hk
   rw[if_pos h1,if_neg h2]at hk
   exact hk
  have hp:cz (bF (bs.take c) s)=0:=by
   rcases Nat.lt_or_ge s.at_ c with h|h
   ·rw[CZ h hc];exact h1
   ·rw[A3 h];rfl
  obtain⟨a,b⟩:=Aw 33 bs s k he ha hk2 c hac hc
  refine⟨fun h=> ?_,fun h=> ?_⟩
  ·have a:=a h
   simp only at a
   unfold co
   rw[if_pos h1,if_pos hp,a]
  ·have b:=b h
   simp only at b
   have h3:(rS (bs.take c) 33 s).2.err≠0:=by rw[b.1];decide
   have h4:=uL _ _ _ h3
   unfold co
   rw[if_pos hp,if_neg (by rw[h4];decide)]
   exact b
 ·have h2:=fJ (s:=s) (bs:=bs) (fun h0=>h1 (by rw[h0];rfl))
  have hk1:k=1:=by
   unfold co at hk
   rw[if_neg h1]at hk
   exact(pR (a:=1) hk).symm
  subst hk1
  refine⟨fun h=> ?_,fun h=> ?_⟩
  ·unfold co;rw[CZ (by omega) hc,if_neg h1,if_neg h1]
  ·have hp:bF (bs.take c) s=0:=A3 (by omega)
   have hl:ak (bs.take c) s.at_ 33 true=(0,0,10):=by
    rw[eH (by simp;omega),List.drop_eq_nil_of_le (by simp;omega)];rfl
   have hr:rS (bs.take c) 33 s=(0,{s with err:=10,errAt:=s.at_}):=by simp[rS,he,hl,eg he]
   unfold co
   rw[hp,if_pos (by rfl),hr]
   simp[xD];omega
def Wr (v:aF) (k:Nat):Prop:=aj v=true∧(bZ v).length≤k∧1≤k
def kq (a c:Nat):bb aF:=
 if c=127 then kc ⟨1,false,⟨0,0⟩⟩
 else if c=126 then kc ⟨2,false,⟨0,0⟩⟩
 else if c=100∨c=99 then Bl co aF.zero fun h=>⟨3,c==99,h⟩
 else if c=125∨c=124∨c=123 then fun _ s=>(aF.zero,s.refuse 61 a)
 else if cz c=0 then fun _ s=>(aF.zero,s.form a)
 else kc ⟨3,true,⟨cz c,0⟩⟩
theorem ni:bw=aJ ai kq:=by
 funext bs s
 unfold bw aJ kq
 generalize (ai bs s).1=c
 generalize (ai bs s).2=s'
 split
 ·rfl
 ·split
  ·rfl
  ·split
   ·rfl
   ·split
    ·rfl
    ·split<;>rfl
def WU (c:Nat) (v:aF) (k:Nat):Prop:=aj v=true∧(bZ v).length≤1+k
theorem wq (a c:Nat):cD (kq a c) (WU c):=by
 unfold kq
 split
 ·exact mM ⟨by decide,by decide⟩
 ·split
  ·exact mM ⟨by decide,by decide⟩
  ·split
   ·refine(mu _ _ _).back (gS xt _ fun h k ⟨h1,h2,_⟩=>⟨?_,?_⟩)
    ·simpa [aj,dz]using h1
    ·simp[bZ]
     repeat' split
     all_goals(try simp only[List.length_cons])
     all_goals omega
   ·split
    ·exact og.back (fun bs s he=>by show(s.refuse 61 a).err≠0;rw[lG he (by decide)];decide) _
    ·split
     ·exact og.back (fun bs s he=>by show(s.form a).err≠0;rw[rr he];decide) _
     ·rename_i hg
      obtain⟨f1,f2,f3,_⟩:=nA hg
      refine mM ⟨?_,?_⟩
      ·simp[aj,jd,f1,f2]
      ·simp only[bZ,d8]
       simp
       rw[if_neg (by omega),if_neg (by omega),f3];simp
theorem Km (a c:Nat):pZ (kq a c):=by
 unfold kq
 split
 ·exact oL _
 ·split
  ·exact oL _
  ·split
   ·exact(mu _ _ _).cut (BB yP _)
   ·split
    ·exact og.cut (fun bs s he=>by show(s.refuse 61 a).err≠0;rw[lG he (by decide)];decide)
    ·split
     ·exact og.cut (fun bs s he=>by show(s.form a).err≠0;rw[rr he];decide)
     ·exact oL _
theorem nM (a:Nat):ci (kq a 0):=fun bs s h=>by simp[kq,cz,wD h]
theorem qV:ci bw:=fun bs s h=>by
 rw[ni];unfold aJ
 have h1:=eF bs s h
 have h2:(ai bs s).1=0:=kO bs s (by rw[h1];exact h)
 rw[h1,h2];exact nM _ bs s h
theorem tE {α:Type} {G:Nat→Nat→bb α} (h:∀a,ci (G a 0)) (bs:List UInt8) (s:ax) (hc:(ai bs s).2.err≠0):ci (G s.at_ (ai bs s).1):=by
 rw[kO bs s hc];exact h _
theorem pS:cD bw Wr:=by
 rw[ni]
 refine(cD.bind iw eF (tE nM) (fun a x _ _=>wq a x)).mono ?_
 rintro v k ⟨x,k1,k2,rfl,⟨rfl,_⟩,h1,h2⟩
 exact⟨h1,h2,by omega⟩
theorem Nq:pZ bw:=by
 rw[ni]
 exact pZ.bind iw sR (tE nM) (fun a x _ _=>wq a x) (fun a x _ _=>Km a x)
inductive D9 {α β:Type} (R:α→β→Prop):List α→List β→Prop
 |nil:D9 R [] []
 |cons {a:α} {b:β} {l:List α} {m:List β} (h:R a b) (t:D9 R l m):D9 R (a::l) (b::m)
theorem gJ {α:Type} {F:bb α} (n:Nat):ci (fun bs s=>av (F bs) n s):=fun bs s h=>by
 cases n<;>simp[av,h]
theorem nr {α:Type} {F:bb α} {P:α→Nat→Prop} (hF:cD F P) (n:Nat):
 cD (fun bs s=>av (F bs) n s) fun l k=>l.length=n∧∃ks:List Nat,k=ks.sum∧D9 P l ks:=by
 induction n with
 |zero=>exact fun bs s he ha _=>⟨0,rfl,by omega,rfl,[],rfl,.nil⟩
 |succ n ih=>
  intro bs s he ha h0
  simp only[av,if_pos he]at h0⊢
  have h1:(F bs s).2.err=0:=by
   by_cases hc:(F bs s).2.err=0
   ·exact hc
   ·have:=gJ (F:=F) n bs _ hc
    simp only at this
    rw[this]at h0;exact absurd h0 hc
  obtain⟨k1,e1,l1,p1⟩:=hF bs s he ha h1
  obtain⟨k2,e2,l2,p2,ks,p3,p4⟩:=ih bs _ h1 (by rw[e1];exact l1) h0
  simp only at e2 p2 p4
  rw[e1]at l2
  simp at l2
  refine⟨k1+k2,by rw[e2,e1,dt],by omega,by simp[p2],k1::ks,by simp[p3],.cons p1 p4⟩
theorem Iq {α:Type} {F:bb α} {P:α→Nat→Prop} (hF:cD F P) (hFc:pZ F) (n:Nat):pZ (fun bs s=>av (F bs) n s):=by
 induction n with
 |zero=>
  intro bs s k he ha hk c hac hc
  have:k=0:=by have:=congrArg ax.at_ hk;simp[av]at this;exact this
  subst this
  exact⟨fun _=>rfl,fun h=>by omega⟩
 |succ n ih=>
  intro bs s k he ha hk c hac hc
  have hs:=gJ (F:=F) n
  have h1:(F bs s).2.err=0:=by
   by_cases h:(F bs s).2.err=0
   ·exact h
   ·have h2:=hs bs _ h
    simp only[av,if_pos he]at hk h2
    rw[h2]at hk;rw[hk]at h;exact absurd he h
  obtain⟨k1,e1,l1,p1⟩:=hF bs s he ha h1
  have hk2:∃k2,(av (F bs) n (s.adv k1)).2=(s.adv k1).adv k2∧k=k1+k2:=by
   simp only[av,if_pos he]at hk
   rw[e1]at hk
   obtain⟨k2,e2,l2,_⟩:=nr hF n bs (s.adv k1) he l1 (by simp only;rw[hk];exact he)
   simp only at e2
   refine⟨k2,e2,?_⟩
   rw[hk,dt]at e2
   exact pR e2
  obtain⟨k2,e2,rfl⟩:=hk2
  obtain⟨f1,f2⟩:=hFc bs s k1 he ha e1 c hac hc
  unfold oe
  simp only[av,if_pos he]
  rcases Nat.lt_or_ge c (s.at_+k1)with h|h
  ·refine⟨by omega,fun _=> ?_⟩
   have hE:=f2 h
   have h3:=hs (bs.take c) (F (bs.take c) s).2 (by rw[hE.1];decide)
   simp only at h3
   rw[h3];exact hE
  ·have hFe:=f1 h
   have h4:=ih bs (s.adv k1) k2 he l1 e2 c (by simpa using h) hc
   unfold oe at h4
   simp only[adv_at,Nat.add_assoc]at h4
   rw[hFe,e1]
   refine⟨fun hh=> ?_,fun hh=>h4.2 (by omega)⟩
   rw[h4.1 (by omega)]
def fx {α:Type} (F:bb α):bb (List α):=fun bs s=>bX bs (F bs) s
def qo {α:Type} (pl:α→Bool) (put:α→List UInt8) (l:List α) (k:Nat):Prop:=l.all pl=true∧(ae put l).length≤k∧1≤k
theorem qy {bs:List UInt8} {s:ax} (he:s.err=0) (ha:s.at_≤bs.length) (h0:(af bs s).2.err=0):
 ∃k1,af bs s=rU bs 32 s∧(rU bs 32 s).2=s.adv k1∧s.at_+k1≤bs.length∧(aI (rU bs 32 s).1).length≤k1∧(rU bs 32 s).1≤bs.length-(s.at_+k1)∧(rU bs 32 s).1<4294967296:=by
 unfold af at h0⊢
 split at h0
 ·rename_i h1
  by_cases h2:(rU bs 32 s).2.err=0
  ·simp only at h0
   rw[lG h2 (by decide)]at h0
   cases h0
  ·rw[Fv _ _ _ h2]at h1
   exact absurd h1 (by omega)
 ·rename_i h1
  obtain⟨k1,e,l,p1,p2⟩:=nS 32 (by decide) (by decide) bs s he ha h0
  simp only at e p1 p2
  rw[if_neg h1]
  rw[e]at h1
  simp at h1
  exact⟨k1,rfl,e,l,p1,by omega,by simpa using p2⟩
theorem rB:ci af:=fun bs s h=>by
 have h1:=oJ 32 bs s h
 simp only at h1
 have h2:(rU bs 32 s).1=0:=by simp[rU,h]
 simp[af,h1,h2]
theorem rj {α:Type} (F:bb α):ci (fx F):=fun bs s h=>by
 have h1:=rB bs s h
 unfold fx bX
 rw[h1]
 exact gJ (F:=F) _ bs s h
theorem E9 {α:Type} {P:α→Nat→Prop} (put:α→List UInt8) (h:∀x k,P x k→(put x).length≤k∧1≤k) {l:List α} {ks:List Nat} (hf:D9 P l ks):(l.flatMap put).length≤ks.sum∧l.length≤ks.sum:=by
 induction hf with
 |nil=>simp
 |cons hp _ ih=>have:=h _ _ hp;simp only[List.flatMap_cons,List.length_append,List.length_cons,List.sum_cons];omega
theorem EF {α:Type} {P:α→Nat→Prop} (pl:α→Bool) (h:∀x k,P x k→pl x=true) {l:List α} {ks:List Nat} (hf:D9 P l ks):l.all pl=true:=by
 induction hf with
 |nil=>rfl
 |cons hp _ ih=>simp[h _ _ hp];simpa using ih
theorem jW {α:Type} {F:bb α} {P:α→Nat→Prop} {pl:α→Bool} {put:α→List UInt8} (hF:cD F P) (hP:∀x k,P x k→pl x=true∧(put x).length≤k∧1≤k):
 cD (fx F) (qo pl put):=fun bs s he ha h0=>by
 unfold fx bX at h0⊢
 simp only at h0⊢
 have h1:(af bs s).2.err=0:=by
  by_cases h:(af bs s).2.err=0
  ·exact h
  ·have:=gJ (F:=F) (af bs s).1 bs _ h
   simp only at this
   rw[this]at h0;exact absurd h0 h
 obtain⟨k1,e0,e1,l1,p1,p2,p3⟩:=qy he ha h1
 rw[e0,e1]at h0⊢
 obtain⟨k2,e2,l2,q1,ks,q2,q3⟩:=nr hF _ bs (s.adv k1) he l1 h0
 simp only at e2 q1 q3
 simp at l2
 have hs:=E9 put (fun x k h=>(hP x k h).2) q3
 refine⟨k1+k2,by rw[e2,dt],by omega,?_⟩
 simp only[ax.told,if_pos h0]
 refine⟨EF pl (fun x k h=>(hP x k h).1) q3,?_,by have:=dQ (rU bs 32 s).1;omega⟩
 simp only[ae,List.length_append,q1]
 omega
theorem wo {α:Type} {F:bb α} {P:α→Nat→Prop} (hF:cD F P) (hFc:pZ F) (hP:∀x k,P x k→1≤k):pZ (fx F):=fun bs s k he ha hk c hac hc=>by
 unfold fx bX at hk
 simp only at hk
 have h1:(af bs s).2.err=0:=by
  by_cases h:(af bs s).2.err=0
  ·exact h
  ·have:=gJ (F:=F) (af bs s).1 bs _ h
   simp only at this
   rw[this]at hk;rw[hk]at h;exact absurd he h
 obtain⟨k1,e0,e1,l1,p1,p2,p3⟩:=qy he ha h1
 rw[e0,e1]at hk
 obtain⟨k2,e2,l2,q1,ks,q2,q3⟩:=nr hF _ bs (s.adv k1) he l1 (by simp only;rw[hk];exact he)
 simp only at e2 q1 q3
 simp at l2
 have hs:=E9 (fun _=> []) (fun x k h=>⟨by simp,hP x k h⟩) q3
 have hkk:k=k1+k2:=by rw[hk,dt]at e2;exact pR e2
 subst hkk
 obtain⟨u1,u2⟩:=z6 32 bs s k1 he ha e1 c hac hc
 simp only at u1 u2
 have hst:=fun n=>gJ (F:=F) n
 have hE0:fx F bs s=((av (F bs) (rU bs 32 s).1 (s.adv k1)).1,(s.adv k1).adv k2):=by
  unfold fx bX
  rw[e0,e1,e2]
  simp[ax.told,he]
 rcases Nat.lt_or_ge c (s.at_+k1)with h|h
 ·refine⟨by omega,fun _=> ?_⟩
  have hE:=u2 h
  have h3:(rU (bs.take c) 32 s).2.err≠0:=by rw[hE.1];decide
  have h4:=Fv _ _ _ h3
  have h5:af (bs.take c) s=rU (bs.take c) 32 s:=by unfold af;rw[h4];simp
  unfold fx bX
  rw[h5]
  have h6:=hst (rU (bs.take c) 32 s).1 (bs.take c) (rU (bs.take c) 32 s).2 h3
  simp only at h6
  rw[h6];exact hE
 ·have hu:=u1 h
  have hl:(bs.take c).length=c:=by simp;omega
  by_cases hn:c-(s.at_+k1)< (rU bs 32 s).1
  ·refine⟨by omega,fun _=> ?_⟩
   have h5:af (bs.take c) s=(0,(s.adv k1).refuse 10 s.at_):=by
    unfold af;rw[hu,hl,e1,if_pos (by simpa using hn)]
   unfold fx bX
   rw[h5]
   simp[av,ax.refuse,eg (s:=s.adv k1) he (e:=10) (by decide),xD]
   omega
  ·have h5:af (bs.take c) s=rU bs 32 s:=by
    unfold af;rw[hu,hl,e1,if_neg (by simpa using hn)]
   have h6:=Iq hF hFc (rU bs 32 s).1 bs (s.adv k1) k2 he l1 e2 c (by simpa using h) hc
   unfold oe at h6
   simp only[adv_at]at h6
   refine⟨fun hh=> ?_,fun hh=> ?_⟩
   ·rw[hE0]
    unfold fx bX
    rw[h5,e1,h6.1 (by omega),e2]
    simp[ax.told,he]
   ·unfold fx bX
    rw[h5,e1]
    exact h6.2 (by omega)
theorem pu:ci eT:=rj bw
theorem qz:cD eT (qo aj bZ):=jW pS fun _ _ h=>h
theorem J5:pZ eT:=wo pS Nq fun _ _ h=>h.2.2
end Go.Proofs.YtpdlmdlkecnpgaaGreatDoor
