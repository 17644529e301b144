/- Texts: MdTk. -/
import Derived.Test.YtpdlmdlkecnpgaaGreatDoorH0
import Derived.Test.YtpdlmdlkecnpgaaGreatDoorH14
set_option linter.unusedSimpArgs false
set_option linter.unusedVariables false
namespace Go.Proofs.YtpdlmdlkecnpgaaGreatDoor
open Go.RowKit
def Tp (v:Value) (l:List UInt8) (w:World):Prop:=Sl [] w 1 v l.length (l.map B)
theorem jS.stay {S:List Nat} {w0 w w':World} {e:TypeId} {k n:Nat} {v:Value} {xs:List Value} (hO:bf [] w e k v n xs) (hN:jS w0 v) (hS:∀b,b∈S→b<w0.heap.size) {X:List Nat} (hf:Fr X w w') (hX:∀b,b∈X→b<w0.heap.size):cE S w' (fun w=>Sl [] w k v n xs):=by
 have h1:=hO.fr hf (fun b hb hv=>by have:=hN b hv;have:=hX b hb;omega)
 exact Sl.stay (bf.sl h1 (S':=S) fun b hb hm=>by have:=hN b hb;have:=hS b hm;omega)
set_option maxRecDepth 100000
set_option maxHeartbeats 1600000
theorem uV (n:Nat) (hn:n≤1099511627776) {S w rb bv bs s} (h:Rd S w rb bv bs s):Calls Tryz.prog 172 #[.pointer (some ⟨rb,0,none⟩),.int .i64 (n:Int)] w fun e w'=>
 ∃a c,e= .returned (.slice a (dD n bs s).1.length c)∧cE S w' (Tp (.slice a (dD n bs s).1.length c) (dD n bs s).1)∧Rd S w' rb bv bs (dD n bs s).2∧Fr [rb] w w':=by
 have hC:=h.loc.cell
 have hF:=h.loc.frz
 simp only[bW]at hC
 have hle:=h.le
 have hsm:=h.small
 have hsl:=h.sl
 have hlt:=h.lt
 have hrl:=h.loc.lt
 obtain⟨a,cap,hbv,hcap⟩:∃a cap,bv= .slice a bs.length cap∧bs.length≤cap∧cap≤maxLen∧(a=none→cap=0)∧(bs.length=0∨∃b off,a=some ⟨b,off,none⟩):=by
  obtain⟨_,_,a,cap,hbv,h4,h5,h7,h6⟩:=hsl
  refine⟨a,cap,hbv,h4,h5,h7,h6.imp id fun⟨b,off,e,_⟩=>⟨b,off,e⟩⟩
 subst hbv
 have hmx:=hcap.2.1
 unfold maxLen at hmx
 by_cases he:s.err=0
 ·have g1:(s.err==0)=true:=by simp[he]
  unfold dD
  rw[if_pos he]
  by_cases hl:bs.length-s.at_<n
  ·rw[if_pos hl]
   have hl':((bs.length:Int)-s.at_)<n:=by omega
   clear he hl
   go_enter Tryz.func172,Tryz.ntmps172
   go_wp2_with first|(go_at_call 228;refine(be h).mono ?_;rintro e w' ⟨rfl,rfl⟩)|(go_at_call 173;refine(gU h).mono ?_;rintro e w1 ⟨rfl,nq,rfl⟩;have hd:=h.drewN nq;have hCd:=hd.loc.cell;simp only[bW]at hCd)|(go_at_call 174;refine(dY hd _ _).mono ?_;rintro e w1 ⟨rfl,hR1,hF1⟩)
   go_ret
   exact⟨none,0,rfl,(Sl.nil S _ 1).stay,hR1,Fr.trans (by exact cF) hF1⟩
  ·rw[if_neg hl]
   have hl':¬((bs.length:Int)-s.at_)<n:=by omega
   have hnl:((bs.drop s.at_).take n).length=n:=by rw[List.length_take,List.length_drop];omega
   have hi1:(s.at_:Int)+n≤bs.length:=by omega
   have hi2:(bs.length:Int)≤cap:=by omega
   have hi3:IntKind.i64.wrap ((s.at_:Int)+n)=(s.at_:Int)+n:=(IntKind.wrap_i64 _).trans (by omega)
   have hi4:(0:Int)≤s.at_:=by omega
   have hi5:(s.at_:Int)≤(s.at_:Int)+n:=by omega
   have hi6:(s.at_:Int)+n≤cap:=by omega
   have hst:s.at_+n≤bs.length:=by omega
   by_cases hn0:n=0
   ·subst hn0
    have hSB:∀w' (x:Option Addr) (c:Nat),Fr [] w w'→c≤9223372036854775807→(x=none→c=0)→Sl [] w' 1 (.slice x ((bs.drop s.at_).take 0).length c) ((bs.drop s.at_).take 0).length (((bs.drop s.at_).take 0).map B):=fun _ x c _ h1 h2=>⟨rfl,(fun _ h=>by cases h),x,c,rfl,Nat.zero_le _,h1,h2,.inl rfl⟩
    simp only[Int.ofNat_zero,Int.add_zero,Nat.add_zero]at hi3⊢
    rw[List.take_zero]at hSB⊢
    clear he hl hi1 hnl
    cases a with
    |none=>
     have hc0:cap=0:=hcap.2.2.1 rfl
     subst hc0
     have ha0:s.at_=0:=by omega
     rw[ha0]at hC hi3⊢
     go_enter Tryz.func172,Tryz.ntmps172
     go_wp2_with first|(go_at_call 228;refine(be h).mono ?_;rintro e w' ⟨rfl,rfl⟩)|(go_at_call 173;refine(gU h).mono ?_;rintro e w1 ⟨rfl,nq,rfl⟩;have hd:=h.drewN nq;have hCd:=hd.loc.cell;simp only[bW]at hCd)
     go_region_held (fun w'=>w'.cell? ⟨rb,0,none⟩=some (.int .i64 (0))∧w'.cell? ⟨rb,3,none⟩=some (.slice (none) bs.length (0))) (first|(go_keep;done)|(simp[hC];done)|(simp[hCd];done)) (first|(go_at_call 136;refine(kC (S:= []) (bs:= []) (hSB _ _ _ (by exact cF) (by omega) (by simp)) (by simp)).mono ?_;rintro e w1 ⟨v1,rfl,hO1,hN1,hF1⟩;obtain⟨a1,c1,rfl,_⟩:=hO1.shape;have hf1:Fr [] w w1:=Fr.trans (by exact cF) hF1;have hR1:=h.fr hf1 (by simp) (by simp);have hC1:=hR1.loc.cell;have hG1:=hR1.loc.frz;simp only[bW]at hC1))
     go_wp2;go_ret;have hf3:Fr [rb] w1 (w1.setCell ⟨rb,0,none⟩ (.int .i64 (0))):=(Fr.refl _ _).setCell (by simp) _;have hR3:=hR1.step hf3 (hR1.loc.set 0 _) (s':={s with at_:=0}) (by first|omega|(simp only;omega))
     exact⟨a1,c1,rfl,hN1.stay hO1 hlt hf3 (by simpa using hrl),hR3,Fr.trans (hf1.mono (S':= [rb]) (by simp)) hf3⟩
    |some ad=>
     by_cases hc:cap=s.at_
     ·subst hc
      go_enter Tryz.func172,Tryz.ntmps172
      go_wp2_with first|(go_at_call 228;refine(be h).mono ?_;rintro e w' ⟨rfl,rfl⟩)|(go_at_call 173;refine(gU h).mono ?_;rintro e w1 ⟨rfl,nq,rfl⟩;have hd:=h.drewN nq;have hCd:=hd.loc.cell;simp only[bW]at hCd)
      go_region_held (fun w'=>w'.cell? ⟨rb,0,none⟩=some (.int .i64 (s.at_))∧w'.cell? ⟨rb,3,none⟩=some (.slice (some ad) bs.length (s.at_))) (first|(go_keep;done)|(simp[hC];done)|(simp[hCd];done)) (first|(go_at_call 136;refine(kC (S:= []) (bs:= []) (hSB _ _ _ (by exact cF) (by omega) (by simp)) (by simp)).mono ?_;rintro e w1 ⟨v1,rfl,hO1,hN1,hF1⟩;obtain⟨a1,c1,rfl,_⟩:=hO1.shape;have hf1:Fr [] w w1:=Fr.trans (by exact cF) hF1;have hR1:=h.fr hf1 (by simp) (by simp);have hC1:=hR1.loc.cell;have hG1:=hR1.loc.frz;simp only[bW]at hC1))
      exact Yf
     ·go_enter Tryz.func172,Tryz.ntmps172
      go_wp2_with first|(go_at_call 228;refine(be h).mono ?_;rintro e w' ⟨rfl,rfl⟩)|(go_at_call 173;refine(gU h).mono ?_;rintro e w1 ⟨rfl,nq,rfl⟩;have hd:=h.drewN nq;have hCd:=hd.loc.cell;simp only[bW]at hCd)
      go_region_held (fun w'=>w'.cell? ⟨rb,0,none⟩=some (.int .i64 (s.at_))∧w'.cell? ⟨rb,3,none⟩=some (.slice (some ad) bs.length (cap))) (first|(go_keep;done)|(simp[hC];done)|(simp[hCd];done)) (first|(go_at_call 136;refine(kC (S:= []) (bs:= []) (hSB _ _ _ (by exact cF) (by omega) (by simp)) (by simp)).mono ?_;rintro e w1 ⟨v1,rfl,hO1,hN1,hF1⟩;obtain⟨a1,c1,rfl,_⟩:=hO1.shape;have hf1:Fr [] w w1:=Fr.trans (by exact cF) hF1;have hR1:=h.fr hf1 (by simp) (by simp);have hC1:=hR1.loc.cell;have hG1:=hR1.loc.frz;simp only[bW]at hC1))
      exact Yf
   ·obtain⟨b,off,rfl⟩:∃b off,a=some ⟨b,off,none⟩:=hcap.2.2.2.resolve_left (by omega)
    have hc:¬cap=s.at_:=by omega
    have hSB:∀w' (m c:Nat),Fr [] w w'→m=n→c=cap-s.at_→Sl S w' 1 (.slice (some ⟨b,off+s.at_,none⟩) m c) ((bs.drop s.at_).take n).length (((bs.drop s.at_).take n).map B):=fun w' m c hf hm hc=>by
     subst hm
     exact Sl.fr (Sl.mid hsl (by omega) (by omega) (by unfold maxLen;omega)) hf (by simp)
    generalize (bs.drop s.at_).take n=X at hSB hnl⊢
    have Hnl:=Lib.hid hnl
    clear he hl hi1 hnl
    go_enter Tryz.func172,Tryz.ntmps172
    go_wp2_with first|(go_at_call 228;refine(be h).mono ?_;rintro e w' ⟨rfl,rfl⟩)|(go_at_call 173;refine(gU h).mono ?_;rintro e w1 ⟨rfl,nq,rfl⟩;have hd:=h.drewN nq;have hCd:=hd.loc.cell;simp only[bW]at hCd)
    go_region_held (fun w'=>w'.cell? ⟨rb,0,none⟩=some (.int .i64 s.at_)∧w'.cell? ⟨rb,3,none⟩=some (.slice (some ⟨b,off,none⟩) bs.length cap)) (first|(go_keep;done)|(simp[hC];done)|(simp[hCd];done)) (first|(go_at_call 136;refine(kC (hSB _ _ _ (by exact cF) (by omega) rfl) (by have:=Hnl.out;omega)).mono ?_;rintro e w1 ⟨v1,rfl,hO1,hN1,hF1⟩;obtain⟨a1,c1,rfl,_⟩:=hO1.shape;have hf1:Fr [] w w1:=Fr.trans (by exact cF) hF1;have hR1:=h.fr hf1 (by simp) (by simp);have hC1:=hR1.loc.cell;have hG1:=hR1.loc.frz;simp only[bW]at hC1))
    go_wp2;go_ret;have hf3:Fr [rb] w1 (w1.setCell ⟨rb,0,none⟩ (.int .i64 ((s.at_:Int)+n))):=(Fr.refl _ _).setCell (by simp) _;have hR3:=hR1.step hf3 (hR1.loc.set 0 _) (s':={s with at_:=s.at_+n}) (by first|omega|(simp only;omega))
    exact VM
 ·have g1:(s.err==0)=false:=by simp[he]
  unfold dD
  rw[if_neg he]
  clear he
  go_enter Tryz.func172,Tryz.ntmps172
  go_wp2_with first|(go_at_call 228;refine(be h).mono ?_;rintro e w' ⟨rfl,rfl⟩)
  go_ret
  exact⟨none,0,rfl,(Sl.nil S _ 1).stay,h,Fr.refl _ _⟩
end Go.Proofs.YtpdlmdlkecnpgaaGreatDoor
