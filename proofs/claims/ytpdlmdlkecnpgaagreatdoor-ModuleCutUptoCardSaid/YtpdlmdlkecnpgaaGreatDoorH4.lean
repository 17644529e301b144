/- Texts: LebW2 RdW RdW2 RdW3 RdW4 RdW5 RdW6 RdW7 RdW8. -/
import Derived.Test.YtpdlmdlkecnpgaaGreatDoorH0
import Derived.Test.YtpdlmdlkecnpgaaGreatDoorH2
import Derived.Test.YtpdlmdlkecnpgaaGreatDoorH3
set_option linter.unusedSimpArgs false
set_option linter.unusedVariables false
namespace Go.Proofs.YtpdlmdlkecnpgaaGreatDoor
open Go.RowKit
theorem i8 (n:Int) (h: -9223372036854775808≤n) (h2:n<9223372036854775808):(eN n).length≤10:=by
 have key:∀(k:Nat) (n:Int),-(64*128^k)≤n→n<64*128^k→(eN n).length≤k+1:=by
  intro k
  induction k with
  |zero=>intro n h h2;rw[eI n (by simpa using h) (by simpa using h2)];simp
  |succ k ih=>
   intro n h h2
   by_cases hs: -64≤n∧n<64
   ·rw[eI n hs.1 hs.2];simp
   ·rw[na n (by omega)]
    rw[Int.pow_succ]at h h2
    have:=ih (n/128) (by omega) (by omega)
    simp;omega
 exact key 9 n (by omega) (by omega)
theorem Uf (c:Nat) (h:c<128):(bits .and .u8 (c:Int) 64==64)=decide (64≤c):=by
 exact X5
theorem Q8 (c:Nat) (h:c<128):(bits .and .u8 (c:Int) 64==0)=decide (c<64):=by
 have:=u8_and_nat c 64 (by omega) (by decide)
 rw[show(64:Nat)=2^6 from rfl,nat_bit 6 c]at this
 rw[show(64:Int)=((2^6:Nat):Int) from rfl,this]
 by_cases h6:c<64
 ·rw[show c/2^6=0 by omega];simp[h6]
 ·rw[show c/2^6=1 by omega];simp[h6]
set_option maxRecDepth 100000
set_option maxHeartbeats 1600000
theorem D7 (N:Int) (w:World) (hlo: -9223372036854775808≤N) (hhi:N<9223372036854775808):
 Calls Tryz.prog 264 #[.int .i64 N] w fun e w'=>∃v,e= .returned v∧bf [] w' 5 1 v (eN N).length ((eN N).map B)∧jS w v∧Fr [] w w':=by
 have hx:bits BinOp.xor IntKind.i64 (-1) 0= -1:=by decide
 by_cases hneg:N<0
 ·have hneg':decide (N<0)=true:=by simpa using hneg
  go_enter Tryz.func264,Tryz.ntmps264
  go_wp2
  go_loopw [0,6] (fun n v wr=>∃(m:Int) (bs:List UInt8),n= .int .i64 m∧ -9223372036854775808≤m∧m<9223372036854775808∧m<0∧bf [] wr 5 1 v bs.length (bs.map B)∧jS w v∧Fr [] w wr∧Hid (eN N=bs++eN m)) (fun n _ _=>(intOf n).natAbs)
  case atStart=>exact⟨N,[],rfl,hlo,hhi,by omega,bf.nil _ _ _ _,jS.nil _,Fr.refl _ _,Lib.hid rfl⟩
  case round=>
   obtain⟨m,bs,rfl,hm,hm2,hm0,hown,hnew,hfr,hg⟩:=hrel
   have hlen:bs.length≤10:=by
    have h1:=congrArg List.length hg.out
    have h2:=i8 N hlo hhi
    simp at h1;omega
   have hbnd:bs.length+1≤140737488355328:=by omega
   have hc:bits BinOp.and IntKind.i64 m 127% 256=((m% 128).toNat:Int):=by rw[i64_and127];omega
   have h64:(bits BinOp.and IntKind.u8 (bits BinOp.and IntKind.i64 m 127% 256) 64==64)=decide (64≤(m% 128).toNat):=by
    rw[hc];exact Uf _ (by omega)
   have hor:bits BinOp.or IntKind.u8 (bits BinOp.and IntKind.i64 m 127% 256) 128=(((m% 128).toNat+128:Nat):Int):=by
    have:=u8_or128_right (((m% 128).toNat:Nat):Int) (by omega) (by omega)
    rw[hc,this];omega
   have Hc:=Lib.hid hc
   have Hor:=Lib.hid hor
   clear hc hor
   by_cases hs: -64≤m
   ·have hq:m/128= -1:=by omega
    have hd:decide (64≤(m% 128).toNat)=true:=by simp;omega
    exact X0
   ·by_cases hs2: -128≤m
    all_goals
     first
      |(have hq:m/128= -1:=by omega
        have hd:decide (64≤(m% 128).toNat)=false:=by simp;omega
        rw[hd]at h64)
      |(have hq:(m/128== -1)=false:=by simp;omega)
     go_wp2_with (at_builtin;refine dF rfl (.tmp 38) (.tmp 41) _ rfl _ _ _ rfl (hown.alloc _) _ _ _ rfl (sq aB _ _ _ _ rfl) hbnd ?_)
     intro v' w1 hown1 hf1 hb1
     rw[Hor.out,←pU _ (by omega)]at hown1
     go_wp2
     go_roundw
     case rel=>
      exact XE
     case measure=>simp[intOf];omega
 ·have hneg':decide (N<0)=false:=by simpa using hneg
  go_enter Tryz.func264,Tryz.ntmps264
  go_wp2
  go_loopw [0,6] (fun n v wr=>∃(m:Int) (bs:List UInt8),n= .int .i64 m∧ -9223372036854775808≤m∧m<9223372036854775808∧0≤m∧bf [] wr 5 1 v bs.length (bs.map B)∧jS w v∧Fr [] w wr∧Hid (eN N=bs++eN m)) (fun n _ _=>(intOf n).natAbs)
  case atStart=>exact⟨N,[],rfl,hlo,hhi,by omega,bf.nil _ _ _ _,jS.nil _,Fr.refl _ _,Lib.hid rfl⟩
  case round=>
   obtain⟨m,bs,rfl,hm,hm2,hm0,hown,hnew,hfr,hg⟩:=hrel
   have hlen:bs.length≤10:=by
    have h1:=congrArg List.length hg.out
    have h2:=i8 N hlo hhi
    simp at h1;omega
   have hbnd:bs.length+1≤140737488355328:=by omega
   have hc:bits BinOp.and IntKind.i64 m 127% 256=((m% 128).toNat:Int):=by rw[i64_and127];omega
   have h64:(bits BinOp.and IntKind.u8 (bits BinOp.and IntKind.i64 m 127% 256) 64==0)=decide ((m% 128).toNat<64):=by
    rw[hc];exact Q8 _ (by omega)
   have hor:bits BinOp.or IntKind.u8 (bits BinOp.and IntKind.i64 m 127% 256) 128=(((m% 128).toNat+128:Nat):Int):=by
    have:=u8_or128_right (((m% 128).toNat:Nat):Int) (by omega) (by omega)
    rw[hc,this];omega
   have Hc:=Lib.hid hc
   have Hor:=Lib.hid hor
   clear hc hor
   by_cases hs:m<64
   ·have hq:m/128=0:=by omega
    have hd:decide ((m% 128).toNat<64)=true:=by simp;omega
    exact X0
   ·by_cases hs2:m<128
    all_goals
     first
      |(have hq:m/128=0:=by omega
        have hd:decide ((m% 128).toNat<64)=false:=by simp;omega
        rw[hd]at h64)
      |(have hq:(m/128==0)=false:=by simp;omega)
     go_wp2_with (at_builtin;refine dF rfl (.tmp 38) (.tmp 41) _ rfl _ _ _ rfl (hown.alloc _) _ _ _ rfl (sq aB _ _ _ _ rfl) hbnd ?_)
     intro v' w1 hown1 hf1 hb1
     rw[Hor.out,←pU _ (by omega)]at hown1
     go_wp2
     go_roundw
     case rel=>
      exact XE
     case measure=>simp[intOf];omega
theorem mZ (N:Nat) (w:World) (hN:N<18446744073709551616):
 Calls Tryz.prog 85 #[.int .u64 N] w fun e w'=>∃v,e= .returned v∧bf [] w' 5 1 v (aI N).length ((aI N).map B)∧jS w v∧Fr [] w w':=by
 go_enter Tryz.func85,Tryz.ntmps85
 go_wp2_with (go_at_call 131;refine(Em N _ hN).mono ?_;rintro e w' ⟨v,rfl,h1,h2,h3⟩)
 go_ret
 exact⟨_,rfl,h1,h2,h3⟩
theorem CB (N:Int) (w:World) (hlo: -9223372036854775808≤N) (hhi:N<9223372036854775808):
 Calls Tryz.prog 243 #[.int .i64 N] w fun e w'=>∃v,e= .returned v∧bf [] w' 5 1 v (eN N).length ((eN N).map B)∧jS w v∧Fr [] w w':=by
 go_enter Tryz.func243,Tryz.ntmps243
 go_wp2_with (go_at_call 264;refine(D7 N _ hlo hhi).mono ?_;rintro e w' ⟨v,rfl,h1,h2,h3⟩)
 go_ret
 exact⟨_,rfl,h1,h2,h3⟩
structure Gl (S:List Nat) (w:World):Prop where
 lt:0<w.heap.size
 not:0∉S
 cell:∀o,o<12→w.cell? ⟨0,o,none⟩=some (.int .i64 (dB.getD o 0))
theorem Gl.fr {S S':List Nat} {w w':World} (h:Gl S w) (hf:Fr S' w w') (hs:∀b,b<w.heap.size→b∈S'→b∈S):Gl S w':=
 ⟨Nat.lt_of_lt_of_le h.lt hf.size,h.not,fun o ho=>by rw[hf.cell h.lt (fun hm=>h.not (hs _ h.lt hm))];exact h.cell o ho⟩
theorem Gl.sub {S S':List Nat} {w:World} (h:Gl S w) (hs:∀b,b<w.heap.size→b∈S'→b∈S):Gl S' w:=⟨h.lt,fun hm=>h.not (hs _ h.lt hm),h.cell⟩
def bW (rb:Nat) (bv:Value) (s:ax):List Value:= [.int .i64 s.at_,.int .i64 s.err,.int .i64 s.errAt,bv,.pointer (some ⟨rb,0,none⟩)]
structure Rd (S:List Nat) (w:World) (rb:Nat) (bv:Value) (bs:List UInt8) (s:ax):Prop where
 mem:rb∈S
 lt:∀b,b∈S→b<w.heap.size
 loc:bB w rb (bW rb bv s) 226
 sl:Sl S w 1 bv bs.length (bs.map B)
 gl:Gl S w
 le:s.at_≤bs.length
 small:bs.length≤1099511627776
theorem Rd.step {S:List Nat} {w w':World} {rb:Nat} {bv:Value} {bs:List UInt8} {s s':ax} (h:Rd S w rb bv bs s) (hf:Fr [rb] w w') (hl:bB w' rb (bW rb bv s') 226) (hle:s'.at_≤bs.length):Rd S w' rb bv bs s':=
 have hs:∀b,b<w.heap.size→b∈ [rb]→b∈S:=fun b _ hb=>by simp at hb;subst hb;exact h.mem
 ⟨h.mem,fun b hb=>Nat.lt_of_lt_of_le (h.lt b hb) hf.size,hl,h.sl.fr hf hs,h.gl.fr hf hs,hle,h.small⟩
theorem Rd.fr {S S':List Nat} {w w':World} {rb:Nat} {bv:Value} {bs:List UInt8} {s:ax} (h:Rd S w rb bv bs s) (hf:Fr S' w w') (hs:∀b,b<w.heap.size→b∈S'→b∈S) (hn:rb∉S'):Rd S w' rb bv bs s:=
 ⟨h.mem,fun b hb=>Nat.lt_of_lt_of_le (h.lt b hb) hf.size,h.loc.fr hf hn,h.sl.fr hf hs,h.gl.fr hf hs,h.le,h.small⟩
theorem Rd.alloc {S w rb bv bs s} (h:Rd S w rb bv bs s) (o:Obj):Rd S (w.alloc o) rb bv bs s:=h.fr ((Fr.refl [] w).alloc o) (by simp) (by simp)
theorem Rd.drew {S w rb bv bs s} (h:Rd S w rb bv bs s):Rd S w.drew rb bv bs s:=h.fr (Fr.refl [] w).drew (by simp) (by simp)
theorem Rd.drewN {S w rb bv bs s} (h:Rd S w rb bv bs s) (n:Nat):Rd S (w.drewN n) rb bv bs s:=h.fr ((Fr.refl [] w).drewN n) (by simp) (by simp)
theorem Rd.more {S S':List Nat} {w w':World} {rb:Nat} {bv:Value} {bs:List UInt8} {s:ax} (h:Rd S w rb bv bs s) (hf:Fr [] w w') (hs:∀b,b∈S'→b∈S∨w.heap.size≤b) (hlt:∀b,b∈S'→b<w'.heap.size) (hm:rb∈S'):Rd S' w' rb bv bs s:=
 have hh:∀b,b<w.heap.size→b∈S'→b∈S:=fun b hb hm=>(hs b hm).elim id (fun h=>by omega)
 ⟨hm,hlt,h.loc.fr hf (by simp),(h.sl.sub hh).fr hf (by simp),(h.gl.sub hh).fr hf (by simp),h.le,h.small⟩
theorem Rd.less {S S':List Nat} {w:World} {rb:Nat} {bv:Value} {bs:List UInt8} {s:ax} (h:Rd S w rb bv bs s) (hs:∀b,b∈S'→b∈S) (hm:rb∈S'):Rd S' w rb bv bs s:=
 ⟨hm,fun b hb=>h.lt b (hs b hb),h.loc,h.sl.sub fun b _ hb=>hs b hb,h.gl.sub fun b _ hb=>hs b hb,h.le,h.small⟩
theorem Rd.loc1 {S w rb bv bs s} (h:Rd S w rb bv bs s) (o:Obj):Rd (w.heap.size::S) (w.alloc o) rb bv bs s:=
 h.more ((Fr.refl [] w).alloc o) (fun b hb=>by
  rcases List.mem_cons.1 hb with rfl|hb
  ·exact .inr (Nat.le_refl _)
  ·exact .inl hb) (fun b hb=>by
  rcases List.mem_cons.1 hb with rfl|hb
  ·simp
  ·have:=h.lt b hb;simp;omega) (List.mem_cons_of_mem _ h.mem)
theorem Rd.setLoc {S w rb bv bs s} (h:Rd S w rb bv bs s) {lb:Nat} (hm:lb∈S) (hn:lb≠rb) (o:Nat) (v:Value):Rd S (w.setCell ⟨lb,o,none⟩ v) rb bv bs s:=
 h.fr (S':= [lb]) ((Fr.refl _ _).setCell (by simp) _) (fun b _ hb=>by simp at hb;subst hb;exact hm) (by simpa using fun h=>hn h.symm)
theorem Rd.un1 {S:List Nat} {w:World} {rb lb:Nat} {bv:Value} {bs:List UInt8} {s:ax} (h:Rd (lb::S) w rb bv bs s) (hm:rb∈S):Rd S w rb bv bs s:=h.less (fun b hb=>List.mem_cons_of_mem _ hb) hm
theorem Se (a:Addr) (w:World):(binOp .eql 189 (.pointer (some a)) (.pointer (some a))).run Tryz.prog w= .ok (.bool true) w:=
 run_eql_ptr_same (te:=226) (j:=(Tryz.prog.info? 226).get (by kernel_rfl)) w a (by kernel_rfl) (by kernel_rfl)
attribute [go_sem] Se
theorem zE {S w rb bv bs s} (h:Rd S w rb bv bs s):
 Calls Tryz.prog 229 #[.pointer (some ⟨rb,0,none⟩)] w fun e w'=>e= .returned (.bool true)∧w=w':=by
 have hC:=h.loc.cell;have hF:=h.loc.frz;simp only[bW]at hC
 go_enter Tryz.func229,Tryz.ntmps229
 go_wp2
 exact Cs
theorem be {S w rb bv bs s} (h:Rd S w rb bv bs s):
 Calls Tryz.prog 228 #[.pointer (some ⟨rb,0,none⟩)] w fun e w'=>e= .returned (.bool (s.err==0))∧w=w':=by
 exact Vt
theorem d5 {S w rb bv bs s} (h:Rd S w rb bv bs s):
 Calls Tryz.prog 175 #[.pointer (some ⟨rb,0,none⟩)] w fun e w'=>e= .returned (.int .i64 s.at_)∧w=w':=by
 exact Vt
def O6 (w w':World):Prop:=∃n,w'=w.drewN n
theorem gU {S w rb bv bs s} (h:Rd S w rb bv bs s):
 Calls Tryz.prog 173 #[.pointer (some ⟨rb,0,none⟩)] w fun e w'=>e= .returned (.int .i64 ((bs.length:Int)-s.at_))∧O6 w w':=by
 have hC:=h.loc.cell;have hF:=h.loc.frz;simp only[bW]at hC
 have hle:=h.le
 have hsm:=h.small
 obtain⟨a,cap,hbv,_⟩:=h.sl.2.2
 subst hbv
 go_enter Tryz.func173,Tryz.ntmps173
 go_wp2_with (go_at_call 229;refine(zE (by assumption)).mono ?_;rintro e w' ⟨rfl,rfl⟩)
 go_quiet (fail)
 go_wp2
 go_ret
 exact⟨rfl,_,rfl⟩
theorem Dk {S w rb bv bs s} (h:Rd S w rb bv bs s):
 Calls Tryz.prog 176 #[.pointer (some ⟨rb,0,none⟩)] w fun e w'=>e= .returned (.tuple #[.int .i64 s.err,.int .i64 s.errAt])∧O6 w w':=by
 have hC:=h.loc.cell;have hF:=h.loc.frz;simp only[bW]at hC
 go_enter Tryz.func176,Tryz.ntmps176
 go_wp2_with (go_at_call 229;refine(zE (by assumption)).mono ?_;rintro e w' ⟨rfl,rfl⟩)
 go_quiet (fail)
 go_wp2
 go_ret2
 exact⟨rfl,_,rfl⟩
theorem dY {S w rb bv bs s} (h:Rd S w rb bv bs s) (e0 a0:Int):
 Calls Tryz.prog 174 #[.pointer (some ⟨rb,0,none⟩),.int .i64 e0,.int .i64 a0] w fun e w'=>e= .returned (.tuple #[])∧Rd S w' rb bv bs (s.fail e0 a0)∧Fr [rb] w w':=by
 have hC:=h.loc.cell;have hF:=h.loc.frz;simp only[bW]at hC
 by_cases h1:s.err=0
 ·have g1:(s.err==0)=true:=by simp[h1]
  by_cases h2:e0=0
  ·have g2:(e0==0)=true:=by simp[h2]
   have g3:(e0 !=0)=false:=by simp[h2]
   have hh:s.fail e0 a0=s:=by simp[ax.fail,h2]
   have HH:=Lib.hid hh
   clear h1 h2 hh
   exact X9
  ·have g2:(e0==0)=false:=by simp[h2]
   have g3:(e0 !=0)=true:=by simp[h2]
   have hh:s.fail e0 a0={s with err:=e0,errAt:=a0}:=by simp[ax.fail,h1,h2]
   have HH:=Lib.hid hh
   clear h1 h2 hh
   go_enter Tryz.func174,Tryz.ntmps174
   go_wp2_with (go_at_call 228;refine(be (by assumption)).mono ?_;rintro e w' ⟨rfl,rfl⟩)
   go_end0
   have hf:Fr [rb] w ((w.setCell ⟨rb,1,none⟩ (.int .i64 e0)).setCell ⟨rb,2,none⟩ (.int .i64 a0)):=((Fr.refl _ _).setCell (by simp) _).setCell (by simp) _
   refine⟨rfl,?_,hf⟩
   rw[HH.out]
   exact h.step hf ((h.loc.set 1 _).set 2 _) h.le
 ·have g1:(s.err==0)=false:=by simp[h1]
  have hh:s.fail e0 a0=s:=by simp[ax.fail,h1]
  have HH:=Lib.hid hh
  clear h1 hh
  exact X9
theorem QZ (s:ax) (e a:Int):(s.fail e a).at_=s.at_:=by unfold ax.fail;split<;>rfl
theorem pD {S w rb bv bs s} (h:Rd S w rb bv bs s) (e0:Int) (a0:Nat) (ha:a0≤bs.length):
 Calls Tryz.prog 249 #[.pointer (some ⟨rb,0,none⟩),.int .i64 e0,.int .i64 a0] w fun e w'=>e= .returned (.tuple #[])∧Rd S w' rb bv bs (s.refuse e0 a0)∧Fr [rb] w w':=by
 go_enter Tryz.func249,Tryz.ntmps249
 go_wp2_with (go_at_call 174;refine(dY (by assumption) _ _).mono ?_;rintro e w1 ⟨rfl,hR1,hF1⟩;have hC1:=hR1.loc.cell;have hG1:=hR1.loc.frz;simp only[bW]at hC1)
 go_end0
 have hf:Fr [rb] w (w1.setCell ⟨rb,0,none⟩ (.int .i64 a0)):=hF1.setCell (by simp) _
 exact⟨rfl,h.step hf (hR1.loc.set 0 _) ha,hf⟩
theorem Rd.cellAt {S w rb bv bs s} (h:Rd S w rb bv bs s) (hlt:s.at_<bs.length):
 ∃b off cap,bv= .slice (some ⟨b,off,none⟩) bs.length cap∧w.cell? ⟨b,off+s.at_,none⟩=some (.int .u8 ((bs.getD s.at_ 0).toNat:Int)):=by
 obtain⟨_,_,a,cap,hbv,_,_,_,h6⟩:=h.sl
 rcases h6 with h0|⟨b,off,rfl,_,_,hc⟩
 ·omega
 ·refine⟨b,off,cap,hbv,?_⟩
  rw[hc _ (by omega)]
  simp[B,hlt]
theorem Lb (w:World) (a b:Nat):(w.drewN a).drewN b=w.drewN (a+b):=by simp[World.drewN,Nat.add_assoc]
def oX (bs:List UInt8) (s:ax):Bool:=decide (s.err=0∧s.at_<bs.length)
theorem eO {S w rb bv bs s} (h:Rd S w rb bv bs s):
 Calls Tryz.prog 200 #[.pointer (some ⟨rb,0,none⟩)] w fun e w'=>e= .returned (.tuple #[.int .u8 (bF bs s:Nat),.bool (oX bs s)])∧O6 w w':=by
 have hC:=h.loc.cell;have hF:=h.loc.frz;simp only[bW]at hC
 have hle:=h.le
 have hsm:=h.small
 by_cases h1:s.err=0
 ·have g1:(s.err==0)=true:=by simp[h1]
  by_cases h2:s.at_<bs.length
  ·obtain⟨b,off,cap,hbv,hc⟩:=h.cellAt h2
   have hp:bF bs s=(bs.getD s.at_ 0).toNat:=by unfold bF;rw[if_pos ⟨h1,h2⟩]
   have hv:oX bs s=true:=by simp[oX,h1,h2]
   have g2:decide (bs.length≤s.at_)=false:=by simp;omega
   rw[hv,hp]
   clear h1 hp hv
   generalize (bs.getD s.at_ 0).toNat=c at hc⊢
   subst hbv
   go_enter Tryz.func200,Tryz.ntmps200
   go_wp2_with fail
   go_quiet ((go_at_call 228;exact Calls.quiet_of_same ((be (h.drewN _)).mono fun e w' hh=>⟨hh.1,hh.2.symm⟩)))
   go_wp2
   go_quiet (fail)
   go_wp2
   go_ret2
   exact⟨rfl,_,Lb _ _ _⟩
  ·have hp:bF bs s=0:=by unfold bF;rw[if_neg (fun hh=>h2 hh.2)]
   have hv:oX bs s=false:=by simp[oX,h2]
   have g2:decide (bs.length≤s.at_)=true:=by simp;omega
   rw[hv,hp]
   clear h1 hp hv h2
   obtain⟨a,cap,hbv,_⟩:=h.sl.2.2
   subst hbv
   exact XM
 ·have g1:(s.err==0)=false:=by simp[h1]
  have hp:bF bs s=0:=by unfold bF;rw[if_neg (fun hh=>h1 hh.1)]
  have hv:oX bs s=false:=by simp[oX,h1]
  rw[hv,hp]
  clear h1 hp hv
  exact XM
theorem Fr.of_drewN (S:List Nat) (w:World) (n:Nat):Fr S w (w.drewN n):=(Fr.refl S w).drewN n
theorem fd {S w rb bv bs s} (h:Rd S w rb bv bs s):
 Calls Tryz.prog 210 #[.pointer (some ⟨rb,0,none⟩)] w fun e w'=>e= .returned (.int .u8 ((ai bs s).1:Nat))∧Rd S w' rb bv bs (ai bs s).2∧Fr [rb] w w':=by
 have hC:=h.loc.cell;have hF:=h.loc.frz;simp only[bW]at hC
 have hle:=h.le
 have hsm:=h.small
 by_cases h1:s.err=0∧s.at_<bs.length
 ·have hv:oX bs s=true:=by simp[oX,h1]
  have hp:ai bs s=(bF bs s,s.next):=by unfold ai bF;rw[if_pos h1,if_pos h1]
  have hs:s.next.at_≤bs.length:=by simp[ax.next];omega
  rw[hp]
  clear hp h1
  go_enter Tryz.func210,Tryz.ntmps210
  go_wp2_with (go_at_call 200;refine(eO (by assumption)).mono ?_;rintro e w' ⟨rfl,nq,rfl⟩)
  go_ret
  have hf:Fr [rb] w ((w.drewN nq).setCell ⟨rb,0,none⟩ (.int .i64 (s.at_+1))):=(Fr.of_drewN _ _ _).setCell (by simp) _
  exact⟨rfl,h.step hf ((h.loc.drewN nq).set 0 _) hs,hf⟩
 ·have hv:oX bs s=false:=by simp[oX];omega
  have hp:ai bs s=(0,s.fail 10 s.at_):=by unfold ai;rw[if_neg h1]
  have hr:=h.drewN
  rw[hp]
  clear hp h1
  go_enter Tryz.func210,Tryz.ntmps210
  go_wp2_with first|(go_at_call 200;refine(eO (by assumption)).mono ?_;rintro e w' ⟨rfl,nq,rfl⟩)|(go_at_call 175;refine(d5 (hr _)).mono ?_;rintro e w' ⟨rfl,rfl⟩)|(go_at_call 174;refine(dY (hr _) _ _).mono ?_;rintro e w1 ⟨rfl,hR1,hF1⟩)
  go_ret
  exact⟨rfl,hR1,(Fr.of_drewN _ _ _).trans hF1⟩
theorem qX {S w rb bv bs s} (h:Rd S w rb bv bs s) (a0:Nat) (ha:a0≤bs.length):
 Calls Tryz.prog 270 #[.pointer (some ⟨rb,0,none⟩),.int .i64 a0] w fun e w'=>e= .returned (.tuple #[])∧Rd S w' rb bv bs (s.form a0)∧Fr [rb] w w':=by
 by_cases h1:s.err=0
 ·have g1:(s.err==0)=true:=by simp[h1]
  have hh:s.form a0=s.refuse 60 a0:=by simp[ax.form,h1]
  rw[hh]
  clear h1 hh
  go_enter Tryz.func270,Tryz.ntmps270
  go_wp2_with first|(go_at_call 228;refine(be (by assumption)).mono ?_;rintro e w' ⟨rfl,rfl⟩)|(go_at_call 249;refine(pD (by assumption) _ _ ha).mono ?_;rintro e w1 ⟨rfl,hR1,hF1⟩)
  go_end0
  exact⟨rfl,hR1,hF1⟩
 ·have g1:(s.err==0)=false:=by simp[h1]
  have hh:s.form a0=s:=by simp[ax.form,h1]
  rw[hh]
  clear h1 hh
  go_enter Tryz.func270,Tryz.ntmps270
  go_wp2_with (go_at_call 228;refine(be (by assumption)).mono ?_;rintro e w' ⟨rfl,rfl⟩)
  go_end0
  exact⟨rfl,h,Fr.refl _ _⟩
theorem Pg (S:List Nat) (bv:Value) (bs:List UInt8) (at_ nb cb:Nat) (w:World) (hb:Sl S w 1 bv bs.length (bs.map B)) (hlen:bs.length≤1099511627776) (hat:at_≤bs.length) (h1:1≤nb) (h2:nb≤64)
 (hc:w.cell? ⟨cb,0,none⟩=some (.int .i64 nb)):
 Calls Tryz.prog 258 #[bv,.int .i64 at_,.pointer (some ⟨cb,0,none⟩)] w fun e w'=>
  e= .returned (.tuple #[.int .u64 (ak bs at_ nb false).1,.int .i64 (ak bs at_ nb false).2.1,.int .i64 (ak bs at_ nb false).2.2])∧w=w':=by
 go_enter Tryz.func258,Tryz.ntmps258
 go_wp2_with (go_at_call 103;refine(wm S _ bs _ _ _ hb hlen hat h1 h2).mono ?_;rintro e w' ⟨rfl,rfl⟩)
 go_ret3
 exact⟨rfl,rfl⟩
theorem OV (S:List Nat) (bv:Value) (bs:List UInt8) (at_ nb cb:Nat) (w:World) (hb:Sl S w 1 bv bs.length (bs.map B)) (hlen:bs.length≤1099511627776) (hat:at_≤bs.length) (h1:1≤nb) (h2:nb≤64)
 (hc:w.cell? ⟨cb,0,none⟩=some (.int .i64 nb)):
 Calls Tryz.prog 289 #[bv,.int .i64 at_,.pointer (some ⟨cb,0,none⟩)] w fun e w'=>
  e= .returned (.tuple #[.int .i64 (fC (ak bs at_ nb true).1),.int .i64 (ak bs at_ nb true).2.1,.int .i64 (ak bs at_ nb true).2.2])∧w=w':=by
 go_enter Tryz.func289,Tryz.ntmps289
 go_wp2_with (go_at_call 290;refine(Nf S _ bs _ _ _ hb hlen hat h1 h2).mono ?_;rintro e w' ⟨rfl,rfl⟩)
 go_ret3
 exact⟨rfl,rfl⟩
theorem kX {bs:List UInt8} {at_ nb:Nat} {sg:Bool} (ha:at_≤bs.length) (h0:(ak bs at_ nb sg).2.2=0):(ak bs at_ nb sg).2.1≤bs.length:=by
 rw[eH ha]at h0⊢
 generalize hq:dV sg nb (bs.drop at_) at_ 0 0=q at h0⊢
 obtain⟨v,nx,er⟩:=q
 simp only at h0⊢
 subst h0
 have:=lr _ _ _ _ _ _ _ _ hq
 simp only[List.length_drop]at this
 omega
theorem TE {S w rb bv bs s} (h:Rd S w rb bv bs s) (cb nb:Nat) (h1:1≤nb) (h2:nb≤64) (hc:w.cell? ⟨cb,0,none⟩=some (.int .i64 nb)):
 Calls Tryz.prog 257 #[.pointer (some ⟨rb,0,none⟩),.func (.func 258) #[] #[.pointer (some ⟨cb,0,none⟩)]] w fun e w'=>
  e= .returned (.int .u64 ((rU bs nb s).1:Nat))∧Rd S w' rb bv bs (rU bs nb s).2∧Fr [rb] w w':=by
 have hC:=h.loc.cell;have hF:=h.loc.frz;simp only[bW]at hC
 have hle:=h.le
 have hsm:=h.small
 by_cases he:s.err=0
 ·have g1:(s.err==0)=true:=by simp[he]
  by_cases hr:(ak bs s.at_ nb false).2.2=0
  ·have hp:rU bs nb s=((ak bs s.at_ nb false).1,{s with at_:=(ak bs s.at_ nb false).2.1}):=by unfold rU;rw[if_pos he,if_pos hr]
   have hnx:=kX hle hr
   have hcon:=fun n=>Pg S bv bs s.at_ nb cb (w.drewN n) (h.drewN n).sl hsm hle h1 h2 hc
   rw[hp]
   generalize ak bs s.at_ nb false=q at hcon hr hnx⊢
   exact Yh
  ·have hp:rU bs nb s=(0,s.fail (ak bs s.at_ nb false).2.2 s.at_):=by unfold rU;rw[if_pos he,if_neg hr]
   have hcon:=fun n=>Pg S bv bs s.at_ nb cb (w.drewN n) (h.drewN n).sl hsm hle h1 h2 hc
   rw[hp]
   generalize ak bs s.at_ nb false=q at hcon hr⊢
   exact XT
 ·have g1:(s.err==0)=false:=by simp[he]
  have hp:rU bs nb s=(0,s):=by unfold rU;rw[if_neg he]
  rw[hp]
  clear hp he
  go_enter Tryz.func257,Tryz.ntmps257
  exact Wg
theorem SI {S w rb bv bs s} (h:Rd S w rb bv bs s) (cb nb:Nat) (h1:1≤nb) (h2:nb≤64) (hc:w.cell? ⟨cb,0,none⟩=some (.int .i64 nb)):
 Calls Tryz.prog 288 #[.pointer (some ⟨rb,0,none⟩),.func (.func 289) #[] #[.pointer (some ⟨cb,0,none⟩)]] w fun e w'=>
  e= .returned (.int .i64 (rS bs nb s).1)∧Rd S w' rb bv bs (rS bs nb s).2∧Fr [rb] w w':=by
 have hC:=h.loc.cell;have hF:=h.loc.frz;simp only[bW]at hC
 have hle:=h.le
 have hsm:=h.small
 by_cases he:s.err=0
 ·have g1:(s.err==0)=true:=by simp[he]
  by_cases hr:(ak bs s.at_ nb true).2.2=0
  ·have hp:rS bs nb s=(fC (ak bs s.at_ nb true).1,{s with at_:=(ak bs s.at_ nb true).2.1}):=by unfold rS;rw[if_pos he,if_pos hr]
   have hnx:=kX hle hr
   have hcon:=fun n=>OV S bv bs s.at_ nb cb (w.drewN n) (h.drewN n).sl hsm hle h1 h2 hc
   rw[hp]
   generalize ak bs s.at_ nb true=q at hcon hr hnx⊢
   exact Yh
  ·have hp:rS bs nb s=(0,s.fail (ak bs s.at_ nb true).2.2 s.at_):=by unfold rS;rw[if_pos he,if_neg hr]
   have hcon:=fun n=>OV S bv bs s.at_ nb cb (w.drewN n) (h.drewN n).sl hsm hle h1 h2 hc
   rw[hp]
   generalize ak bs s.at_ nb true=q at hcon hr⊢
   exact XT
 ·have g1:(s.err==0)=false:=by simp[he]
  have hp:rS bs nb s=(0,s):=by unfold rS;rw[if_neg he]
  rw[hp]
  clear hp he
  go_enter Tryz.func288,Tryz.ntmps288
  exact Wg
theorem zJ {S w rb bv bs s} (h:Rd S w rb bv bs s) (nb:Nat) (h1:1≤nb) (h2:nb≤64):
 Calls Tryz.prog 213 #[.pointer (some ⟨rb,0,none⟩),.int .i64 nb] w fun e w'=>e= .returned (.int .u64 ((rU bs nb s).1:Nat))∧Rd S w' rb bv bs (rU bs nb s).2∧Fr [rb] w w':=by
 have hmf:∀(fn:Fn) (first cap:Array Value) (w:World),(Instr.makeFunc fn first cap).run Tryz.prog w= .ok (.func fn first cap) w:=fun _ _ _ _=>rfl
 have hc:(w.alloc (.cells #[.int .i64 nb] 3)).cell? ⟨w.heap.size,0,none⟩=some (.int .i64 nb):=by simp
 have hH:=h.alloc (.cells #[.int .i64 nb] 3)
 go_enter Tryz.func213,Tryz.ntmps213
 go_wp2_with (go_at_call 257;refine(TE hH w.heap.size nb h1 h2 hc).mono ?_;rintro e w' ⟨rfl,hR1,hF1⟩)
 go_ret
 exact⟨rfl,hR1,((Fr.refl _ _).alloc _).trans hF1⟩
theorem zP {S w rb bv bs s} (h:Rd S w rb bv bs s) (nb:Nat) (h1:1≤nb) (h2:nb≤64):
 Calls Tryz.prog 278 #[.pointer (some ⟨rb,0,none⟩),.int .i64 nb] w fun e w'=>e= .returned (.int .i64 (rS bs nb s).1)∧Rd S w' rb bv bs (rS bs nb s).2∧Fr [rb] w w':=by
 have hmf:∀(fn:Fn) (first cap:Array Value) (w:World),(Instr.makeFunc fn first cap).run Tryz.prog w= .ok (.func fn first cap) w:=fun _ _ _ _=>rfl
 have hc:(w.alloc (.cells #[.int .i64 nb] 3)).cell? ⟨w.heap.size,0,none⟩=some (.int .i64 nb):=by simp
 have hH:=h.alloc (.cells #[.int .i64 nb] 3)
 go_enter Tryz.func278,Tryz.ntmps278
 go_wp2_with (go_at_call 288;refine(SI hH w.heap.size nb h1 h2 hc).mono ?_;rintro e w' ⟨rfl,hR1,hF1⟩)
 go_ret
 exact⟨rfl,hR1,((Fr.refl _ _).alloc _).trans hF1⟩
theorem UY (bs:List UInt8) (nb:Nat) (s:ax):(rU bs nb s).1<18446744073709551616:=by
 unfold rU
 split
 ·split
  ·exact vP _ _ _ _
  ·simp
 ·simp
theorem cZ {S w rb bv bs s} (h:Rd S w rb bv bs s):
 Calls Tryz.prog 199 #[.pointer (some ⟨rb,0,none⟩)] w fun e w'=>e= .returned (.int .i64 ((af bs s).1:Nat))∧Rd S w' rb bv bs (af bs s).2∧Fr [rb] w w':=by
 have ha0:=h.le
 have hlt:=UY bs 32 s
 by_cases hg:bs.length-(rU bs 32 s).2.at_< (rU bs 32 s).1
 ·have hp:af bs s=(0,(rU bs 32 s).2.refuse 10 s.at_):=by unfold af;rw[if_pos hg]
  rw[hp]
  clear hp
  go_enter Tryz.func199,Tryz.ntmps199
  go_wp2_with first|(go_at_call 175;refine(d5 (by assumption)).mono ?_;rintro e w' ⟨rfl,rfl⟩)|(go_at_call 213;refine(zJ h 32 (by decide) (by decide)).mono ?_;rintro e w1 ⟨rfl,hR1,hF1⟩)|fail
  have hd:=hR1.drewN
  have hle1:=hR1.le
  have hsm:=hR1.small
  have hg2:((bs.length:Int)-((rU bs 32 s).2.at_:Int)< ((rU bs 32 s).1:Int)):=by omega
  go_wp2_with first|(go_at_call 173;refine(gU (by assumption)).mono ?_;rintro e w' ⟨rfl,nq,rfl⟩)|(go_at_call 249;refine(pD (hd _) _ _ ha0).mono ?_;rintro e w2 ⟨rfl,hR2,hF2⟩)
  go_ret
  exact⟨rfl,hR2,(hF1.drewN _).trans hF2⟩
 ·have hp:af bs s=rU bs 32 s:=by unfold af;rw[if_neg hg]
  rw[hp]
  clear hp
  go_enter Tryz.func199,Tryz.ntmps199
  go_wp2_with first|(go_at_call 175;refine(d5 (by assumption)).mono ?_;rintro e w' ⟨rfl,rfl⟩)|(go_at_call 213;refine(zJ h 32 (by decide) (by decide)).mono ?_;rintro e w1 ⟨rfl,hR1,hF1⟩)|fail
  have hd:=hR1.drewN
  have hle1:=hR1.le
  have hsm:=hR1.small
  have hg2:¬((bs.length:Int)-((rU bs 32 s).2.at_:Int)< ((rU bs 32 s).1:Int)):=by omega
  have hg3:((rU bs 32 s).1:Int)≤1099511627776:=by omega
  go_wp2_with (go_at_call 173;refine(gU (by assumption)).mono ?_;rintro e w' ⟨rfl,nq,rfl⟩)
  go_ret
  exact⟨rfl,hd _,hF1.drewN _⟩
def fe (h:aC):Value:= .agg #[.int .i64 h.kind,.int .i64 h.n]
def qu (v:aF):Value:= .agg #[.int .i64 v.kind,.bool v.null,.int .i64 v.heap.kind,.int .i64 v.heap.n]
attribute [go_sem] fe qu
theorem pO {S:List Nat} {w:World} (hg:Gl S w) (c:Nat) (hc:c<256):
 Calls Tryz.prog 273 #[.int .u8 c] w fun e w'=>e= .returned (.tuple #[fe ⟨cz c,0⟩,.bool (decide (105≤c∧c<117))])∧Fr [] w w':=by
 by_cases h1:105≤c∧c<117
 ·have hcell:=fun o:Obj=>(World.cell?_alloc_lt w o ⟨0,c-105,none⟩ hg.lt).trans (hg.cell (c-105) (by omega))
  have hk:cz c=dB.getD (c-105) 0:=by unfold cz;rw[if_neg (by omega)]
  have hd:decide (105≤c∧c<117)=true:=by simpa using h1
  rw[hd,hk]
  generalize dB.getD (c-105) 0=k at hcell⊢
  have hi:((c:Int)-105).toNat=c-105:=by omega
  clear hk hd
  obtain⟨h1a,h1b⟩:=h1
  go_enter Tryz.func273,Tryz.ntmps273
  go_wp2
  refine bodyPost_ret (v:= .tuple #[fe ⟨k,0⟩,.bool true]) (by simp[results,Tryz.results273,go_sem]) rfl ⟨rfl,?_⟩
  exact Wk
 ·have hk:cz c=0:=by unfold cz;rw[if_pos (by omega)]
  have hd:decide (105≤c∧c<117)=false:=by simpa using h1
  rw[hd,hk]
  clear hk hd
  go_enter Tryz.func273,Tryz.ntmps273
  go_wp2
  all_goals
   refine bodyPost_ret (v:= .tuple #[fe ⟨0,0⟩,.bool false]) (by simp[results,Tryz.results273,go_sem]) rfl ⟨rfl,?_⟩
   repeat(first|(with_reducible exact Fr.refl _ _)|(with_reducible assumption)|(with_reducible apply Fr.alloc)|(with_reducible apply Fr.drew)|(with_reducible apply Fr.drewN)|(with_reducible refine Fr.setCell ?_ (by first|(left;simp;done)|(right;simp;done)|(right;simp;omega)) _))
theorem yE {S w rb bv bs s} (h:Rd S w rb bv bs s) (x:aC):
 Calls Tryz.prog 286 #[.pointer (some ⟨rb,0,none⟩),fe x] w fun e w'=>e= .returned (fe (s.told aC.zero x))∧Fr [] w w':=by
 have hR:=fun o1 o2=>(h.alloc o1).alloc o2
 by_cases he:s.err=0
 ·have g1:(s.err==0)=true:=by simp[he]
  have ht:s.told aC.zero x=x:=by simp[ax.told,he]
  rw[ht]
  unfold fe
  clear ht he
  go_enter Tryz.func286,Tryz.ntmps286
  go_wp2_with (go_at_call 228;refine(be (hR _ _)).mono ?_;rintro e w' ⟨rfl,rfl⟩)
  refine bodyPost_ret (v:=fe x) (by simp[results,Tryz.results286,go_sem]) rfl ⟨rfl,?_⟩
  exact Wk
 ·have g1:(s.err==0)=false:=by simp[he]
  have ht:s.told aC.zero x=aC.zero:=by simp[ax.told,he]
  rw[ht]
  unfold fe
  clear ht he
  go_enter Tryz.func286,Tryz.ntmps286
  go_wp2_with (go_at_call 228;refine(be (hR _ _)).mono ?_;rintro e w' ⟨rfl,rfl⟩)
  refine bodyPost_ret (v:=fe aC.zero) (by simp[results,Tryz.results286,go_sem,aC.zero]) rfl ⟨rfl,?_⟩
  exact Wk
theorem MD {S w rb bv bs s} (h:Rd S w rb bv bs s) (x:aF):
 Calls Tryz.prog 271 #[.pointer (some ⟨rb,0,none⟩),qu x] w fun e w'=>e= .returned (qu (s.told aF.zero x))∧Fr [] w w':=by
 have hR:=fun o1 o2=>(h.alloc o1).alloc o2
 by_cases he:s.err=0
 ·have g1:(s.err==0)=true:=by simp[he]
  have ht:s.told aF.zero x=x:=by simp[ax.told,he]
  rw[ht]
  unfold qu
  clear ht he
  go_enter Tryz.func271,Tryz.ntmps271
  go_wp2_with (go_at_call 228;refine(be (hR _ _)).mono ?_;rintro e w' ⟨rfl,rfl⟩)
  refine bodyPost_ret (v:=qu x) (by simp[results,Tryz.results271,go_sem]) rfl ⟨rfl,?_⟩
  exact Wk
 ·have g1:(s.err==0)=false:=by simp[he]
  have ht:s.told aF.zero x=aF.zero:=by simp[ax.told,he]
  rw[ht]
  unfold qu
  clear ht he
  go_enter Tryz.func271,Tryz.ntmps271
  go_wp2_with (go_at_call 228;refine(be (hR _ _)).mono ?_;rintro e w' ⟨rfl,rfl⟩)
  refine bodyPost_ret (v:=qu aF.zero) (by simp[results,Tryz.results271,go_sem,aF.zero]) rfl ⟨rfl,?_⟩
  exact Wk
theorem rh (bs:List UInt8) (s:ax):bF bs s<256:=by
 unfold bF
 split
 ·exact(bs.getD s.at_ 0).toNat_lt
 ·decide
theorem yX (c:Nat):decide (105≤c∧c<117)=!(cz c==0):=by
 by_cases h:105≤c∧c<117
 ·exact XY
 ·have:cz c=0:=by unfold cz;rw[if_pos (by omega)]
  rw[this];simpa using h
theorem Nl {S w rb bv bs s} (h:Rd S w rb bv bs s) (n:Nat) (hn:n≤bs.length):Rd S (w.setCell ⟨rb,0,none⟩ (.int .i64 n)) rb bv bs {s with at_:=n}:=
 h.step ((Fr.refl _ _).setCell (by simp) _) (h.loc.set 0 _) hn
theorem mm {S w rb bv bs s} (h:Rd S w rb bv bs s) (hn:s.at_<bs.length):Rd S (w.setCell ⟨rb,0,none⟩ (.int .i64 ((s.at_:Int)+1))) rb bv bs s.next:=
 Nl h (s.at_+1) hn
theorem rI {S w rb bv bs s} (h:Rd S w rb bv bs s):
 Calls Tryz.prog 272 #[.pointer (some ⟨rb,0,none⟩)] w fun e w'=>e= .returned (fe (co bs s).1)∧Rd S w' rb bv bs (co bs s).2∧Fr [rb] w w':=by
 have hle:=h.le
 have hsm:=h.small
 have hrb:=h.loc.lt
 have hcl:=rh bs s
 have hR:=h.loc1 (.cells #[.int .i64 0,.int .i64 0] 59)
 have hgiff:=yX (bF bs s)
 have hL:bB (w.alloc (.cells #[.int .i64 0,.int .i64 0] 59)) w.heap.size [.int .i64 0,.int .i64 0] 59:=bB.new _ _ _
 have f0:Fr [rb] w (w.alloc (.cells #[.int .i64 0,.int .i64 0] 59)):=(Fr.refl _ _).alloc _
 by_cases hg:cz (bF bs s)=0
 ·have hg2:decide (105≤bF bs s∧bF bs s<117)=false:=by rw[hgiff,hg];rfl
  by_cases hn:(rS bs 33 s).1<0
  ·have hp:co bs s=(aC.zero,(rS bs 33 s).2.refuse 60 s.at_):=by unfold co;rw[if_pos hg,if_pos hn]
   have ht:((rS bs 33 s).2.refuse 60 s.at_).told aC.zero ⟨13,(rS bs 33 s).1⟩=aC.zero:=by
    by_cases h0:(rS bs 33 s).2.err=0
    ·simp[ax.told,ax.refuse,ax.fail,h0]
    ·simp[ax.told,ax.refuse,ax.fail,h0]
   have HT:=Lib.hid ht
   rw[hp]
   clear hgiff hg hp ht
   go_enter Tryz.func272,Tryz.ntmps272
   go_wp2_with first|(go_at_call 175;refine(d5 hR).mono ?_;rintro e w' ⟨rfl,rfl⟩)|(go_at_call 200;refine(eO hR).mono ?_;rintro e w' ⟨rfl,nq,rfl⟩)|(go_at_call 273;refine(pO (hR.drewN _).gl _ hcl).mono ?_;rintro e w1 ⟨rfl,hF1⟩)|fail
   have hR1:=(hR.drewN nq).fr hF1 (by simp) (by simp)
   have hR1o:=fun o=>hR1.alloc o
   have hL1:=(hL.drewN nq).fr hF1 (by simp)
   have f1:=(f0.drewN nq).trans (hF1.mono (by simp))
   go_wp2_with first|(go_at_call 278;refine(zP (hR1o _) 33 (by decide) (by decide)).mono ?_;rintro e w2 ⟨rfl,hR2,hF2⟩)|fail
   have hL2:=(hL1.alloc _).fr hF2 (by simp;omega)
   have f2:=(f1.alloc _).trans hF2
   go_wp2_with first|(go_at_call 249;refine(pD hR2 _ _ hle).mono ?_;rintro e w3 ⟨rfl,hR3,hF3⟩)|fail
   have hL3:=hL2.fr hF3 (by simp;omega)
   have f3:=f2.trans hF3
   go_wp2_with ((go_at_call 286;refine(yE hR3 ⟨13,_⟩).mono ?_;rintro e w4 ⟨rfl,hF4⟩);rw[HT.out];have hL4:=hL3.fr hF4 (by simp);have hR4:=hR3.fr hF4 (by simp) (by simp);have f4:=f3.trans (hF4.mono (by simp));have hLC4:=hL4.cell;have hLF4:=hL4.frz;have hLT4:=hL4.lt)
   refine bodyPost_ret (v:=fe aC.zero) (by simp[results,Tryz.results272,go_sem, *]) rfl ⟨rfl,?_,?_⟩
   ·exact tf
   ·exact cF
  ·have hp:co bs s=((rS bs 33 s).2.told aC.zero ⟨13,(rS bs 33 s).1⟩,(rS bs 33 s).2):=by unfold co;rw[if_pos hg,if_neg hn]
   rw[hp]
   clear hgiff hg hp
   go_enter Tryz.func272,Tryz.ntmps272
   go_wp2_with first|(go_at_call 175;refine(d5 hR).mono ?_;rintro e w' ⟨rfl,rfl⟩)|(go_at_call 200;refine(eO hR).mono ?_;rintro e w' ⟨rfl,nq,rfl⟩)|(go_at_call 273;refine(pO (hR.drewN _).gl _ hcl).mono ?_;rintro e w1 ⟨rfl,hF1⟩)|fail
   have hR1:=(hR.drewN nq).fr hF1 (by simp) (by simp)
   have hR1o:=fun o=>hR1.alloc o
   have hL1:=(hL.drewN nq).fr hF1 (by simp)
   have f1:=(f0.drewN nq).trans (hF1.mono (by simp))
   go_wp2_with first|(go_at_call 278;refine(zP (hR1o _) 33 (by decide) (by decide)).mono ?_;rintro e w2 ⟨rfl,hR2,hF2⟩)|fail
   have hL2:=(hL1.alloc _).fr hF2 (by simp;omega)
   have f2:=(f1.alloc _).trans hF2
   go_wp2_with ((go_at_call 286;refine(yE hR2 ⟨13,_⟩).mono ?_;rintro e w4 ⟨rfl,hF4⟩);have hL4:=hL2.fr hF4 (by simp);have hR4:=hR2.fr hF4 (by simp) (by simp);have f4:=f2.trans (hF4.mono (by simp));have hLC4:=hL4.cell;have hLF4:=hL4.frz;have hLT4:=hL4.lt)
   refine bodyPost_ret (v:=fe _) (by simp[results,Tryz.results272,go_sem, *]) rfl ⟨rfl,?_,?_⟩
   ·exact tf
   ·exact cF
 ·have hp:co bs s=(⟨cz (bF bs s),0⟩,s.next):=by unfold co;rw[if_neg hg]
  have hlt:=(fJ (s:=s) (bs:=bs) (fun h0=>hg (by rw[h0];rfl))).2.1
  have hg2:decide (105≤bF bs s∧bF bs s<117)=true:=by rw[hgiff];simpa using hg
  rw[hp]
  clear hgiff hg hp
  go_enter Tryz.func272,Tryz.ntmps272
  go_wp2_with first|(go_at_call 175;refine(d5 hR).mono ?_;rintro e w' ⟨rfl,rfl⟩)|(go_at_call 200;refine(eO hR).mono ?_;rintro e w' ⟨rfl,nq,rfl⟩)|((go_at_call 273;refine(pO (hR.drewN _).gl _ hcl).mono ?_;rintro e w1 ⟨rfl,hF1⟩);have hR1:=(hR.drewN nq).fr hF1 (by simp) (by simp);have hL1:=(hL.drewN nq).fr hF1 (by simp);have f1:=(f0.drewN nq).trans (hF1.mono (by simp));have hC1:=hR1.loc.cell;have hG1:=hR1.loc.frz;have hT1:=hR1.loc.lt;simp only[bW]at hC1;have hLC1:=hL1.cell;have hLF1:=hL1.frz;have hLT1:=hL1.lt)
  have hE:=mm hR1 hlt
  refine bodyPost_ret (v:=fe ⟨cz (bF bs s),0⟩) (by simp[results,Tryz.results272,go_sem, *]) rfl ⟨rfl,?_,?_⟩
  ·exact tf
  ·exact cF
theorem kx:Tryz.prog.underlying 61=some ((Tryz.prog.underlying 61).get (by kernel_rfl)):=by kernel_rfl
theorem iP:(Tryz.prog.info? 61).map (·.size)=some 4:=by kernel_rfl
theorem kV (bs:List UInt8) (s:ax):(ai bs s).1<256:=by
 unfold ai
 split
 ·exact(bs.getD s.at_ 0).toNat_lt
 ·simp
theorem qP {S w rb bv bs s} (h:Rd S w rb bv bs s):
 Calls Tryz.prog 254 #[.pointer (some ⟨rb,0,none⟩)] w fun e w'=>e= .returned (qu (bw bs s).1)∧Rd S w' rb bv bs (bw bs s).2∧Fr [rb] w w':=by
 have hle:=h.le
 have hrb:=h.loc.lt
 have hcl:=kV bs s
 have hR:=h.loc1 (.cells #[.int .i64 0,.bool false,.int .i64 0,.int .i64 0] 61)
 have hL:bB (w.alloc (.cells #[.int .i64 0,.bool false,.int .i64 0,.int .i64 0] 61)) w.heap.size [.int .i64 0,.bool false,.int .i64 0,.int .i64 0] 61:=bB.new _ _ _
 have f0:Fr [rb] w (w.alloc (.cells #[.int .i64 0,.bool false,.int .i64 0,.int .i64 0] 61)):=(Fr.refl _ _).alloc _
 have hgiff:=yX (ai bs s).1
 have HG:=Lib.hid hgiff
 clear hgiff
 go_enter Tryz.func254,Tryz.ntmps254
 go_wp2_with first|(go_at_call 175;refine(d5 hR).mono ?_;rintro e w' ⟨rfl,rfl⟩)|((go_at_call 210;refine(fd hR).mono ?_;rintro e w1 ⟨rfl,hR1,hF1⟩);have hL1:=hL.fr hF1 (by simp;omega);have f1:=f0.trans hF1;have hLC1:=hL1.cell;have hLF1:=hL1.frz;have hLT1:=hL1.lt)|((go_at_call 272;refine(rI hR1).mono ?_;rintro e w2 ⟨rfl,hR2,hF2⟩);have hL2:=hL1.fr hF2 (by simp;omega);have f2:=f1.trans hF2;have hLC2:=hL2.cell;have hLF2:=hL2.frz;have hLT2:=hL2.lt)|((go_at_call 271;refine(MD hR2 ⟨3,_,⟨_,_⟩⟩).mono ?_;rintro e w3 ⟨rfl,hF3⟩);have hL3:=hL2.fr hF3 (by simp);have hR3:=hR2.fr hF3 (by simp) (by simp);have f3:=f2.trans (hF3.mono (by simp));have hLC3:=hL3.cell;have hLF3:=hL3.frz;have hLT3:=hL3.lt)|((go_at_call 249;refine(pD hR1 _ _ hle).mono ?_;rintro e w4 ⟨rfl,hR4,hF4⟩);have hL4:=hL1.fr hF4 (by simp;omega);have f4:=f1.trans hF4;have hLC4:=hL4.cell;have hLF4:=hL4.frz;have hLT4:=hL4.lt)|((go_at_call 273;refine(pO hR1.gl _ hcl).mono ?_;rintro e w5 ⟨rfl,hF5⟩);have hL5:=hL1.fr hF5 (by simp);have hR5:=hR1.fr hF5 (by simp) (by simp);have hR5o:=fun o=>hR5.alloc o;have f5:=f1.trans (hF5.mono (by simp));have hLC5:=hL5.cell;have hLF5:=hL5.frz;have hLT5:=hL5.lt)|((go_at_call 270;refine(qX (hR5o _) _ hle).mono ?_;rintro e w6 ⟨rfl,hR6,hF6⟩);have hL6:=(hL5.alloc _).fr hF6 (by simp;omega);have f6:=(f5.alloc _).trans hF6;have hLC6:=hL6.cell;have hLF6:=hL6.frz;have hLT6:=hL6.lt)
 ·have q0:(((ai bs s).1:Nat):Int)=127:=iu (by assumption)
  have hp:bw bs s=(⟨1,false,⟨0,0⟩⟩,(ai bs s).2):=by unfold bw;rw[if_pos (by omega)]
  exact WG
 ·have q0:(((ai bs s).1:Nat):Int)≠127:=aH (by assumption)
  have q1:(((ai bs s).1:Nat):Int)=126:=iu (by assumption)
  have hp:bw bs s=(⟨2,false,⟨0,0⟩⟩,(ai bs s).2):=by unfold bw;rw[if_neg (by omega),if_pos (by omega)]
  exact WG
 ·have q0:(((ai bs s).1:Nat):Int)≠127:=aH (by assumption)
  have q1:(((ai bs s).1:Nat):Int)≠126:=aH (by assumption)
  have q2:(((ai bs s).1:Nat):Int)=100:=iu (by assumption)
  have q99:((((ai bs s).1:Nat):Int)==99)=false:=by simp;omega
  have q99n:((ai bs s).1==99)=false:=by simp;omega
  have hp:bw bs s=((co bs (ai bs s).2).2.told aF.zero ⟨3,false,(co bs (ai bs s).2).1⟩,(co bs (ai bs s).2).2):=by unfold bw;rw[if_neg (by omega),if_neg (by omega),if_pos (by omega)];rw[q99n]
  rw[hp]
  refine eK rfl rfl ((((hL3.set 0 _).set 1 _).set 2 _).set 3 _) kx rfl iP rfl ⟨by rw[q99];rfl,?_,?_⟩
  ·exact tf
  ·exact cF
 ·have q0:(((ai bs s).1:Nat):Int)≠127:=aH (by assumption)
  have q1:(((ai bs s).1:Nat):Int)≠126:=aH (by assumption)
  have q2:(((ai bs s).1:Nat):Int)≠100:=aH (by assumption)
  have q3:(((ai bs s).1:Nat):Int)=99:=iu (by assumption)
  have q99:((((ai bs s).1:Nat):Int)==99)=true:=by simp;omega
  have q99n:((ai bs s).1==99)=true:=by simp;omega
  have hp:bw bs s=((co bs (ai bs s).2).2.told aF.zero ⟨3,true,(co bs (ai bs s).2).1⟩,(co bs (ai bs s).2).2):=by unfold bw;rw[if_neg (by omega),if_neg (by omega),if_pos (by omega)];rw[q99n]
  rw[hp]
  refine eK rfl rfl ((((hL3.set 0 _).set 1 _).set 2 _).set 3 _) kx rfl iP rfl ⟨rfl,?_,?_⟩
  ·exact tf
  ·exact cF
 ·have q0:(((ai bs s).1:Nat):Int)≠127:=aH (by assumption)
  have q1:(((ai bs s).1:Nat):Int)≠126:=aH (by assumption)
  have q2:(((ai bs s).1:Nat):Int)≠100:=aH (by assumption)
  have q3:(((ai bs s).1:Nat):Int)≠99:=aH (by assumption)
  have q4:(((ai bs s).1:Nat):Int)=125:=iu (by assumption)
  exact S4
 ·have q0:(((ai bs s).1:Nat):Int)≠127:=aH (by assumption)
  have q1:(((ai bs s).1:Nat):Int)≠126:=aH (by assumption)
  have q2:(((ai bs s).1:Nat):Int)≠100:=aH (by assumption)
  have q3:(((ai bs s).1:Nat):Int)≠99:=aH (by assumption)
  have q4:(((ai bs s).1:Nat):Int)≠125:=aH (by assumption)
  have q5:(((ai bs s).1:Nat):Int)=124:=iu (by assumption)
  exact S4
 ·have q0:(((ai bs s).1:Nat):Int)≠127:=aH (by assumption)
  have q1:(((ai bs s).1:Nat):Int)≠126:=aH (by assumption)
  have q2:(((ai bs s).1:Nat):Int)≠100:=aH (by assumption)
  have q3:(((ai bs s).1:Nat):Int)≠99:=aH (by assumption)
  have q4:(((ai bs s).1:Nat):Int)≠125:=aH (by assumption)
  have q5:(((ai bs s).1:Nat):Int)≠124:=aH (by assumption)
  have q6:(((ai bs s).1:Nat):Int)=123:=iu (by assumption)
  exact S4
 ·have q0:(((ai bs s).1:Nat):Int)≠127:=aH (by assumption)
  have q1:(((ai bs s).1:Nat):Int)≠126:=aH (by assumption)
  have q2:(((ai bs s).1:Nat):Int)≠100:=aH (by assumption)
  have q3:(((ai bs s).1:Nat):Int)≠99:=aH (by assumption)
  have q4:(((ai bs s).1:Nat):Int)≠125:=aH (by assumption)
  have q5:(((ai bs s).1:Nat):Int)≠124:=aH (by assumption)
  have q6:(((ai bs s).1:Nat):Int)≠123:=aH (by assumption)
  have hg:cz (ai bs s).1=0:=by
   have h1:=HG.out
   by_cases h0:cz (ai bs s).1=0
   ·exact h0
   ·exfalso
    rw[show(!(cz (ai bs s).1==0))=true by simpa using h0]at h1
    simp only[decide_eq_true_eq]at h1
    have h2:(!decide (105≤(ai bs s).1))=true∨(!decide ((ai bs s).1<117))=true:=by assumption
    simp at h2
    omega
  have hp:bw bs s=(aF.zero,(ai bs s).2.form s.at_):=by unfold bw;rw[if_neg (by omega),if_neg (by omega),if_neg (by omega),if_neg (by omega)];rw[if_pos hg]
  rw[hp]
  refine eK rfl rfl ((((hL6.set 0 _).set 1 _).set 2 _).set 3 _) kx rfl iP rfl ⟨rfl,?_,?_⟩
  ·exact tf
  ·exact cF
 ·have q0:(((ai bs s).1:Nat):Int)≠127:=aH (by assumption)
  have q1:(((ai bs s).1:Nat):Int)≠126:=aH (by assumption)
  have q2:(((ai bs s).1:Nat):Int)≠100:=aH (by assumption)
  have q3:(((ai bs s).1:Nat):Int)≠99:=aH (by assumption)
  have q4:(((ai bs s).1:Nat):Int)≠125:=aH (by assumption)
  have q5:(((ai bs s).1:Nat):Int)≠124:=aH (by assumption)
  have q6:(((ai bs s).1:Nat):Int)≠123:=aH (by assumption)
  have hg:cz (ai bs s).1≠0:=by
   have h1:=HG.out
   intro h0
   rw[h0]at h1
   have h2:(!decide (105≤(ai bs s).1))=false∧(!decide ((ai bs s).1<117))=false:=by assumption
   simp at h1 h2
   omega
  have hp:bw bs s=(⟨3,true,⟨cz (ai bs s).1,0⟩⟩,(ai bs s).2):=by unfold bw;rw[if_neg (by omega),if_neg (by omega),if_neg (by omega),if_neg (by omega)];rw[if_neg hg]
  rw[hp]
  refine eK rfl rfl (((((hL5.set 0 _).set 1 _).set 2 _).set 3 _).alloc _) kx rfl iP rfl ⟨rfl,?_,?_⟩
  ·exact tf
  ·exact cF
def ju (h:aC):List Value:= [.int .i64 h.kind,.int .i64 h.n]
def cj (v:aF):List Value:= [.int .i64 v.kind,.bool v.null,.int .i64 v.heap.kind,.int .i64 v.heap.n]
def fG (f:ey):List Value:= [.int .i64 f.pack,.int .i64 f.val.kind,.bool f.val.null,.int .i64 f.val.heap.kind,.int .i64 f.val.heap.n,.bool f.mut_]
theorem cn (bs:List UInt8) (s:ax):(af bs s).1≤bs.length:=by
 unfold af
 split
 ·simp
 ·omega
theorem Lh:(Tryz.prog.info? 61).map (fun i=>(i.zero,i.size,i.bytes))=some (some (.agg #[.int .i64 0,.bool false,.int .i64 0,.int .i64 0]),4,32):=by kernel_rfl
theorem ph:Tryz.prog.underlying 131=some (.slice 61):=by kernel_rfl
theorem Rv {w:World} {ops:Array Oper} {rest:List Oper} {o:Oper} {a:Act} {Q:Exit→Act→World→Prop} (hgd:o.guard=none) (s x:Operand) (tx:TypeId)
 (ho:o.op= .call {callee:= .builtin .append,args:= #[s,x],argTypes:= #[131,tx]})
 (v:Value) (n:Nat) (xs:List Value) (hs:a.eval s=v) (hown:bf [] w 61 4 v n xs) (xv:Value) (m:Nat) (news:List Value) (hx:a.eval x=xv) (hsrc:Src Tryz.prog 4 tx xv m news w)
 (hb:n+m≤1099511627776)
 (h:∀v' w',bf [] w' 61 4 v' (n+m) (xs++news)→Fr (Value.blk v) w w'→(Value.blk v'=Value.blk v∨Value.blk v'= [w.heap.size])→wpList Tryz.prog ops Q rest (a.put o.dst v') w'):
 wpList Tryz.prog ops Q (o::rest) a w:=by
 obtain⟨i0,hi,hz0,hz1,hz2⟩:=info_parts Lh
 exact gI hgd s x _ tx ho _ i0 _ 4 32 ph hi hz0 hz1 hz2 rfl (by decide) [] (by simp) v n xs hs hown xv m news hx hsrc (by omega) (by unfold maxLen;omega) h
theorem pN {S w rb bv bs s} (h:Rd S w rb bv bs s) (v:Value):
 Calls Tryz.prog 291 #[.pointer (some ⟨rb,0,none⟩),v] w fun e w'=>e= .returned (if s.err=0 then v else .slice none 0 0)∧w=w':=by
 exact WL
theorem N8 {S w rb bv bs s} (h:Rd S w rb bv bs s):
 Calls Tryz.prog 284 #[.pointer (some ⟨rb,0,none⟩),.func (.func 254) #[.pointer (some ⟨rb,0,none⟩)] #[]] w fun e w'=>
  ∃v,e= .returned v∧Sl S w' 4 v (bX bs (bw bs) s).1.length ((bX bs (bw bs) s).1.flatMap cj)∧Rd S w' rb bv bs (bX bs (bw bs) s).2∧Fr [rb] w w':=by
 have hrb:=h.loc.lt
 have hsm:=h.small
 have hN:=cn bs s
 have hl:bX bs (bw bs) s=((av (bw bs) (af bs s).1 (af bs s).2).2.told [] (av (bw bs) (af bs s).1 (af bs s).2).1,(av (bw bs) (af bs s).1 (af bs s).2).2):=rfl
 rw[hl]
 clear hl
 go_enter Tryz.func284,Tryz.ntmps284
 go_wp2_with (go_at_call 199;refine(cZ h).mono ?_;rintro e w1 ⟨rfl,hR1,hF1⟩)
 go_loopw [5,6] (fun v n wr=>∃(k:Nat) (xs:List aF) (t:ax),n= .int .i64 k∧bf [] wr 61 4 v xs.length (xs.flatMap cj)∧jS w v∧Rd S wr rb bv bs t∧Fr [rb] w wr∧k+xs.length=(af bs s).1∧Hid (av (bw bs) (af bs s).1 (af bs s).2=(xs++(av (bw bs) k t).1,(av (bw bs) k t).2))) (fun _ n _=>(intOf n).toNat)
 case atStart=>exact⟨(af bs s).1,[],_,rfl,bf.nil _ _ _ _,jS.nil _,hR1,hF1,by simp,Lib.hid rfl⟩
 case round=>
  obtain⟨k,xs,t,rfl,hown,hnew,hR,hF,hks,hg⟩:=hrel
  have Hks:=Lib.hid hks
  have hbnd:xs.length+1≤1099511627776∨k=0:=by omega
  clear hks
  have hexit:(k=0∨t.err≠0)→av (bw bs) (af bs s).1 (af bs s).2=(xs,t):=by
   exact Tz
  by_cases hk:k=0
  ·have hE:=Lib.hid (hexit (.inl hk))
   subst hk
   clear hexit hbnd
   by_cases he:t.err=0
   ·have g1:(t.err==0)=true:=by simp[he]
    go_wp2_with first|(go_at_call 291;refine(pN hR _).mono ?_;rintro e w' ⟨rfl,rfl⟩)|(go_at_call 228;refine(be hR).mono ?_;rintro e w' ⟨rfl,rfl⟩)
    exact Xh
   ·have g1:(t.err==0)=false:=by simp[he]
    exact Uz
  ·by_cases he:t.err=0
   ·exact XC
   ·have g1:(t.err==0)=false:=by simp[he]
    have hE:=Lib.hid (hexit (.inr he))
    have hkp:0<k:=by omega
    clear hexit hbnd
    exact Uz
theorem CS:∀(l:List UInt8) (at_ done acc:Nat),acc<2^done→done<32→(dV false 32 l at_ done acc).1<549755813888:=by
 intro l
 induction l with
 |nil=>intro at_ done acc _ _;simp[dV]
 |cons c r ih=>
  intro at_ done acc ha hd
  have hlt:acc+c.toNat% 128*2^done<2^(done+7):=iL ha (by rw[show done+7-done=7 by omega];omega) (by omega)
  have hm:(acc+c.toNat% 128*2^done)% 18446744073709551616<2^(done+7):=Nat.lt_of_le_of_lt (Nat.mod_le _ _) hlt
  have hp:2^(done+7)≤2^39:=Nat.pow_le_pow_right (by omega) (by omega)
  simp only[dV]
  split
  ·simp
  ·split
   ·simp only[Bool.false_and,Bool.false_eq_true,if_false]
    omega
   ·split
    ·simp
    ·exact ih _ _ _ hm (by omega)
theorem pX (bs:List UInt8) (s:ax):(rU bs 32 s).1<549755813888:=by
 unfold rU
 split
 ·split
  ·unfold ak
   split
   ·exact CS _ _ _ _ (by simp) (by omega)
   ·simp
  ·simp
 ·simp
theorem OG {S w rb bv bs s} (h:Rd S w rb bv bs s):
 Calls Tryz.prog 251 #[.pointer (some ⟨rb,0,none⟩)] w fun e w'=>e= .returned (fe (bR bs s).1)∧Rd S w' rb bv bs (bR bs s).2∧Fr [rb] w w':=by
 have hrb:=h.loc.lt
 have hlt:=pX bs s
 have hR:=h.loc1 (.cells #[.int .i64 0,.int .i64 0] 59)
 have hL:bB (w.alloc (.cells #[.int .i64 0,.int .i64 0] 59)) w.heap.size [.int .i64 0,.int .i64 0] 59:=bB.new _ _ _
 have f0:Fr [rb] w (w.alloc (.cells #[.int .i64 0,.int .i64 0] 59)):=(Fr.refl _ _).alloc _
 go_enter Tryz.func251,Tryz.ntmps251
 go_wp2_with ((go_at_call 213;refine(zJ hR 32 (by decide) (by decide)).mono ?_;rintro e w1 ⟨rfl,hR1,hF1⟩);have hL1:=hL.fr hF1 (by simp;omega);have f1:=f0.trans hF1;have hLC1:=hL1.cell;have hLF1:=hL1.frz;have hLT1:=hL1.lt)
 refine bodyPost_ret (v:=fe (bR bs s).1) (by simp[results,Tryz.results251,go_sem,bR, *]) rfl ⟨rfl,?_,?_⟩
 ·refine Rd.un1 (lb:=w.heap.size) ?_ h.mem
  unfold bR
  exact y7
 ·exact cF
theorem K3:(Tryz.prog.info? 59).map (fun i=>(i.zero,i.size,i.bytes))=some (some (.agg #[.int .i64 0,.int .i64 0]),2,16):=by kernel_rfl
theorem tL:Tryz.prog.underlying 129=some (.slice 59):=by kernel_rfl
theorem NH {w:World} {ops:Array Oper} {rest:List Oper} {o:Oper} {a:Act} {Q:Exit→Act→World→Prop} (hgd:o.guard=none) (s x:Operand) (tx:TypeId)
 (ho:o.op= .call {callee:= .builtin .append,args:= #[s,x],argTypes:= #[129,tx]})
 (v:Value) (n:Nat) (xs:List Value) (hs:a.eval s=v) (hown:bf [] w 59 2 v n xs) (xv:Value) (m:Nat) (news:List Value) (hx:a.eval x=xv) (hsrc:Src Tryz.prog 2 tx xv m news w)
 (hb:n+m≤1099511627776)
 (h:∀v' w',bf [] w' 59 2 v' (n+m) (xs++news)→Fr (Value.blk v) w w'→(Value.blk v'=Value.blk v∨Value.blk v'= [w.heap.size])→wpList Tryz.prog ops Q rest (a.put o.dst v') w'):
 wpList Tryz.prog ops Q (o::rest) a w:=by
 obtain⟨i0,hi,hz0,hz1,hz2⟩:=info_parts K3
 exact gI hgd s x _ tx ho _ i0 _ 2 16 tL hi hz0 hz1 hz2 rfl (by decide) [] (by simp) v n xs hs hown xv m news hx hsrc (by omega) (by unfold maxLen;omega) h
theorem vq {S w rb bv bs s} (h:Rd S w rb bv bs s) (v:Value):
 Calls Tryz.prog 266 #[.pointer (some ⟨rb,0,none⟩),v] w fun e w'=>e= .returned (if s.err=0 then v else .slice none 0 0)∧w=w':=by
 exact WL
theorem ze {S w rb bv bs s} (h:Rd S w rb bv bs s):
 Calls Tryz.prog 250 #[.pointer (some ⟨rb,0,none⟩),.func (.func 251) #[.pointer (some ⟨rb,0,none⟩)] #[]] w fun e w'=>
  ∃v,e= .returned v∧Sl S w' 2 v (bX bs (bR bs) s).1.length ((bX bs (bR bs) s).1.flatMap ju)∧Rd S w' rb bv bs (bX bs (bR bs) s).2∧Fr [rb] w w':=by
 have hrb:=h.loc.lt
 have hsm:=h.small
 have hN:=cn bs s
 have hl:bX bs (bR bs) s=((av (bR bs) (af bs s).1 (af bs s).2).2.told [] (av (bR bs) (af bs s).1 (af bs s).2).1,(av (bR bs) (af bs s).1 (af bs s).2).2):=rfl
 rw[hl]
 clear hl
 go_enter Tryz.func250,Tryz.ntmps250
 go_wp2_with (go_at_call 199;refine(cZ h).mono ?_;rintro e w1 ⟨rfl,hR1,hF1⟩)
 go_loopw [5,6] (fun v n wr=>∃(k:Nat) (xs:List aC) (t:ax),n= .int .i64 k∧bf [] wr 59 2 v xs.length (xs.flatMap ju)∧jS w v∧Rd S wr rb bv bs t∧Fr [rb] w wr∧k+xs.length=(af bs s).1∧Hid (av (bR bs) (af bs s).1 (af bs s).2=(xs++(av (bR bs) k t).1,(av (bR bs) k t).2))) (fun _ n _=>(intOf n).toNat)
 case atStart=>exact⟨(af bs s).1,[],_,rfl,bf.nil _ _ _ _,jS.nil _,hR1,hF1,by simp,Lib.hid rfl⟩
 case round=>
  obtain⟨k,xs,t,rfl,hown,hnew,hR,hF,hks,hg⟩:=hrel
  have Hks:=Lib.hid hks
  have hbnd:xs.length+1≤1099511627776∨k=0:=by omega
  clear hks
  have hexit:(k=0∨t.err≠0)→av (bR bs) (af bs s).1 (af bs s).2=(xs,t):=by
   exact Tz
  by_cases hk:k=0
  ·have hE:=Lib.hid (hexit (.inl hk))
   subst hk
   clear hexit hbnd
   by_cases he:t.err=0
   ·have g1:(t.err==0)=true:=by simp[he]
    go_wp2_with first|(go_at_call 266;refine(vq hR _).mono ?_;rintro e w' ⟨rfl,rfl⟩)|(go_at_call 228;refine(be hR).mono ?_;rintro e w' ⟨rfl,rfl⟩)
    exact Xh
   ·have g1:(t.err==0)=false:=by simp[he]
    exact Uo
  ·by_cases he:t.err=0
   ·have g1:(t.err==0)=true:=by simp[he]
    have hx:av (bR bs) k t=((bR bs t).1::(av (bR bs) (k-1) (bR bs t).2).1,(av (bR bs) (k-1) (bR bs t).2).2):=by
     exact KF
    have HX:=Lib.hid hx
    have hkp:0<k:=by omega
    have hb2:xs.length+1≤1099511627776:=by omega
    have hk40:k≤1099511627776:=by have:=Hks.out;omega
    clear hx he hexit hbnd
    have hone:∀u∈ju (bR bs t).1,u.oneCell'=true:=(by intro u hu;simp[ju]at hu;rcases hu with rfl|rfl<;>rfl)
    have hrv:=hnew.not hrb
    go_wp2_with first|(go_at_call 228;refine(be hR).mono ?_;rintro e w' ⟨rfl,rfl⟩)|((go_at_call 251;refine(OG hR).mono ?_;rintro e w2 ⟨rfl,hR2,hF2⟩);have hown2:=hown.fr hF2 (by intro b hb;simp at hb;subst hb;exact hrv))|(at_builtin;refine NH rfl (.tmp 17) (.tmp 20) _ rfl _ _ _ rfl (hown2.alloc _) _ _ _ rfl (pQ tL _ (ju (bR bs t).1) _ _ _ rfl hone) hb2 ?_;intro v' w3 hown3 hf3 hb3)
    have hF3:Fr [rb] w w3:=((hF.trans hF2).alloc _).app hf3 hnew
    go_roundw
    case rel=>
     refine⟨k-1,xs++ [(bR bs t).1],_,by go_num,?_,hnew.app hb3 (by have:=hF.size;have:=hF2.size;first|omega|(simp only[World.size_alloc];omega)),h.step hF3 ((hR2.loc.alloc _).fr hf3 hrv) hR2.le,hF3,by have:=Hks.out;simp;omega,Lib.hid ?_⟩
     ·simpa using hown3
     ·rw[hg.out,HX.out];simp
    case measure=>simp[intOf];omega
   ·have g1:(t.err==0)=false:=by simp[he]
    have hE:=Lib.hid (hexit (.inr he))
    have hkp:0<k:=by omega
    clear hexit hbnd
    exact Uo
def nI (f:ey):Value:= .agg #[.int .i64 f.pack,.int .i64 f.val.kind,.bool f.val.null,.int .i64 f.val.heap.kind,.int .i64 f.val.heap.n,.bool f.mut_]
attribute [go_sem] nI
theorem Am (n:Nat):(((n:Nat):Int)==1)=(n==1):=by
 by_cases h:n=1
 ·subst h;rfl
 ·have:(((n:Nat):Int)==1)=false:=by simp;omega
  rw[this];simp[h]
theorem Bj {S w rb bv bs s} (h:Rd S w rb bv bs s):
 Calls Tryz.prog 269 #[.pointer (some ⟨rb,0,none⟩)] w fun e w'=>e= .returned (nI (bE bs s).1)∧Rd S w' rb bv bs (bE bs s).2∧Fr [rb] w w':=by
 have hle:=h.le
 have hsm:=h.small
 have hrb:=h.loc.lt
 have hcl:=rh bs s
 have hR:=(h.loc1 (.cells #[.int .i64 0,.int .i64 0,.bool false,.int .i64 0,.int .i64 0,.bool false] 208)).loc1 (.cells #[.int .i64 0,.int .i64 0,.bool false,.int .i64 0,.int .i64 0,.bool false] 208)
 rw[World.size_alloc]at hR
 have hA:bB ((w.alloc (.cells #[.int .i64 0,.int .i64 0,.bool false,.int .i64 0,.int .i64 0,.bool false] 208)).alloc (.cells #[.int .i64 0,.int .i64 0,.bool false,.int .i64 0,.int .i64 0,.bool false] 208)) w.heap.size [.int .i64 0,.int .i64 0,.bool false,.int .i64 0,.int .i64 0,.bool false] 208:=(bB.new _ _ _).alloc _
 have hB:bB ((w.alloc (.cells #[.int .i64 0,.int .i64 0,.bool false,.int .i64 0,.int .i64 0,.bool false] 208)).alloc (.cells #[.int .i64 0,.int .i64 0,.bool false,.int .i64 0,.int .i64 0,.bool false] 208)) (w.heap.size+1) [.int .i64 0,.int .i64 0,.bool false,.int .i64 0,.int .i64 0,.bool false] 208:=by
  have h1:=bB.new (w.alloc (.cells #[.int .i64 0,.int .i64 0,.bool false,.int .i64 0,.int .i64 0,.bool false] 208)) [.int .i64 0,.int .i64 0,.bool false,.int .i64 0,.int .i64 0,.bool false] 208
  rw[World.size_alloc]at h1
  exact h1
 have f0:Fr [rb] w ((w.alloc (.cells #[.int .i64 0,.int .i64 0,.bool false,.int .i64 0,.int .i64 0,.bool false] 208)).alloc (.cells #[.int .i64 0,.int .i64 0,.bool false,.int .i64 0,.int .i64 0,.bool false] 208)):=((Fr.refl _ _).alloc _).alloc _
 by_cases hp1:bF bs s=120
 ·skip
  have hst:fY bs s=((8,⟨1,false,⟨0,0⟩⟩),s.next):=by unfold fY;rw[if_pos hp1]
  have hlt:=(fJ (s:=s) (bs:=bs) (by omega)).2.1
  have q1:(((bF bs s:Nat):Int)==120)=true:=by simp;omega
  have q2:(((bF bs s:Nat):Int)==119)=false:=by simp;omega
  by_cases hq:1< (ai bs s.next).1
  ·have hqi:(1:Int)< (((ai bs s.next).1:Nat):Int):=by omega
   have hf:bE bs s=(⟨8,⟨1,false,⟨0,0⟩⟩,(ai bs s.next).1==1⟩,(ai bs s.next).2.form s.next.at_):=by unfold bE sW;rw[hst];simp only[if_pos hq]
   rw[hf]
   clear hst hf hq
   go_enter Tryz.func269,Tryz.ntmps269
   go_wp2_with first|((go_at_call 200;refine(eO hR).mono ?_;rintro e w' ⟨rfl,nq,rfl⟩);have hR0:=hR.drewN nq;have hB0:=hB.drewN nq;have hC0:=hR0.loc.cell;have hG0:=hR0.loc.frz;have hT0:=hR0.loc.lt;simp only[bW]at hC0;have hLC0:=hB0.cell;have hLF0:=hB0.frz;have hLT0:=hB0.lt)|fail
   have hE:=mm (hR.drewN nq) hlt
   have hRX:=fun v0 v1 v2 v3 v4=>((((hE.setLoc (lb:=w.heap.size+1) (by simp) (by omega) 0 v0).setLoc (lb:=w.heap.size+1) (by simp) (by omega) 1 v1).setLoc (lb:=w.heap.size+1) (by simp) (by omega) 2 v2).setLoc (lb:=w.heap.size+1) (by simp) (by omega) 3 v3).setLoc (lb:=w.heap.size+1) (by simp) (by omega) 4 v4
   have hBX:=fun v0 v1 v2 v3 v4=>(((((((hB.drewN nq).set' (p:=⟨rb,0,none⟩) (by simp;omega) (.int .i64 ((s.at_:Int)+1))).set 0 v0).set 1 v1).set 2 v2).set 3 v3).set 4 v4)
   have hAX:=fun v0 v1 v2 v3 v4=>((((((((hA.drewN nq).set' (p:=⟨rb,0,none⟩) (by simp;omega) (.int .i64 ((s.at_:Int)+1))).set' (p:=⟨w.heap.size+1,0,none⟩) (by simp) v0).set' (p:=⟨w.heap.size+1,1,none⟩) (by simp) v1).set' (p:=⟨w.heap.size+1,2,none⟩) (by simp) v2).set' (p:=⟨w.heap.size+1,3,none⟩) (by simp) v3).set' (p:=⟨w.heap.size+1,4,none⟩) (by simp) v4))
   have hle2:=hE.le
   go_wp2_with first|(go_at_call 175;refine(d5 (hRX _ _ _ _ _)).mono ?_;rintro e w' ⟨rfl,rfl⟩)|((go_at_call 210;refine(fd (hRX _ _ _ _ _)).mono ?_;rintro e w5 ⟨rfl,hR5,hF5⟩);have hB5:=(hBX _ _ _ _ _).fr hF5 (by simp;omega);have hA5:=(hAX _ _ _ _ _).fr hF5 (by simp;omega);have hLC5:=hB5.cell;have hLF5:=hB5.frz;have hLT5:=hB5.lt;have hLC7:=hA5.cell;have hLF7:=hA5.frz;have hLT7:=hA5.lt)|((go_at_call 270;refine(qX hR5 _ hle2).mono ?_;rintro e w6 ⟨rfl,hR6,hF6⟩);have hB6:=hB5.fr hF6 (by simp;omega);have hA6:=hA5.fr hF6 (by simp;omega);have hLC6:=hB6.cell;have hLF6:=hB6.frz;have hLT6:=hB6.lt;have hLC8:=hA6.cell;have hLF8:=hA6.frz;have hLT8:=hA6.lt)
   have f5:Fr [rb] w w5:=Fr.trans (by exact cF) hF5
   have f6:Fr [rb] w w6:=f5.trans hF6
   exact U8
  ·have hqi:¬(1:Int)< (((ai bs s.next).1:Nat):Int):=by omega
   have hf:bE bs s=(⟨8,⟨1,false,⟨0,0⟩⟩,(ai bs s.next).1==1⟩,(ai bs s.next).2):=by unfold bE sW;rw[hst];simp only[if_neg hq]
   rw[hf]
   clear hst hf hq
   go_enter Tryz.func269,Tryz.ntmps269
   go_wp2_with first|((go_at_call 200;refine(eO hR).mono ?_;rintro e w' ⟨rfl,nq,rfl⟩);have hR0:=hR.drewN nq;have hB0:=hB.drewN nq;have hC0:=hR0.loc.cell;have hG0:=hR0.loc.frz;have hT0:=hR0.loc.lt;simp only[bW]at hC0;have hLC0:=hB0.cell;have hLF0:=hB0.frz;have hLT0:=hB0.lt)|fail
   have hE:=mm (hR.drewN nq) hlt
   have hRX:=fun v0 v1 v2 v3 v4=>((((hE.setLoc (lb:=w.heap.size+1) (by simp) (by omega) 0 v0).setLoc (lb:=w.heap.size+1) (by simp) (by omega) 1 v1).setLoc (lb:=w.heap.size+1) (by simp) (by omega) 2 v2).setLoc (lb:=w.heap.size+1) (by simp) (by omega) 3 v3).setLoc (lb:=w.heap.size+1) (by simp) (by omega) 4 v4
   have hBX:=fun v0 v1 v2 v3 v4=>(((((((hB.drewN nq).set' (p:=⟨rb,0,none⟩) (by simp;omega) (.int .i64 ((s.at_:Int)+1))).set 0 v0).set 1 v1).set 2 v2).set 3 v3).set 4 v4)
   have hAX:=fun v0 v1 v2 v3 v4=>((((((((hA.drewN nq).set' (p:=⟨rb,0,none⟩) (by simp;omega) (.int .i64 ((s.at_:Int)+1))).set' (p:=⟨w.heap.size+1,0,none⟩) (by simp) v0).set' (p:=⟨w.heap.size+1,1,none⟩) (by simp) v1).set' (p:=⟨w.heap.size+1,2,none⟩) (by simp) v2).set' (p:=⟨w.heap.size+1,3,none⟩) (by simp) v3).set' (p:=⟨w.heap.size+1,4,none⟩) (by simp) v4))
   have hle2:=hE.le
   go_wp2_with first|(go_at_call 175;refine(d5 (hRX _ _ _ _ _)).mono ?_;rintro e w' ⟨rfl,rfl⟩)|((go_at_call 210;refine(fd (hRX _ _ _ _ _)).mono ?_;rintro e w5 ⟨rfl,hR5,hF5⟩);have hB5:=(hBX _ _ _ _ _).fr hF5 (by simp;omega);have hA5:=(hAX _ _ _ _ _).fr hF5 (by simp;omega);have hLC5:=hB5.cell;have hLF5:=hB5.frz;have hLT5:=hB5.lt;have hLC7:=hA5.cell;have hLF7:=hA5.frz;have hLT7:=hA5.lt)
   have f5:Fr [rb] w w5:=Fr.trans (by exact cF) hF5
   exact U8
 ·by_cases hp2:bF bs s=119
  ·skip
   have hst:fY bs s=((16,⟨1,false,⟨0,0⟩⟩),s.next):=by unfold fY;rw[if_neg hp1,if_pos hp2]
   have hlt:=(fJ (s:=s) (bs:=bs) (by omega)).2.1
   have q1:(((bF bs s:Nat):Int)==120)=false:=by simp;omega
   have q2:(((bF bs s:Nat):Int)==119)=true:=by simp;omega
   by_cases hq:1< (ai bs s.next).1
   ·have hqi:(1:Int)< (((ai bs s.next).1:Nat):Int):=by omega
    have hf:bE bs s=(⟨16,⟨1,false,⟨0,0⟩⟩,(ai bs s.next).1==1⟩,(ai bs s.next).2.form s.next.at_):=by unfold bE sW;rw[hst];simp only[if_pos hq]
    rw[hf]
    clear hst hf hq
    go_enter Tryz.func269,Tryz.ntmps269
    go_wp2_with first|((go_at_call 200;refine(eO hR).mono ?_;rintro e w' ⟨rfl,nq,rfl⟩);have hR0:=hR.drewN nq;have hB0:=hB.drewN nq;have hC0:=hR0.loc.cell;have hG0:=hR0.loc.frz;have hT0:=hR0.loc.lt;simp only[bW]at hC0;have hLC0:=hB0.cell;have hLF0:=hB0.frz;have hLT0:=hB0.lt)|fail
    have hE:=mm (hR.drewN nq) hlt
    have hRX:=fun v0 v1 v2 v3 v4=>((((hE.setLoc (lb:=w.heap.size+1) (by simp) (by omega) 0 v0).setLoc (lb:=w.heap.size+1) (by simp) (by omega) 1 v1).setLoc (lb:=w.heap.size+1) (by simp) (by omega) 2 v2).setLoc (lb:=w.heap.size+1) (by simp) (by omega) 3 v3).setLoc (lb:=w.heap.size+1) (by simp) (by omega) 4 v4
    have hBX:=fun v0 v1 v2 v3 v4=>(((((((hB.drewN nq).set' (p:=⟨rb,0,none⟩) (by simp;omega) (.int .i64 ((s.at_:Int)+1))).set 0 v0).set 1 v1).set 2 v2).set 3 v3).set 4 v4)
    have hAX:=fun v0 v1 v2 v3 v4=>((((((((hA.drewN nq).set' (p:=⟨rb,0,none⟩) (by simp;omega) (.int .i64 ((s.at_:Int)+1))).set' (p:=⟨w.heap.size+1,0,none⟩) (by simp) v0).set' (p:=⟨w.heap.size+1,1,none⟩) (by simp) v1).set' (p:=⟨w.heap.size+1,2,none⟩) (by simp) v2).set' (p:=⟨w.heap.size+1,3,none⟩) (by simp) v3).set' (p:=⟨w.heap.size+1,4,none⟩) (by simp) v4))
    have hle2:=hE.le
    go_wp2_with first|(go_at_call 175;refine(d5 (hRX _ _ _ _ _)).mono ?_;rintro e w' ⟨rfl,rfl⟩)|((go_at_call 210;refine(fd (hRX _ _ _ _ _)).mono ?_;rintro e w5 ⟨rfl,hR5,hF5⟩);have hB5:=(hBX _ _ _ _ _).fr hF5 (by simp;omega);have hA5:=(hAX _ _ _ _ _).fr hF5 (by simp;omega);have hLC5:=hB5.cell;have hLF5:=hB5.frz;have hLT5:=hB5.lt;have hLC7:=hA5.cell;have hLF7:=hA5.frz;have hLT7:=hA5.lt)|((go_at_call 270;refine(qX hR5 _ hle2).mono ?_;rintro e w6 ⟨rfl,hR6,hF6⟩);have hB6:=hB5.fr hF6 (by simp;omega);have hA6:=hA5.fr hF6 (by simp;omega);have hLC6:=hB6.cell;have hLF6:=hB6.frz;have hLT6:=hB6.lt;have hLC8:=hA6.cell;have hLF8:=hA6.frz;have hLT8:=hA6.lt)
    have f5:Fr [rb] w w5:=Fr.trans (by exact cF) hF5
    have f6:Fr [rb] w w6:=f5.trans hF6
    exact Vi
   ·have hqi:¬(1:Int)< (((ai bs s.next).1:Nat):Int):=by omega
    have hf:bE bs s=(⟨16,⟨1,false,⟨0,0⟩⟩,(ai bs s.next).1==1⟩,(ai bs s.next).2):=by unfold bE sW;rw[hst];simp only[if_neg hq]
    rw[hf]
    clear hst hf hq
    go_enter Tryz.func269,Tryz.ntmps269
    go_wp2_with first|((go_at_call 200;refine(eO hR).mono ?_;rintro e w' ⟨rfl,nq,rfl⟩);have hR0:=hR.drewN nq;have hB0:=hB.drewN nq;have hC0:=hR0.loc.cell;have hG0:=hR0.loc.frz;have hT0:=hR0.loc.lt;simp only[bW]at hC0;have hLC0:=hB0.cell;have hLF0:=hB0.frz;have hLT0:=hB0.lt)|fail
    have hE:=mm (hR.drewN nq) hlt
    have hRX:=fun v0 v1 v2 v3 v4=>((((hE.setLoc (lb:=w.heap.size+1) (by simp) (by omega) 0 v0).setLoc (lb:=w.heap.size+1) (by simp) (by omega) 1 v1).setLoc (lb:=w.heap.size+1) (by simp) (by omega) 2 v2).setLoc (lb:=w.heap.size+1) (by simp) (by omega) 3 v3).setLoc (lb:=w.heap.size+1) (by simp) (by omega) 4 v4
    have hBX:=fun v0 v1 v2 v3 v4=>(((((((hB.drewN nq).set' (p:=⟨rb,0,none⟩) (by simp;omega) (.int .i64 ((s.at_:Int)+1))).set 0 v0).set 1 v1).set 2 v2).set 3 v3).set 4 v4)
    have hAX:=fun v0 v1 v2 v3 v4=>((((((((hA.drewN nq).set' (p:=⟨rb,0,none⟩) (by simp;omega) (.int .i64 ((s.at_:Int)+1))).set' (p:=⟨w.heap.size+1,0,none⟩) (by simp) v0).set' (p:=⟨w.heap.size+1,1,none⟩) (by simp) v1).set' (p:=⟨w.heap.size+1,2,none⟩) (by simp) v2).set' (p:=⟨w.heap.size+1,3,none⟩) (by simp) v3).set' (p:=⟨w.heap.size+1,4,none⟩) (by simp) v4))
    have hle2:=hE.le
    go_wp2_with first|(go_at_call 175;refine(d5 (hRX _ _ _ _ _)).mono ?_;rintro e w' ⟨rfl,rfl⟩)|((go_at_call 210;refine(fd (hRX _ _ _ _ _)).mono ?_;rintro e w5 ⟨rfl,hR5,hF5⟩);have hB5:=(hBX _ _ _ _ _).fr hF5 (by simp;omega);have hA5:=(hAX _ _ _ _ _).fr hF5 (by simp;omega);have hLC5:=hB5.cell;have hLF5:=hB5.frz;have hLT5:=hB5.lt;have hLC7:=hA5.cell;have hLF7:=hA5.frz;have hLT7:=hA5.lt)
    have f5:Fr [rb] w w5:=Fr.trans (by exact cF) hF5
    exact Vi
  ·skip
   have hst:fY bs s=((0,(bw bs s).1),(bw bs s).2):=by unfold fY;rw[if_neg hp1,if_neg hp2]
   have q1:(((bF bs s:Nat):Int)==120)=false:=by simp;omega
   have q2:(((bF bs s:Nat):Int)==119)=false:=by simp;omega
   by_cases hq:1< (ai bs (bw bs s).2).1
   ·have hqi:(1:Int)< (((ai bs (bw bs s).2).1:Nat):Int):=by omega
    have hf:bE bs s=(⟨0,(bw bs s).1,(ai bs (bw bs s).2).1==1⟩,(ai bs (bw bs s).2).2.form (bw bs s).2.at_):=by unfold bE sW;rw[hst];simp only[if_pos hq]
    rw[hf]
    clear hst hf hq
    go_enter Tryz.func269,Tryz.ntmps269
    go_wp2_with first|((go_at_call 200;refine(eO hR).mono ?_;rintro e w' ⟨rfl,nq,rfl⟩);have hR0:=hR.drewN nq;have hB0:=hB.drewN nq;have hA0:=hA.drewN nq;have hLC0:=hB0.cell;have hLF0:=hB0.frz;have hLT0:=hB0.lt)|((go_at_call 254;refine(qP (hR.drewN nq)).mono ?_;rintro e w2 ⟨rfl,hR2,hF2⟩);have hB2:=(hB.drewN nq).fr hF2 (by simp;omega);have hA2:=(hA.drewN nq).fr hF2 (by simp;omega);have hLC2:=hB2.cell;have hLF2:=hB2.frz;have hLT2:=hB2.lt)|fail
    have hRX:=fun v1 v2 v3 v4=>(((hR2.setLoc (lb:=w.heap.size+1) (by simp) (by omega) 1 v1).setLoc (lb:=w.heap.size+1) (by simp) (by omega) 2 v2).setLoc (lb:=w.heap.size+1) (by simp) (by omega) 3 v3).setLoc (lb:=w.heap.size+1) (by simp) (by omega) 4 v4
    have hBX:=fun v1 v2 v3 v4=>((((hB2.set 1 v1).set 2 v2).set 3 v3).set 4 v4)
    have hAX:=fun v1 v2 v3 v4=>((((hA2.set' (p:=⟨w.heap.size+1,1,none⟩) (by simp) v1).set' (p:=⟨w.heap.size+1,2,none⟩) (by simp) v2).set' (p:=⟨w.heap.size+1,3,none⟩) (by simp) v3).set' (p:=⟨w.heap.size+1,4,none⟩) (by simp) v4)
    have hle2:=hR2.le
    go_wp2_with first|(go_at_call 175;refine(d5 (hRX _ _ _ _)).mono ?_;rintro e w' ⟨rfl,rfl⟩)|((go_at_call 210;refine(fd (hRX _ _ _ _)).mono ?_;rintro e w5 ⟨rfl,hR5,hF5⟩);have hB5:=(hBX _ _ _ _).fr hF5 (by simp;omega);have hA5:=(hAX _ _ _ _).fr hF5 (by simp;omega);have hLC5:=hB5.cell;have hLF5:=hB5.frz;have hLT5:=hB5.lt;have hLC7:=hA5.cell;have hLF7:=hA5.frz;have hLT7:=hA5.lt)|((go_at_call 270;refine(qX hR5 _ hle2).mono ?_;rintro e w6 ⟨rfl,hR6,hF6⟩);have hB6:=hB5.fr hF6 (by simp;omega);have hA6:=hA5.fr hF6 (by simp;omega);have hLC6:=hB6.cell;have hLF6:=hB6.frz;have hLT6:=hB6.lt;have hLC8:=hA6.cell;have hLF8:=hA6.frz;have hLT8:=hA6.lt)
    have f2:Fr [rb] w w2:=Fr.trans (by exact cF) hF2
    have f5:Fr [rb] w w5:=Fr.trans (by exact cF) hF5
    have f6:Fr [rb] w w6:=f5.trans hF6
    exact U9
   ·have hqi:¬(1:Int)< (((ai bs (bw bs s).2).1:Nat):Int):=by omega
    have hf:bE bs s=(⟨0,(bw bs s).1,(ai bs (bw bs s).2).1==1⟩,(ai bs (bw bs s).2).2):=by unfold bE sW;rw[hst];simp only[if_neg hq]
    rw[hf]
    clear hst hf hq
    go_enter Tryz.func269,Tryz.ntmps269
    go_wp2_with first|((go_at_call 200;refine(eO hR).mono ?_;rintro e w' ⟨rfl,nq,rfl⟩);have hR0:=hR.drewN nq;have hB0:=hB.drewN nq;have hA0:=hA.drewN nq;have hLC0:=hB0.cell;have hLF0:=hB0.frz;have hLT0:=hB0.lt)|((go_at_call 254;refine(qP (hR.drewN nq)).mono ?_;rintro e w2 ⟨rfl,hR2,hF2⟩);have hB2:=(hB.drewN nq).fr hF2 (by simp;omega);have hA2:=(hA.drewN nq).fr hF2 (by simp;omega);have hLC2:=hB2.cell;have hLF2:=hB2.frz;have hLT2:=hB2.lt)|fail
    have hRX:=fun v1 v2 v3 v4=>(((hR2.setLoc (lb:=w.heap.size+1) (by simp) (by omega) 1 v1).setLoc (lb:=w.heap.size+1) (by simp) (by omega) 2 v2).setLoc (lb:=w.heap.size+1) (by simp) (by omega) 3 v3).setLoc (lb:=w.heap.size+1) (by simp) (by omega) 4 v4
    have hBX:=fun v1 v2 v3 v4=>((((hB2.set 1 v1).set 2 v2).set 3 v3).set 4 v4)
    have hAX:=fun v1 v2 v3 v4=>((((hA2.set' (p:=⟨w.heap.size+1,1,none⟩) (by simp) v1).set' (p:=⟨w.heap.size+1,2,none⟩) (by simp) v2).set' (p:=⟨w.heap.size+1,3,none⟩) (by simp) v3).set' (p:=⟨w.heap.size+1,4,none⟩) (by simp) v4)
    have hle2:=hR2.le
    go_wp2_with first|(go_at_call 175;refine(d5 (hRX _ _ _ _)).mono ?_;rintro e w' ⟨rfl,rfl⟩)|((go_at_call 210;refine(fd (hRX _ _ _ _)).mono ?_;rintro e w5 ⟨rfl,hR5,hF5⟩);have hB5:=(hBX _ _ _ _).fr hF5 (by simp;omega);have hA5:=(hAX _ _ _ _).fr hF5 (by simp;omega);have hLC5:=hB5.cell;have hLF5:=hB5.frz;have hLT5:=hB5.lt;have hLC7:=hA5.cell;have hLF7:=hA5.frz;have hLT7:=hA5.lt)
    have f2:Fr [rb] w w2:=Fr.trans (by exact cF) hF2
    have f5:Fr [rb] w w5:=Fr.trans (by exact cF) hF5
    exact U9
theorem En:(Tryz.prog.info? 208).map (fun i=>(i.zero,i.size,i.bytes))=some (some (.agg #[.int .i64 0,.int .i64 0,.bool false,.int .i64 0,.int .i64 0,.bool false]),6,48):=by kernel_rfl
theorem qx:Tryz.prog.underlying 132=some (.slice 208):=by kernel_rfl
theorem K9 {w:World} {ops:Array Oper} {rest:List Oper} {o:Oper} {a:Act} {Q:Exit→Act→World→Prop} (hgd:o.guard=none) (s x:Operand) (tx:TypeId)
 (ho:o.op= .call {callee:= .builtin .append,args:= #[s,x],argTypes:= #[132,tx]})
 (v:Value) (n:Nat) (xs:List Value) (hs:a.eval s=v) (hown:bf [] w 208 6 v n xs) (xv:Value) (m:Nat) (news:List Value) (hx:a.eval x=xv) (hsrc:Src Tryz.prog 6 tx xv m news w)
 (hb:n+m≤1099511627776)
 (h:∀v' w',bf [] w' 208 6 v' (n+m) (xs++news)→Fr (Value.blk v) w w'→(Value.blk v'=Value.blk v∨Value.blk v'= [w.heap.size])→wpList Tryz.prog ops Q rest (a.put o.dst v') w'):
 wpList Tryz.prog ops Q (o::rest) a w:=by
 obtain⟨i0,hi,hz0,hz1,hz2⟩:=info_parts En
 exact gI hgd s x _ tx ho _ i0 _ 6 48 qx hi hz0 hz1 hz2 rfl (by decide) [] (by simp) v n xs hs hown xv m news hx hsrc (by omega) (by unfold maxLen;omega) h
theorem ux {S w rb bv bs s} (h:Rd S w rb bv bs s) (v:Value):
 Calls Tryz.prog 285 #[.pointer (some ⟨rb,0,none⟩),v] w fun e w'=>e= .returned (if s.err=0 then v else .slice none 0 0)∧w=w':=by
 exact WL
theorem Ei {S w rb bv bs s} (h:Rd S w rb bv bs s):
 Calls Tryz.prog 268 #[.pointer (some ⟨rb,0,none⟩),.func (.func 269) #[.pointer (some ⟨rb,0,none⟩)] #[]] w fun e w'=>
  ∃v,e= .returned v∧Sl S w' 6 v (bX bs (bE bs) s).1.length ((bX bs (bE bs) s).1.flatMap fG)∧Rd S w' rb bv bs (bX bs (bE bs) s).2∧Fr [rb] w w':=by
 have hrb:=h.loc.lt
 have hsm:=h.small
 have hN:=cn bs s
 have hl:bX bs (bE bs) s=((av (bE bs) (af bs s).1 (af bs s).2).2.told [] (av (bE bs) (af bs s).1 (af bs s).2).1,(av (bE bs) (af bs s).1 (af bs s).2).2):=rfl
 rw[hl]
 clear hl
 go_enter Tryz.func268,Tryz.ntmps268
 go_wp2_with (go_at_call 199;refine(cZ h).mono ?_;rintro e w1 ⟨rfl,hR1,hF1⟩)
 go_loopw [5,6] (fun v n wr=>∃(k:Nat) (xs:List ey) (t:ax),n= .int .i64 k∧bf [] wr 208 6 v xs.length (xs.flatMap fG)∧jS w v∧Rd S wr rb bv bs t∧Fr [rb] w wr∧k+xs.length=(af bs s).1∧Hid (av (bE bs) (af bs s).1 (af bs s).2=(xs++(av (bE bs) k t).1,(av (bE bs) k t).2))) (fun _ n _=>(intOf n).toNat)
 case atStart=>exact⟨(af bs s).1,[],_,rfl,bf.nil _ _ _ _,jS.nil _,hR1,hF1,by simp,Lib.hid rfl⟩
 case round=>
  obtain⟨k,xs,t,rfl,hown,hnew,hR,hF,hks,hg⟩:=hrel
  have Hks:=Lib.hid hks
  have hbnd:xs.length+1≤1099511627776∨k=0:=by omega
  clear hks
  have hexit:(k=0∨t.err≠0)→av (bE bs) (af bs s).1 (af bs s).2=(xs,t):=by
   exact Tz
  by_cases hk:k=0
  ·have hE:=Lib.hid (hexit (.inl hk))
   subst hk
   clear hexit hbnd
   by_cases he:t.err=0
   ·have g1:(t.err==0)=true:=by simp[he]
    go_wp2_with first|(go_at_call 285;refine(ux hR _).mono ?_;rintro e w' ⟨rfl,rfl⟩)|(go_at_call 228;refine(be hR).mono ?_;rintro e w' ⟨rfl,rfl⟩)
    exact Xh
   ·have g1:(t.err==0)=false:=by simp[he]
    exact Wq
  ·by_cases he:t.err=0
   ·have g1:(t.err==0)=true:=by simp[he]
    have hx:av (bE bs) k t=((bE bs t).1::(av (bE bs) (k-1) (bE bs t).2).1,(av (bE bs) (k-1) (bE bs t).2).2):=by
     exact KF
    have HX:=Lib.hid hx
    have hkp:0<k:=by omega
    have hb2:xs.length+1≤1099511627776:=by omega
    have hk40:k≤1099511627776:=by have:=Hks.out;omega
    clear hx he hexit hbnd
    have hone:∀u∈fG (bE bs t).1,u.oneCell'=true:=(by intro u hu;simp[fG]at hu;rcases hu with rfl|rfl|rfl|rfl|rfl|rfl<;>rfl)
    have hrv:=hnew.not hrb
    go_wp2_with first|(go_at_call 228;refine(be hR).mono ?_;rintro e w' ⟨rfl,rfl⟩)|((go_at_call 269;refine(Bj hR).mono ?_;rintro e w2 ⟨rfl,hR2,hF2⟩);have hown2:=hown.fr hF2 (by intro b hb;simp at hb;subst hb;exact hrv))|(at_builtin;refine K9 rfl (.tmp 17) (.tmp 20) _ rfl _ _ _ rfl (hown2.alloc _) _ _ _ rfl (pQ qx _ (fG (bE bs t).1) _ _ _ rfl hone) hb2 ?_;intro v' w3 hown3 hf3 hb3)
    have hF3:Fr [rb] w w3:=((hF.trans hF2).alloc _).app hf3 hnew
    go_roundw
    case rel=>
     refine⟨k-1,xs++ [(bE bs t).1],_,by go_num,?_,hnew.app hb3 (by have:=hF.size;have:=hF2.size;first|omega|(simp only[World.size_alloc];omega)),h.step hF3 ((hR2.loc.alloc _).fr hf3 hrv) hR2.le,hF3,by have:=Hks.out;simp;omega,Lib.hid ?_⟩
     ·simpa using hown3
     ·rw[hg.out,HX.out];simp
    case measure=>simp[intOf];omega
   ·have g1:(t.err==0)=false:=by simp[he]
    have hE:=Lib.hid (hexit (.inr he))
    have hkp:0<k:=by omega
    clear hexit hbnd
    exact Wq
end Go.Proofs.YtpdlmdlkecnpgaaGreatDoor
