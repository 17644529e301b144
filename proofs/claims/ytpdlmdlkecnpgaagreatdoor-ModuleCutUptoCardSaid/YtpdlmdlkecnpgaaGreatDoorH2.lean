/- Texts: LebW. -/
import Derived.Test.YtpdlmdlkecnpgaaGreatDoorH0
import Derived.Test.YtpdlmdlkecnpgaaGreatDoorH1
set_option linter.unusedSimpArgs false
set_option linter.unusedVariables false
namespace Go.Proofs.YtpdlmdlkecnpgaaGreatDoor
open Go.RowKit
theorem yT (c:Nat) (h:c<256):bits .and .u8 (c:Int) 127=((c% 128:Nat):Int):=by
 have:=u8_and_nat c 127 h (by decide)
 rw[nat_mask7]at this
 exact this
theorem WT (a n:Nat):((a:Int)/2^n==0)=(a/2^n==0):=by
 rw[Bool.eq_iff_iff,beq_iff_eq,beq_iff_eq]
 constructor<;>intro h<;>exact_mod_cast h
theorem Yn (a b n:Nat):((a:Int)/2^n==(b:Int)/2^n)=(a/2^n==b/2^n):=by
 rw[Bool.eq_iff_iff,beq_iff_eq,beq_iff_eq]
 constructor<;>intro h<;>exact_mod_cast h
theorem vh {a b:Bool} (h:a=b):Ending.returned (.bool a)= .returned (.bool b):=by rw[h]
set_option maxRecDepth 100000
set_option maxHeartbeats 400000
theorem pg (c:Nat) (left:Int) (sg:Bool) (w:World) (hc:c<256) (h1:1≤left) (h2:left≤64):
 Calls Tryz.prog 197 #[.int .u8 c,.int .i64 left,.bool sg] w fun e w'=>e= .returned (.bool (dN c left.toNat sg))∧w=w':=by
 have H:=Lib.hid (yT c hc)
 cases sg
 ·go_enter Tryz.func197,Tryz.ntmps197
  go_wp2
  ·go_ret
   have:7≤left:=by assumption
   exact⟨by simp[dN];omega,rfl⟩
  ·go_ret
   have:left<7:=by assumption
   refine⟨vh ?_,rfl⟩
   rw[H.out,WT]
   unfold dN
   rw[if_neg (by omega)]
   rfl
 ·go_enter Tryz.func197,Tryz.ntmps197
  go_wp2
  ·go_ret
   have:7≤left:=by assumption
   exact⟨by simp[dN];omega,rfl⟩
  ·go_ret
   have h7:left<7:=by assumption
   have h0:bits BinOp.and IntKind.u8 (↑c) 127/2^(left.toNat-1)=0:=by assumption
   refine⟨vh ?_,rfl⟩
   rw[H.out]at h0
   have h0:(((c% 128:Nat):Int)/2^(left.toNat-1)==0)=true:=by simpa using h0
   rw[WT]at h0
   unfold dN
   rw[if_neg (by omega),if_pos rfl,h0]
   rfl
  ·go_ret
   have h7:left<7:=by assumption
   refine⟨vh ?_,rfl⟩
   rw[H.out,WT,show(127:Int)=((127:Nat):Int) from rfl,Yn]
   unfold dN
   rw[if_neg (by omega),if_pos rfl]
theorem JR (c:Nat) (h:c<128):(bits .and .u8 (c:Int) 128==0)=true:=by
 have:=u8_and_nat c 128 (by omega) (by decide)
 rw[show(128:Nat)=2^7 from rfl,nat_bit 7 c,Nat.div_eq_of_lt h]at this
 rw[show(128:Int)=((2^7:Nat):Int) from rfl,this];rfl
theorem Kf (c:Nat) (h:¬c<128) (h2:c<256):(bits .and .u8 (c:Int) 128==0)=false:=by
 have:=u8_and_nat c 128 (by omega) (by decide)
 rw[show(128:Nat)=2^7 from rfl,nat_bit 7 c,show c/2^7=1 by omega]at this
 rw[show(128:Int)=((2^7:Nat):Int) from rfl,this];rfl
theorem Vq (c:Nat) (h:c<128):(bits .and .u8 (c:Int) 64 !=0)=decide (64≤c):=by
 exact X5
def R3 (r:Nat×Nat×Nat) (w:World) (a:Act) (w':World):Prop:=
 a.defers= []∧a.tmps.size=76∧a.tmps.getD 13 undef= .int .i64 (r.2.2:Int)∧r.1=0∧r.2.1=0∧w'=w
theorem oD {l:Nat} {J:Act→World→Prop} {Q:Exit→Act→World→Prop} {a:Act} {w:World}:Exit.jump l J Q .ret a w=Q .ret a w:=rfl
theorem Tm (nk dk c:Nat) (hn:nk<2^dk) (hd:dk<64) (hc:c<256):
 bits BinOp.or IntKind.u64 (nk:Int) (IntKind.u64.wrap (IntKind.u64.wrap (bits BinOp.and IntKind.u8 (c:Int) 127)*2^dk))=(((nk+c% 128*2^dk)% 18446744073709551616:Nat):Int):=by
 have h64:2^dk≤9223372036854775808:=by
  have:=Nat.pow_le_pow_right (n:=2) (by omega) (show dk≤63 by omega)
  simpa using this
 rw[yT c hc,IntKind.wrap_u64,IntKind.wrap_u64]
 have e1:((c% 128:Nat):Int)% 18446744073709551616=((c% 128:Nat):Int):=by omega
 rw[e1]
 have e2:((c% 128:Nat):Int)*2^dk% 18446744073709551616=((c% 128*2^dk% 18446744073709551616:Nat):Int):=by
  generalize c% 128=q
  rw[Int.natCast_emod,Int.natCast_mul,Int.natCast_pow];rfl
 rw[e2,u64_or_nat nk _ (by omega) (Nat.mod_lt _ (by omega))]
 congr 1
 have hp:(18446744073709551616:Nat)=2^(64-dk)*2^dk:=by rw[←Nat.pow_add,show 64-dk+dk=64 by omega]
 have e3:c% 128*2^dk% 18446744073709551616=c% 128% 2^(64-dk)*2^dk:=by
  rw[hp,Nat.mul_mod_mul_right]
 rw[e3,Nat.or_comm,nat_join dk _ nk (Nat.mul_mod_left _ _) hn]
 have hlt:c% 128% 2^(64-dk)<2^(64-dk):=Nat.mod_lt _ (Nat.two_pow_pos _)
 have h1:=iL hn hlt (by omega:dk≤64)
 have:nk+c% 128*2^dk=(nk+c% 128% 2^(64-dk)*2^dk)+18446744073709551616*(c% 128/2^(64-dk)):=by
  conv=>lhs;rw[←Nat.mod_add_div (c% 128) (2^(64-dk))]
  rw[Nat.add_mul,hp,Nat.mul_right_comm (2^(64-dk)) (2^dk)]
  omega
 have h1:nk+c% 128% 2^(64-dk)*2^dk<18446744073709551616:=h1
 rw[this,Nat.add_mul_mod_self_left,Nat.mod_eq_of_lt h1]
 omega
theorem Mw (n d:Nat) (hn:n<18446744073709551616) (hd:d<64→n<2^d):
 bits BinOp.or IntKind.u64 (n:Int) (IntKind.u64.wrap (18446744073709551615*2^d))=((mq n d:Nat):Int):=by
 rw[IntKind.wrap_u64]
 unfold mq
 split
 ·rename_i h
  have hn:=hd h
  have hp:(18446744073709551616:Nat)=2^(64-d)*2^d:=by rw[←Nat.pow_add,show 64-d+d=64 by omega]
  have h1:1≤2^(64-d):=Nat.one_le_two_pow
  have h2:=Nat.two_pow_pos d
  have hle:2^d≤18446744073709551616:=by rw[hp];exact Nat.le_mul_of_pos_left _ h1
  have e:(18446744073709551615*2^d:Int)% 18446744073709551616=((18446744073709551616-2^d:Nat):Int):=by
   have:((18446744073709551615*2^d:Nat):Int)% ((18446744073709551616:Nat):Int)=(((18446744073709551615*2^d)% 18446744073709551616:Nat):Int):=(Int.natCast_emod _ _).symm
   have e2:18446744073709551615*2^d% 18446744073709551616=18446744073709551616-2^d:=by
    have:18446744073709551615*2^d=(18446744073709551616-2^d)+18446744073709551616*(2^d-1):=by omega
    rw[this,Nat.add_mul_mod_self_left,Nat.mod_eq_of_lt (by omega)]
   rw[e2]at this
   rw[←this,Int.natCast_mul,Int.natCast_pow];rfl
  rw[e,u64_or_nat n _ (by omega) (by omega)]
  congr 1
  have hm:(18446744073709551616-2^d)% 2^d=0:=by
   have:18446744073709551616-2^d=(2^(64-d)-1)*2^d:=by rw[Nat.sub_mul,←hp];omega
   rw[this,Nat.mul_mod_left]
  rw[Nat.or_comm,nat_join d _ n hm hn]
  omega
 ·rename_i h
  have hp:2^d=2^(d-64)*18446744073709551616:=by rw[show(18446744073709551616:Nat)=2^64 from rfl,←Nat.pow_add];congr 1;omega
  have e:(18446744073709551615*2^d:Int)% 18446744073709551616=0:=by
   have hp':(2:Int)^d=2^(d-64)*18446744073709551616:=by
    have:=congrArg (fun n:Nat=>(n:Int)) hp
    simp only[Int.natCast_mul,Int.natCast_pow]at this
    exact this
   rw[hp',←Int.mul_assoc,Int.mul_emod_left]
  rw[e]
  have:=u64_or_nat n 0 hn (by decide)
  rw[Nat.or_zero]at this
  exact this
theorem NR (n d:Nat) (hn:n<18446744073709551616) (hd:d<64→n<2^d):
 bits BinOp.or IntKind.u64 (n:Int) (IntKind.u64.wrap (18446744073709551615*2^min d 64))=((mq n d:Nat):Int):=by
 rw[Mw n (min d 64) hn (fun h=>by rw[Nat.min_eq_left (by omega)];exact hd (by omega))]
 rcases Nat.lt_or_ge d 64 with h|h
 ·rw[Nat.min_eq_left (by omega)]
 ·rw[Nat.min_eq_right (by omega)];simp[mq,show ¬d<64 by omega]
theorem SZ {a b c a' b' c':Int} (h1:a=a') (h2:b=b') (h3:c=c'):Ending.returned (.tuple #[.int .u64 a,.int .i64 b,.int .i64 c])= .returned (.tuple #[.int .u64 a',.int .i64 b',.int .i64 c']):=by rw[h1,h2,h3]
set_option maxHeartbeats 800000
theorem Ko (b off len cap:Nat) (bs:List UInt8) (at_ nb:Nat) (sg:Bool) (w:World) (hl:bs.length=len) (hlen:len≤1099511627776) (hat:at_≤len) (h1:1≤nb) (h2:nb≤64)
 (hc:∀j,j<len→w.cell? ⟨b,off+j,none⟩=some (.int .u8 ((bs.getD j 0).toNat:Int))) (r:Nat×Nat×Nat) (hr:Hid (dV sg nb (bs.drop at_) at_ 0 0=r)):
 Calls Tryz.prog 135 #[.slice (some ⟨b,off,none⟩) len cap,.int .i64 at_,.int .i64 nb,.bool sg] w fun e w'=>e= .returned (.tuple #[.int .u64 r.1,.int .i64 r.2.1,.int .i64 r.2.2])∧w=w':=by
 have HL:=Lib.hid hl;clear hl
 have HC:=Lib.hid hc;clear hc
 have hd4:decide (len<at_)=false:=by simp;omega
 go_enter Tryz.func135,Tryz.ntmps135
 go_wp2
 refine wp_scope_jumps 0 (R3 r w) (fun _ _=>0) rfl ?first ?pass
 case pass=>
  rintro⟨tm,df⟩ w1 ⟨rfl,hs,h13,hr1,hr2,rfl⟩
  simp only at hs h13
  refine wp_seq (wp_skip ?_)
  refine wp_seq ?_
  refine wp_region_lit ?_
  refine wpList_plain rfl fun K hK=>BigFrame.wp_move _ rfl (hK _ _ ?_)
  clear hK K
  refine wpList_plain rfl fun K hK=>BigFrame.wp_assign _ rfl (hK _ _ ?_)
  clear hK K
  refine wpList_plain rfl fun K hK=>BigFrame.wp_assign _ rfl (hK _ _ ?_)
  clear hK K
  refine wpList_plain rfl fun K hK=>BigFrame.wp_assign _ rfl (hK _ _ ?_)
  clear hK K
  refine wpList_nil ?_
  refine wp_ret ?_
  rw[oD]
  refine bodyPost_ret (results_tmp3 rfl _ _ _) rfl ⟨?_,rfl⟩
  simp only[Act.put,Act.eval]at h13⊢
  have g:∀(l:Array Value) (i j:Nat) (v:Value),l.size=76→j<76→(l.setIfInBounds i v).getD j undef=if i=j then v else l.getD j undef:=by
   exact UM
  simp only[g,Array.size_setIfInBounds,hs,h13]
  simp[hr1,hr2,hs]
 case first=>
  go_wp2
  go_loop [1,11,12,13,14] (fun p n c e d=>∃(pk nk ck:Nat) (ek:Int) (dk:Nat),p= .int .i64 pk∧n= .int .u64 nk∧c= .int .u8 ck∧e= .int .i64 ek∧d= .int .i64 dk∧pk≤len∧nk<2^dk∧dk<nb∧dk% 7=0∧Hid (dV sg nb (bs.drop pk) pk dk nk=r)) (fun p _ _ _ _=>len-(intOf p).toNat)
  case atStart=>exact⟨at_,0,0,2,0,rfl,rfl,rfl,rfl,rfl,hat,by decide,by omega,rfl,hr⟩
  case round=>
   obtain⟨pk,nk,ck,ek,dk,rfl,rfl,rfl,rfl,rfl,hp,hn,hd,hd7,hg⟩:=hrel
   have hfg:=hg.out
   by_cases hlt:pk<len
   ·have hcell:=HC.out pk hlt
    have hdr:bs.drop pk=bs.getD pk 0::bs.drop (pk+1):=by
     have:pk<bs.length:=by rw[HL.out];exact hlt
     rw[List.drop_eq_getElem_cons this];simp[List.getD,this]
    rw[hdr]at hfg
    simp only[dV]at hfg
    have hc256:(bs.getD pk 0).toNat<256:=(bs.getD pk 0).toNat_lt
    generalize (bs.getD pk 0).toNat=c at hcell hfg hc256
    have hp7:(0:Int)≤(dk:Int)+7:=by omega
    have hov:=Lib.hid (Tm nk dk c hn (by omega) hc256)
    have hnx:(nk+c% 128*2^dk)% 18446744073709551616<2^(dk+7):=by
     have h3:=iL hn (show c% 128<2^(dk+7-dk) by rw[show dk+7-dk=7 by omega];omega) (by omega:dk≤dk+7)
     exact Nat.lt_of_le_of_lt (Nat.mod_le _ _) h3
    clear hdr
    by_cases hf:dN c (nb-dk) sg=true
    ·have hf1:(!dN c (nb-dk) sg)=false:=by rw[hf];rfl
     rw[if_neg (by simp[hf])]at hfg
     by_cases hc7:c<128
     ·rw[if_pos hc7]at hfg
      have h128:=JR c hc7
      have h64:=Vq c hc7
      have HH:=Lib.hid hfg;clear hfg hg
      by_cases hs:64≤c
      ·have hs':decide (64≤c)=true:=by simpa using hs
       cases sg
       ·go_wp2_with (go_at_call 197;refine(pg _ _ _ _ (by omega) (by omega) (by omega)).mono ?_;rintro e w' ⟨rfl,rfl⟩)
        rw[oD]
        go_ret3
        refine⟨SZ ?_ ?_ ?_,rfl⟩
        ·rw[hov.out,←HH.out];rfl
        ·rw[←HH.out];push_cast;rfl
        ·rw[←HH.out];rfl
       ·go_wp2_with (go_at_call 197;refine(pg _ _ _ _ (by omega) (by omega) (by omega)).mono ?_;rintro e w' ⟨rfl,rfl⟩)
        rw[oD]
        go_ret3
        refine⟨SZ ?_ ?_ ?_,rfl⟩
        ·rw[hov.out,←HH.out,hs',NR _ _ (Nat.mod_lt _ (by omega)) (fun _=>hnx)];rfl
        ·rw[←HH.out];push_cast;rfl
        ·rw[←HH.out];rfl
      ·have hs':decide (64≤c)=false:=by simpa using hs
       go_wp2_with (go_at_call 197;refine(pg _ _ _ _ (by omega) (by omega) (by omega)).mono ?_;rintro e w' ⟨rfl,rfl⟩)
       all_goals
        rw[oD]
        go_ret3
        refine⟨SZ ?_ ?_ ?_,rfl⟩
        ·rw[hov.out,←HH.out,hs'];simp
        ·rw[←HH.out];push_cast;rfl
        ·rw[←HH.out];rfl
     ·rw[if_neg hc7]at hfg
      have h128:=Kf c hc7 hc256
      by_cases hnd:nb≤dk+7
      ·rw[if_pos hnd]at hfg
       exact XN
      ·rw[if_neg hnd]at hfg
       have HH:=Lib.hid hfg;clear hfg hg
       go_wp2_with (go_at_call 197;refine(pg _ _ _ _ (by omega) (by omega) (by omega)).mono ?_;rintro e w' ⟨rfl,rfl⟩)
       go_round
       case rel=>
        exact⟨pk+1,_,c,11,dk+7,by go_num,by rw[hov.out],rfl,rfl,by go_num,by omega,hnx,by omega,by omega,HH⟩
       case measure=>simp[intOf];omega
    ·have hf1:(!dN c (nb-dk) sg)=true:=by simp[hf]
     rw[if_pos (by simpa using hf)]at hfg
     exact XN
   ·have hnil:bs.drop pk= []:=List.drop_eq_nil_of_le (by rw[HL.out];omega)
    rw[hnil]at hfg
    have HH:=Lib.hid hfg;clear hfg hg hnil
    go_wp2
    apply wp_goto
    exact⟨rfl,rfl,rfl,by rw[←HH.out];rfl,by rw[←HH.out];rfl,by rw[←HH.out];rfl,rfl⟩
theorem Po (a:Option Addr) (cap nb:Nat) (sg:Bool) (w:World) (h1:1≤nb) (h2:nb≤64):
 Calls Tryz.prog 135 #[.slice a 0 cap,.int .i64 0,.int .i64 nb,.bool sg] w fun e w'=>e= .returned (.tuple #[.int .u64 0,.int .i64 0,.int .i64 10])∧w=w':=by
 go_enter Tryz.func135,Tryz.ntmps135
 go_wp2
 refine wp_scope_jumps 0 (R3 (0,0,10) w) (fun _ _=>0) rfl ?first ?pass
 case pass=>
  rintro⟨tm,df⟩ w1 ⟨rfl,hs,h13,hr1,hr2,rfl⟩
  simp only at hs h13
  refine wp_seq (wp_skip ?_)
  refine wp_seq ?_
  refine wp_region_lit ?_
  refine wpList_plain rfl fun K hK=>BigFrame.wp_move _ rfl (hK _ _ ?_)
  clear hK K
  refine wpList_plain rfl fun K hK=>BigFrame.wp_assign _ rfl (hK _ _ ?_)
  clear hK K
  refine wpList_plain rfl fun K hK=>BigFrame.wp_assign _ rfl (hK _ _ ?_)
  clear hK K
  refine wpList_plain rfl fun K hK=>BigFrame.wp_assign _ rfl (hK _ _ ?_)
  clear hK K
  refine wpList_nil ?_
  refine wp_ret ?_
  rw[oD]
  refine bodyPost_ret (results_tmp3 rfl _ _ _) rfl ⟨?_,rfl⟩
  simp only[Act.put,Act.eval]at h13⊢
  have g:∀(l:Array Value) (i j:Nat) (v:Value),l.size=76→j<76→(l.setIfInBounds i v).getD j undef=if i=j then v else l.getD j undef:=by
   exact UM
  simp only[g,Array.size_setIfInBounds,hs,h13]
  simp[hs]
 case first=>
  go_wp2
  refine wp_loop_rounds 1 ?_
  rw[rounds_succ]
  go_wp2
  apply wp_goto
  exact⟨rfl,rfl,rfl,rfl,rfl,rfl,rfl⟩
theorem Bv (S:List Nat) (bv:Value) (bs:List UInt8) (at_ nb:Nat) (sg:Bool) (w:World) (hb:Sl S w 1 bv bs.length (bs.map B)) (hlen:bs.length≤1099511627776) (hat:at_≤bs.length) (h1:1≤nb) (h2:nb≤64):
 Calls Tryz.prog 135 #[bv,.int .i64 at_,.int .i64 nb,.bool sg] w fun e w'=>
  e= .returned (.tuple #[.int .u64 (ak bs at_ nb sg).1,.int .i64 (ak bs at_ nb sg).2.1,.int .i64 (ak bs at_ nb sg).2.2])∧w=w':=by
 obtain⟨_,_,a,cap,rfl,_,_,_,h6⟩:=hb
 rcases h6 with h0|⟨b,off,rfl,_,_,hc⟩
 ·have:bs= []:=by simpa using h0
  subst this
  have:at_=0:=by simpa using hat
  subst this
  exact Po a cap nb sg w h1 h2
 ·unfold ak
  rw[if_pos hat]
  refine Ko b off bs.length cap bs at_ nb sg w rfl hlen hat h1 h2 (fun j hj=> ?_) _ (Lib.hid rfl)
  rw[hc j (by omega)]
  simp[B,hj]
theorem wm (S:List Nat) (bv:Value) (bs:List UInt8) (at_ nb:Nat) (w:World) (hb:Sl S w 1 bv bs.length (bs.map B)) (hlen:bs.length≤1099511627776) (hat:at_≤bs.length) (h1:1≤nb) (h2:nb≤64):
 Calls Tryz.prog 103 #[bv,.int .i64 at_,.int .i64 nb] w fun e w'=>
  e= .returned (.tuple #[.int .u64 (ak bs at_ nb false).1,.int .i64 (ak bs at_ nb false).2.1,.int .i64 (ak bs at_ nb false).2.2])∧w=w':=by
 go_enter Tryz.func103,Tryz.ntmps103
 go_wp2_with (go_at_call 135;refine(Bv S _ bs _ _ _ _ hb hlen hat h1 h2).mono ?_;rintro e w' ⟨rfl,rfl⟩)
 go_ret3
 exact⟨rfl,rfl⟩
theorem DD (n:Nat) (h:n<18446744073709551616):wrap64 (n:Int)=fC n:=by
 unfold wrap64 fC
 split<;>omega
theorem vP (bs:List UInt8) (at_ nb:Nat) (sg:Bool):(ak bs at_ nb sg).1<18446744073709551616:=by
 unfold ak
 split
 ·exact Ob _ _ _ _ _ _ (by simp)
 ·simp
theorem Nf (S:List Nat) (bv:Value) (bs:List UInt8) (at_ nb:Nat) (w:World) (hb:Sl S w 1 bv bs.length (bs.map B)) (hlen:bs.length≤1099511627776) (hat:at_≤bs.length) (h1:1≤nb) (h2:nb≤64):
 Calls Tryz.prog 290 #[bv,.int .i64 at_,.int .i64 nb] w fun e w'=>
  e= .returned (.tuple #[.int .i64 (fC (ak bs at_ nb true).1),.int .i64 (ak bs at_ nb true).2.1,.int .i64 (ak bs at_ nb true).2.2])∧w=w':=by
 go_enter Tryz.func290,Tryz.ntmps290
 go_wp2_with (go_at_call 135;refine(Bv S _ bs _ _ _ _ hb hlen hat h1 h2).mono ?_;rintro e w' ⟨rfl,rfl⟩)
 go_ret3
 refine⟨?_,rfl⟩
 rw[←DD _ (vP _ _ _ _)]
 rfl
theorem bG (n:Nat) (h:n<18446744073709551616):(aI n).length≤10:=by
 have key:∀k n,n<128^(k+1)→(aI n).length≤k+1:=by
  intro k
  induction k with
  |zero=>intro n h;rw[dH n (by simpa using h)];simp
  |succ k ih=>
   intro n h
   by_cases hs:n<128
   ·rw[dH n hs];simp
   ·rw[px n (by omega)]
    have:=ih (n/128) (by rw[Nat.div_lt_iff_lt_mul (by omega)];rw[Nat.pow_succ]at h;exact h)
    simp;omega
 exact key 9 n (by omega)
theorem Ef (m:Nat) (h:m<18446744073709551616):bits .and .u64 (m:Int) 127% 256=((m% 128:Nat):Int):=by
 have:=u64_and_nat m 127 h (by decide)
 rw[nat_mask7]at this
 rw[show(127:Int)=((127:Nat):Int) from rfl,this]
 omega
theorem pU (m:Nat) (h:m<256):B (UInt8.ofNat m)= .int .u8 (m:Int):=by unfold B;rw[fh m h]
theorem Em (N:Nat) (w:World) (hN:N<18446744073709551616):
 Calls Tryz.prog 131 #[.int .u64 N] w fun e w'=>∃v,e= .returned v∧bf [] w' 5 1 v (aI N).length ((aI N).map B)∧jS w v∧Fr [] w w':=by
 have hneg:decide ((N:Int)<0)=false:=by simp
 go_enter Tryz.func131,Tryz.ntmps131
 go_wp2
 go_loopw [0,6] (fun n v wr=>∃(m:Nat) (bs:List UInt8),n= .int .u64 m∧m<18446744073709551616∧bf [] wr 5 1 v bs.length (bs.map B)∧jS w v∧Fr [] w wr∧Hid (aI N=bs++aI m)) (fun n _ _=>(intOf n).toNat)
 case atStart=>exact⟨N,[],rfl,hN,bf.nil _ _ _ _,jS.nil _,Fr.refl _ _,Lib.hid rfl⟩
 case round=>
  obtain⟨m,bs,rfl,hm,hown,hnew,hfr,hg⟩:=hrel
  have hlen:bs.length≤10:=by
   have h1:=congrArg List.length hg.out
   have h2:=bG N hN
   simp at h1;omega
  have hc:=Lib.hid (Ef m hm)
  by_cases hs:m<128
  ·have hq:(m:Int)/128=0:=by omega
   go_wp2_with (at_builtin;(refine dF rfl (.tmp 34) (.tmp 36) _ rfl _ bs.length (bs.map B) rfl ?hown _ 1 [.int .u8 (bits BinOp.and IntKind.u64 (↑m) 127% 256)] rfl ?hsrc ?hb ?_))
   case hown=>exact hown.fr ((Fr.refl [] wr).alloc _) (by simp)
   case hsrc=>exact OY aB (by simp) rfl
   case hb=>omega
   intro v' w1 hown1 hf1 hb1
   have e:bs.map B++ [Value.int .u8 (bits BinOp.and IntKind.u64 (↑m) 127% 256)]=(aI N).map B:=by
    rw[hg.out,dH m hs,List.map_append,hc.out]
    have:m% 128=m:=by omega
    simp[pU m (by omega),this]
   have e2:bs.length+1=(aI N).length:=by rw[hg.out,dH m hs];simp
   rw[e,e2]at hown1
   clear e e2
   exact Vu
  ·have hq:((m:Int)/128==0)=false:=by simp;omega
   have hor:Hid (bits BinOp.or IntKind.u8 (bits BinOp.and IntKind.u64 (↑m) 127% 256) 128=((m% 128+128:Nat):Int)):=by
    have:=u8_or128_right ((m% 128:Nat):Int) (by omega) (by omega)
    apply Lib.hid
    rw[hc.out,this];omega
   go_wp2_with (at_builtin;(refine dF rfl (.tmp 38) (.tmp 41) _ rfl _ bs.length (bs.map B) rfl ?hown2 _ 1 [.int .u8 (bits BinOp.or IntKind.u8 (bits BinOp.and IntKind.u64 (↑m) 127% 256) 128)] rfl ?hsrc2 ?hb2 ?_))
   case hown2=>exact hown.fr ((Fr.refl [] wr).alloc _) (by simp)
   case hsrc2=>exact OY aB (by simp) rfl
   case hb2=>omega
   intro v' w1 hown1 hf1 hb1
   rw[hor.out,←pU _ (by omega)]at hown1
   go_wp2
   go_roundw
   case rel=>
    refine⟨m/128,bs++ [UInt8.ofNat (m% 128+128)],by go_num,by omega,by simpa using hown1,hnew.app hb1 (by have:=hfr.size;omega),(hfr.alloc _).app hf1 hnew,Lib.hid ?_⟩
    rw[hg.out,px m (by omega)];simp
   case measure=>simp[intOf];omega
end Go.Proofs.YtpdlmdlkecnpgaaGreatDoor
