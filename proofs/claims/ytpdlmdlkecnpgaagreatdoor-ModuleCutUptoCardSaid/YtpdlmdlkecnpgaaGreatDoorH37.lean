/- Texts: MdPa. -/
import Derived.Test.YtpdlmdlkecnpgaaGreatDoorH0
import Derived.Test.YtpdlmdlkecnpgaaGreatDoorH36
set_option linter.unusedSimpArgs false
set_option linter.unusedVariables false
namespace Go.Proofs.YtpdlmdlkecnpgaaGreatDoor
open Go.RowKit
structure Fs (w0:World) (ek:Int) (en:Bool) (hk hn:Int) (inits:List (List aa)) (mode table:Int) (offset:List aa) (iv ov:Value):Prop where
 hg:cq [] w0
 hI:an 1 ou iv inits w0
 hO:eo ov offset w0
 hok:aC.ok ⟨hk,hn⟩
 ht:0≤table∧table<9223372036854775808
 hp:jq offset
 hi:∀l∈inits,jq l∧∀i∈l,i.op=210→0≤i.x∧i.x<9223372036854775808
 hlen:(cw ⟨⟨ek,en,⟨hk,hn⟩⟩,inits,mode,table,offset⟩).length≤35184372088000
def IA (P:Program) (w0:World) (ek:Int) (en:Bool) (hk hn:Int) (inits:List (List aa)) (mode table:Int) (offset:List aa) (iv ov:Value):Prop:=
 d9 P 32 w0 (.agg #[.int .i64 ek,.bool en,.int .i64 hk,.int .i64 hn,iv,.int .i64 mode,.int .i64 table,ov]) (cw ⟨⟨ek,en,⟨hk,hn⟩⟩,inits,mode,table,offset⟩) 35184372088832
theorem Xp {p:Prop} (h:p:=by
 go_enter Tryz.func32,Tryz.ntmps32
 go_wp2_with first|(refine AN Fo rfl rfl rfl rfl ((GF ek 3 en false hk 7 hn 0 _).trans (by rw[HT.out])) ?_)|(go_at_call 93;refine(HALL.out _ (by exact aM)).mono ?_;rintro e w4 ⟨rfl,hF4⟩;rw[HA.out];(try clear hQ);refine cB hF4 fun hS hQ=> ?_)|(refine Rh Fo rfl rfl rfl rfl rfl ((Il ek 3 en true hk 7 hn 0 _).trans (by rw[HN.out])) ?_)|(at_builtin;(try clear hQ);refine wb fun vN wN hS hQ=> ?_)|(go_at_call 19;refine ki ?_;refine sC ?_;intro vN wN hS;(try clear hQ);have hQ:=St.fq hS)|(go_at_call 87;refine tD hg offset hO2 hp ?_;refine kv ?_;intro vN wN hS;(try clear hQ);have hQ:=St.fq hS)|(go_at_call 97;(with_reducible refine(oU (⟨ek,en,⟨hk,hn⟩⟩:aF) ?_ ?_).mono ?_);(·apply St.gl (hs:=hg.gl);(exact aA));(·exact hok);rintro e w4 ⟨v4,rfl,s4⟩;(try clear hQ);refine qa s4 fun hS hQ=> ?_)|(go_at_call 95;(first|with_reducible refine(KP i7 (p:=ch) (St.pick (G:= _) (by exact aA) (by exact aK)) hI2 (N:=70368744177000) (by decide) (by exact bS) HP.out).mono ?_|with_reducible refine(Ks i7 (p:=al) (St.pick (G:= _) (by exact aA) (by exact aK)) hI2 (N:=70368744177000) (by decide) (by exact bS) HP.out).mono ?_);rintro e w4 ⟨v4,rfl,hS⟩;(try clear hQ);have hQ:=St.fq hS)|fail
 all_goals
  (try go_wp2)
  go_ret
  exact⟨_,rfl,hS.sel (by exact ic)⟩
):p:=h
theorem Im {w0:World} (hg:cq [] w0) (l:List aa) (v0:Value) (h:eo v0 l w0) (hp:jq l):d9 Tryz.prog 87 w0 v0 (al l) 70368744177000:=fun G w v xs hS hl=>FA hS hg l h hp hl
theorem Ai {w0:World} {inits:List (List aa)} (hA:inits.all cW=true) (hi:∀l∈inits,jq l∧∀i∈l,i.op=210→0≤i.x∧i.x<9223372036854775808):∀l∈inits,∀v,ou l [v] w0→d9 Tryz.prog 96 w0 v (ch l) 70368744177000:=fun l hl v hR=>by
 obtain⟨v2,e,hR⟩:=hR
 obtain rfl:v=v2:=by simpa using e
 exact Iv l v hR (List.all_eq_true.1 hA l hl) (fun i hi2=>(hi l hl).2 i hi2 (by
  have h1:=List.all_eq_true.1 hA l hl
  unfold cW at h1
  simp only[Bool.and_eq_true,decide_eq_true_eq]at h1
  obtain⟨t,rfl⟩:=List.length_eq_one_iff.1 h1.1
  obtain rfl:i=t:=by simpa using hi2
  simpa using h1.2))
theorem nW {w0:World} (hg:cq [] w0) {inits:List (List aa)} (hi:∀l∈inits,jq l∧∀i∈l,i.op=210→0≤i.x∧i.x<9223372036854775808):∀l∈inits,∀v,ou l [v] w0→d9 Tryz.prog 87 w0 v (al l) 70368744177000:=fun l hl v hR=>by
 obtain⟨v2,e,hR⟩:=hR
 obtain rfl:v=v2:=by simpa using e
 exact Im hg l v hR (hi l hl).1
theorem Li {w0:World} {inits:List (List aa)} {iv:Value} (hI:an 1 ou iv inits w0) (w':World) (hf:Fr [] w0 w'):Calls Tryz.prog 93 #[iv,.func (.func 94) #[] #[]] w' fun e w2=>e= .returned (.bool (inits.all cW))∧Fr [] w' w2:=
 Ma i7 (p:=cW) (an.fr i7.fr hI hf) (fun l hl v w2 hf hR=>by
  obtain⟨v2,e,hR⟩:=hR
  obtain rfl:v=v2:=by simpa using e
  exact(KI w2 v l hR).mono fun e w3 ⟨h1,h2⟩=>⟨h1,h2▸Fr.refl _ _⟩)
set_option maxRecDepth 100000
set_option maxHeartbeats 3200000
theorem OE {w0 ek en hk hn inits mode table offset iv ov} (H:Fs w0 ek en hk hn inits mode table offset iv ov)
 (hT:(decide (ek=3)&&(decide (en=false)&&(decide (hk=7)&&decide (hn=0))))=true) (hA:inits.all cW=true) (hm:mode=0):
 IA Tryz.prog w0 ek en hk hn inits mode table offset iv ov:=by
 obtain⟨hg,hI,hO,hok,ht,hp,hi,hlen⟩:=H
 intro G w v xs hS hx
 have hI2:=hI
 have hO2:=hO
 obtain⟨a,cc,rfl⟩:=an.shape hO
 obtain⟨a2,cc2,rfl⟩:=an.shape hI
 have lp:=hp.len
 have lv:=dn ⟨ek,en,⟨hk,hn⟩⟩ hok
 have ln:=az table ht.2
 have hnm:aG ⟨⟨ek,en,⟨hk,hn⟩⟩,inits,mode,table,offset⟩=true:=by
  exact RG
 have hby:cf ⟨⟨ek,en,⟨hk,hn⟩⟩,inits,mode,table,offset⟩=1:=by
  exact Jx
 have e1:cw ⟨⟨ek,en,⟨hk,hn⟩⟩,inits,mode,table,offset⟩= [UInt8.ofNat (1:Int).toNat]++ [UInt8.ofNat (0:Int).toNat]++ae ch inits:=by rw[fE hnm hby];simp[hm]
 rw[e1]at hlen⊢
 have e2:xs++([UInt8.ofNat (1:Int).toNat]++ [UInt8.ofNat (0:Int).toNat]++ae ch inits)=xs++ [UInt8.ofNat (1:Int).toNat]++ [UInt8.ofNat (0:Int).toNat]++ae ch inits:=by simp only[List.append_assoc]
 rw[e2]
 simp only[List.length_append,List.length_cons,List.length_nil]at hlen
 have hlist:(ae ch inits).length≤35184372088000:=by omega
 have qm:(mode==0)=true:=by simp[hm]
 have qm1:(mode==1)=false:=by simp[hm]
 have HP:=Lib.hid (Ai (w0:=w0) hA hi)
 have HT:=Lib.hid hT
 have b1:bits .or .u8 0 1=1:=by decide+kernel
 have b2:bits .and .u8 1 3=1:=by decide+kernel
 exact TX
theorem Mq {w0 ek en hk hn inits mode table offset iv ov} (H:Fs w0 ek en hk hn inits mode table offset iv ov)
 (hT:(decide (ek=3)&&(decide (en=false)&&(decide (hk=7)&&decide (hn=0))))=true) (hA:inits.all cW=true) (hm:mode=2):
 IA Tryz.prog w0 ek en hk hn inits mode table offset iv ov:=by
 obtain⟨hg,hI,hO,hok,ht,hp,hi,hlen⟩:=H
 intro G w v xs hS hx
 have hI2:=hI
 have hO2:=hO
 obtain⟨a,cc,rfl⟩:=an.shape hO
 obtain⟨a2,cc2,rfl⟩:=an.shape hI
 have lp:=hp.len
 have lv:=dn ⟨ek,en,⟨hk,hn⟩⟩ hok
 have ln:=az table ht.2
 have hnm:aG ⟨⟨ek,en,⟨hk,hn⟩⟩,inits,mode,table,offset⟩=true:=by
  exact RG
 have hby:cf ⟨⟨ek,en,⟨hk,hn⟩⟩,inits,mode,table,offset⟩=3:=by
  exact Jx
 have e1:cw ⟨⟨ek,en,⟨hk,hn⟩⟩,inits,mode,table,offset⟩= [UInt8.ofNat (3:Int).toNat]++ [UInt8.ofNat (0:Int).toNat]++ae ch inits:=by rw[fE hnm hby];simp[hm]
 rw[e1]at hlen⊢
 have e2:xs++([UInt8.ofNat (3:Int).toNat]++ [UInt8.ofNat (0:Int).toNat]++ae ch inits)=xs++ [UInt8.ofNat (3:Int).toNat]++ [UInt8.ofNat (0:Int).toNat]++ae ch inits:=by simp only[List.append_assoc]
 rw[e2]
 simp only[List.length_append,List.length_cons,List.length_nil]at hlen
 have hlist:(ae ch inits).length≤35184372088000:=by omega
 have qm:(mode==0)=false:=by simp[hm]
 have qm2:(mode==2)=true:=by simp[hm]
 have qm1:(mode==1)=false:=by simp[hm]
 have HP:=Lib.hid (Ai (w0:=w0) hA hi)
 have HT:=Lib.hid hT
 have b1:bits .or .u8 0 3=3:=by decide+kernel
 have b2:bits .and .u8 3 3=3:=by decide+kernel
 exact TX
theorem Ho {w0 ek en hk hn inits mode table offset iv ov} (H:Fs w0 ek en hk hn inits mode table offset iv ov)
 (hT:(decide (ek=3)&&(decide (en=false)&&(decide (hk=7)&&decide (hn=0))))=true) (hA:inits.all cW=true) (hm:mode=1) (hz:(table !=0)=true):
 IA Tryz.prog w0 ek en hk hn inits mode table offset iv ov:=by
 obtain⟨hg,hI,hO,hok,ht,hp,hi,hlen⟩:=H
 intro G w v xs hS hx
 have hI2:=hI
 have hO2:=hO
 obtain⟨a,cc,rfl⟩:=an.shape hO
 obtain⟨a2,cc2,rfl⟩:=an.shape hI
 have lp:=hp.len
 have lv:=dn ⟨ek,en,⟨hk,hn⟩⟩ hok
 have ln:=az table ht.2
 have hnm:aG ⟨⟨ek,en,⟨hk,hn⟩⟩,inits,mode,table,offset⟩=true:=by
  exact RG
 have hby:cf ⟨⟨ek,en,⟨hk,hn⟩⟩,inits,mode,table,offset⟩=2:=by
  exact Tg
 have e1:cw ⟨⟨ek,en,⟨hk,hn⟩⟩,inits,mode,table,offset⟩= [UInt8.ofNat (2:Int).toNat]++au table++al offset++ [UInt8.ofNat (0:Int).toNat]++ae ch inits:=by rw[fE hnm hby];simp[hm]
 rw[e1]at hlen⊢
 have e2:xs++([UInt8.ofNat (2:Int).toNat]++au table++al offset++ [UInt8.ofNat (0:Int).toNat]++ae ch inits)=xs++ [UInt8.ofNat (2:Int).toNat]++au table++al offset++ [UInt8.ofNat (0:Int).toNat]++ae ch inits:=by simp only[List.append_assoc]
 rw[e2]
 simp only[List.length_append,List.length_cons,List.length_nil]at hlen
 have hlist:(ae ch inits).length≤35184372088000:=by omega
 have qm:(mode==0)=false:=by simp[hm]
 have qm2:(mode==2)=false:=by simp[hm]
 have qm1:(mode==1)=true:=by simp[hm]
 have HP:=Lib.hid (Ai (w0:=w0) hA hi)
 have HT:=Lib.hid hT
 have b1:bits .or .u8 0 2=2:=by decide+kernel
 have b2:bits .and .u8 2 3=2:=by decide+kernel
 exact TX
theorem Pb {w0 ek en hk hn inits mode table offset iv ov} (H:Fs w0 ek en hk hn inits mode table offset iv ov)
 (hT:(decide (ek=3)&&(decide (en=false)&&(decide (hk=7)&&decide (hn=0))))=true) (hA:inits.all cW=true) (hm:mode=1) (hz:(table !=0)=false):
 IA Tryz.prog w0 ek en hk hn inits mode table offset iv ov:=by
 obtain⟨hg,hI,hO,hok,ht,hp,hi,hlen⟩:=H
 intro G w v xs hS hx
 have hI2:=hI
 have hO2:=hO
 obtain⟨a,cc,rfl⟩:=an.shape hO
 obtain⟨a2,cc2,rfl⟩:=an.shape hI
 have lp:=hp.len
 have lv:=dn ⟨ek,en,⟨hk,hn⟩⟩ hok
 have ln:=az table ht.2
 have hnm:aG ⟨⟨ek,en,⟨hk,hn⟩⟩,inits,mode,table,offset⟩=true:=by
  exact RG
 have hby:cf ⟨⟨ek,en,⟨hk,hn⟩⟩,inits,mode,table,offset⟩=0:=by
  unfold cf uH
  rw[hnm]
  dsimp only
  simp[hm,(by simpa using hz:table=0)]
 have e1:cw ⟨⟨ek,en,⟨hk,hn⟩⟩,inits,mode,table,offset⟩= [UInt8.ofNat (0:Int).toNat]++al offset++ae ch inits:=by rw[fE hnm hby];simp[hm]
 rw[e1]at hlen⊢
 have e2:xs++([UInt8.ofNat (0:Int).toNat]++al offset++ae ch inits)=xs++ [UInt8.ofNat (0:Int).toNat]++al offset++ae ch inits:=by simp only[List.append_assoc]
 rw[e2]
 simp only[List.length_append,List.length_cons,List.length_nil]at hlen
 have hlist:(ae ch inits).length≤35184372088000:=by omega
 have qm:(mode==0)=false:=by simp[hm]
 have qm2:(mode==2)=false:=by simp[hm]
 have qm1:(mode==1)=true:=by simp[hm]
 have HP:=Lib.hid (Ai (w0:=w0) hA hi)
 have HT:=Lib.hid hT
 have b2:bits .and .u8 0 3=0:=by decide+kernel
 exact TX
theorem Pj {w0 ek en hk hn inits mode table offset iv ov} (H:Fs w0 ek en hk hn inits mode table offset iv ov)
 (hT:(decide (ek=3)&&(decide (en=false)&&(decide (hk=7)&&decide (hn=0))))=true) (hA:inits.all cW=false) (hm:mode=0):
 IA Tryz.prog w0 ek en hk hn inits mode table offset iv ov:=by
 obtain⟨hg,hI,hO,hok,ht,hp,hi,hlen⟩:=H
 intro G w v xs hS hx
 have hI2:=hI
 have hO2:=hO
 obtain⟨a,cc,rfl⟩:=an.shape hO
 obtain⟨a2,cc2,rfl⟩:=an.shape hI
 have lp:=hp.len
 have lv:=dn ⟨ek,en,⟨hk,hn⟩⟩ hok
 have ln:=az table ht.2
 have hnm:aG ⟨⟨ek,en,⟨hk,hn⟩⟩,inits,mode,table,offset⟩=false:=by
  exact RG
 have hby:cf ⟨⟨ek,en,⟨hk,hn⟩⟩,inits,mode,table,offset⟩=5:=by
  exact Jx
 have e1:cw ⟨⟨ek,en,⟨hk,hn⟩⟩,inits,mode,table,offset⟩= [UInt8.ofNat (5:Int).toNat]++es ⟨ek,en,⟨hk,hn⟩⟩++ae al inits:=by rw[fE hnm hby];simp[hm]
 rw[e1]at hlen⊢
 have e2:xs++([UInt8.ofNat (5:Int).toNat]++es ⟨ek,en,⟨hk,hn⟩⟩++ae al inits)=xs++ [UInt8.ofNat (5:Int).toNat]++es ⟨ek,en,⟨hk,hn⟩⟩++ae al inits:=by simp only[List.append_assoc]
 rw[e2]
 simp only[List.length_append,List.length_cons,List.length_nil]at hlen
 have hlist:(ae al inits).length≤35184372088000:=by omega
 have qm:(mode==0)=true:=by simp[hm]
 have qm1:(mode==1)=false:=by simp[hm]
 have HP:=Lib.hid (nW hg hi)
 have HT:=Lib.hid hT
 have b1:bits .or .u8 4 1=5:=by decide+kernel
 have b2:bits .and .u8 5 3=1:=by decide+kernel
 exact TX
theorem Lz {w0 ek en hk hn inits mode table offset iv ov} (H:Fs w0 ek en hk hn inits mode table offset iv ov)
 (hT:(decide (ek=3)&&(decide (en=false)&&(decide (hk=7)&&decide (hn=0))))=true) (hA:inits.all cW=false) (hm:mode=2):
 IA Tryz.prog w0 ek en hk hn inits mode table offset iv ov:=by
 obtain⟨hg,hI,hO,hok,ht,hp,hi,hlen⟩:=H
 intro G w v xs hS hx
 have hI2:=hI
 have hO2:=hO
 obtain⟨a,cc,rfl⟩:=an.shape hO
 obtain⟨a2,cc2,rfl⟩:=an.shape hI
 have lp:=hp.len
 have lv:=dn ⟨ek,en,⟨hk,hn⟩⟩ hok
 have ln:=az table ht.2
 have hnm:aG ⟨⟨ek,en,⟨hk,hn⟩⟩,inits,mode,table,offset⟩=false:=by
  exact RG
 have hby:cf ⟨⟨ek,en,⟨hk,hn⟩⟩,inits,mode,table,offset⟩=7:=by
  exact Jx
 have e1:cw ⟨⟨ek,en,⟨hk,hn⟩⟩,inits,mode,table,offset⟩= [UInt8.ofNat (7:Int).toNat]++es ⟨ek,en,⟨hk,hn⟩⟩++ae al inits:=by rw[fE hnm hby];simp[hm]
 rw[e1]at hlen⊢
 have e2:xs++([UInt8.ofNat (7:Int).toNat]++es ⟨ek,en,⟨hk,hn⟩⟩++ae al inits)=xs++ [UInt8.ofNat (7:Int).toNat]++es ⟨ek,en,⟨hk,hn⟩⟩++ae al inits:=by simp only[List.append_assoc]
 rw[e2]
 simp only[List.length_append,List.length_cons,List.length_nil]at hlen
 have hlist:(ae al inits).length≤35184372088000:=by omega
 have qm:(mode==0)=false:=by simp[hm]
 have qm2:(mode==2)=true:=by simp[hm]
 have qm1:(mode==1)=false:=by simp[hm]
 have HP:=Lib.hid (nW hg hi)
 have HT:=Lib.hid hT
 have b1:bits .or .u8 4 3=7:=by decide+kernel
 have b2:bits .and .u8 7 3=3:=by decide+kernel
 exact TX
theorem Kb {w0 ek en hk hn inits mode table offset iv ov} (H:Fs w0 ek en hk hn inits mode table offset iv ov)
 (hT:(decide (ek=3)&&(decide (en=false)&&(decide (hk=7)&&decide (hn=0))))=true) (hA:inits.all cW=false) (hm:mode=1) (hz:(table !=0)=true):
 IA Tryz.prog w0 ek en hk hn inits mode table offset iv ov:=by
 obtain⟨hg,hI,hO,hok,ht,hp,hi,hlen⟩:=H
 intro G w v xs hS hx
 have hI2:=hI
 have hO2:=hO
 obtain⟨a,cc,rfl⟩:=an.shape hO
 obtain⟨a2,cc2,rfl⟩:=an.shape hI
 have lp:=hp.len
 have lv:=dn ⟨ek,en,⟨hk,hn⟩⟩ hok
 have ln:=az table ht.2
 have hnm:aG ⟨⟨ek,en,⟨hk,hn⟩⟩,inits,mode,table,offset⟩=false:=by
  exact RG
 have hby:cf ⟨⟨ek,en,⟨hk,hn⟩⟩,inits,mode,table,offset⟩=6:=by
  exact Tg
 have e1:cw ⟨⟨ek,en,⟨hk,hn⟩⟩,inits,mode,table,offset⟩= [UInt8.ofNat (6:Int).toNat]++au table++al offset++es ⟨ek,en,⟨hk,hn⟩⟩++ae al inits:=by rw[fE hnm hby];simp[hm]
 rw[e1]at hlen⊢
 have e2:xs++([UInt8.ofNat (6:Int).toNat]++au table++al offset++es ⟨ek,en,⟨hk,hn⟩⟩++ae al inits)=xs++ [UInt8.ofNat (6:Int).toNat]++au table++al offset++es ⟨ek,en,⟨hk,hn⟩⟩++ae al inits:=by simp only[List.append_assoc]
 rw[e2]
 simp only[List.length_append,List.length_cons,List.length_nil]at hlen
 have hlist:(ae al inits).length≤35184372088000:=by omega
 have qm:(mode==0)=false:=by simp[hm]
 have qm2:(mode==2)=false:=by simp[hm]
 have qm1:(mode==1)=true:=by simp[hm]
 have HP:=Lib.hid (nW hg hi)
 have HT:=Lib.hid hT
 have b1:bits .or .u8 4 2=6:=by decide+kernel
 have b2:bits .and .u8 6 3=2:=by decide+kernel
 exact TX
theorem GW {w0 ek en hk hn inits mode table offset iv ov} (H:Fs w0 ek en hk hn inits mode table offset iv ov)
 (hT:(decide (ek=3)&&(decide (en=false)&&(decide (hk=7)&&decide (hn=0))))=true) (hA:inits.all cW=false) (hm:mode=1) (hz:(table !=0)=false) (hN:(decide (ek=3)&&(decide (en=true)&&(decide (hk=7)&&decide (hn=0))))=false):
 IA Tryz.prog w0 ek en hk hn inits mode table offset iv ov:=by
 obtain⟨hg,hI,hO,hok,ht,hp,hi,hlen⟩:=H
 intro G w v xs hS hx
 have hI2:=hI
 have hO2:=hO
 obtain⟨a,cc,rfl⟩:=an.shape hO
 obtain⟨a2,cc2,rfl⟩:=an.shape hI
 have lp:=hp.len
 have lv:=dn ⟨ek,en,⟨hk,hn⟩⟩ hok
 have ln:=az table ht.2
 have hnm:aG ⟨⟨ek,en,⟨hk,hn⟩⟩,inits,mode,table,offset⟩=false:=by
  exact RG
 have hnl:decide ((⟨ek,en,⟨hk,hn⟩⟩:aF)=lV)=false:=by rw[←hN];rw[Bool.eq_iff_iff];simp[lV]
 have hby:cf ⟨⟨ek,en,⟨hk,hn⟩⟩,inits,mode,table,offset⟩=6:=by
  exact UZ
 have e1:cw ⟨⟨ek,en,⟨hk,hn⟩⟩,inits,mode,table,offset⟩= [UInt8.ofNat (6:Int).toNat]++au table++al offset++es ⟨ek,en,⟨hk,hn⟩⟩++ae al inits:=by rw[fE hnm hby];simp[hm]
 rw[e1]at hlen⊢
 have e2:xs++([UInt8.ofNat (6:Int).toNat]++au table++al offset++es ⟨ek,en,⟨hk,hn⟩⟩++ae al inits)=xs++ [UInt8.ofNat (6:Int).toNat]++au table++al offset++es ⟨ek,en,⟨hk,hn⟩⟩++ae al inits:=by simp only[List.append_assoc]
 rw[e2]
 simp only[List.length_append,List.length_cons,List.length_nil]at hlen
 have hlist:(ae al inits).length≤35184372088000:=by omega
 have qm:(mode==0)=false:=by simp[hm]
 have qm2:(mode==2)=false:=by simp[hm]
 have qm1:(mode==1)=true:=by simp[hm]
 have HP:=Lib.hid (nW hg hi)
 have HT:=Lib.hid hT
 have b1:bits .or .u8 4 2=6:=by decide+kernel
 have b2:bits .and .u8 6 3=2:=by decide+kernel
 have HA:=Lib.hid hA
 have HALL:=Lib.hid (Li hI2)
 have HN:=Lib.hid hN
 clear hN hnl
 clear hT hA hi hm hnm hby e1 e2 hO hI
 exact Xp
theorem Lr {w0 ek en hk hn inits mode table offset iv ov} (H:Fs w0 ek en hk hn inits mode table offset iv ov)
 (hT:(decide (ek=3)&&(decide (en=false)&&(decide (hk=7)&&decide (hn=0))))=false) (hm:mode=0):
 IA Tryz.prog w0 ek en hk hn inits mode table offset iv ov:=by
 obtain⟨hg,hI,hO,hok,ht,hp,hi,hlen⟩:=H
 intro G w v xs hS hx
 have hI2:=hI
 have hO2:=hO
 obtain⟨a,cc,rfl⟩:=an.shape hO
 obtain⟨a2,cc2,rfl⟩:=an.shape hI
 have lp:=hp.len
 have lv:=dn ⟨ek,en,⟨hk,hn⟩⟩ hok
 have ln:=az table ht.2
 have hnm:aG ⟨⟨ek,en,⟨hk,hn⟩⟩,inits,mode,table,offset⟩=false:=by
  exact Wm
 have hby:cf ⟨⟨ek,en,⟨hk,hn⟩⟩,inits,mode,table,offset⟩=5:=by
  exact Jx
 have e1:cw ⟨⟨ek,en,⟨hk,hn⟩⟩,inits,mode,table,offset⟩= [UInt8.ofNat (5:Int).toNat]++es ⟨ek,en,⟨hk,hn⟩⟩++ae al inits:=by rw[fE hnm hby];simp[hm]
 rw[e1]at hlen⊢
 have e2:xs++([UInt8.ofNat (5:Int).toNat]++es ⟨ek,en,⟨hk,hn⟩⟩++ae al inits)=xs++ [UInt8.ofNat (5:Int).toNat]++es ⟨ek,en,⟨hk,hn⟩⟩++ae al inits:=by simp only[List.append_assoc]
 rw[e2]
 simp only[List.length_append,List.length_cons,List.length_nil]at hlen
 have hlist:(ae al inits).length≤35184372088000:=by omega
 have qm:(mode==0)=true:=by simp[hm]
 have qm1:(mode==1)=false:=by simp[hm]
 have HP:=Lib.hid (nW hg hi)
 have HT:=Lib.hid hT
 have b1:bits .or .u8 4 1=5:=by decide+kernel
 have b2:bits .and .u8 5 3=1:=by decide+kernel
 exact Mj
theorem Nv {w0 ek en hk hn inits mode table offset iv ov} (H:Fs w0 ek en hk hn inits mode table offset iv ov)
 (hT:(decide (ek=3)&&(decide (en=false)&&(decide (hk=7)&&decide (hn=0))))=false) (hm:mode=2):
 IA Tryz.prog w0 ek en hk hn inits mode table offset iv ov:=by
 obtain⟨hg,hI,hO,hok,ht,hp,hi,hlen⟩:=H
 intro G w v xs hS hx
 have hI2:=hI
 have hO2:=hO
 obtain⟨a,cc,rfl⟩:=an.shape hO
 obtain⟨a2,cc2,rfl⟩:=an.shape hI
 have lp:=hp.len
 have lv:=dn ⟨ek,en,⟨hk,hn⟩⟩ hok
 have ln:=az table ht.2
 have hnm:aG ⟨⟨ek,en,⟨hk,hn⟩⟩,inits,mode,table,offset⟩=false:=by
  exact Wm
 have hby:cf ⟨⟨ek,en,⟨hk,hn⟩⟩,inits,mode,table,offset⟩=7:=by
  exact Jx
 have e1:cw ⟨⟨ek,en,⟨hk,hn⟩⟩,inits,mode,table,offset⟩= [UInt8.ofNat (7:Int).toNat]++es ⟨ek,en,⟨hk,hn⟩⟩++ae al inits:=by rw[fE hnm hby];simp[hm]
 rw[e1]at hlen⊢
 have e2:xs++([UInt8.ofNat (7:Int).toNat]++es ⟨ek,en,⟨hk,hn⟩⟩++ae al inits)=xs++ [UInt8.ofNat (7:Int).toNat]++es ⟨ek,en,⟨hk,hn⟩⟩++ae al inits:=by simp only[List.append_assoc]
 rw[e2]
 simp only[List.length_append,List.length_cons,List.length_nil]at hlen
 have hlist:(ae al inits).length≤35184372088000:=by omega
 have qm:(mode==0)=false:=by simp[hm]
 have qm2:(mode==2)=true:=by simp[hm]
 have qm1:(mode==1)=false:=by simp[hm]
 have HP:=Lib.hid (nW hg hi)
 have HT:=Lib.hid hT
 have b1:bits .or .u8 4 3=7:=by decide+kernel
 have b2:bits .and .u8 7 3=3:=by decide+kernel
 exact Mj
theorem IE {w0 ek en hk hn inits mode table offset iv ov} (H:Fs w0 ek en hk hn inits mode table offset iv ov)
 (hT:(decide (ek=3)&&(decide (en=false)&&(decide (hk=7)&&decide (hn=0))))=false) (hm:mode=1) (hz:(table !=0)=true):
 IA Tryz.prog w0 ek en hk hn inits mode table offset iv ov:=by
 obtain⟨hg,hI,hO,hok,ht,hp,hi,hlen⟩:=H
 intro G w v xs hS hx
 have hI2:=hI
 have hO2:=hO
 obtain⟨a,cc,rfl⟩:=an.shape hO
 obtain⟨a2,cc2,rfl⟩:=an.shape hI
 have lp:=hp.len
 have lv:=dn ⟨ek,en,⟨hk,hn⟩⟩ hok
 have ln:=az table ht.2
 have hnm:aG ⟨⟨ek,en,⟨hk,hn⟩⟩,inits,mode,table,offset⟩=false:=by
  exact Wm
 have hby:cf ⟨⟨ek,en,⟨hk,hn⟩⟩,inits,mode,table,offset⟩=6:=by
  exact Tg
 have e1:cw ⟨⟨ek,en,⟨hk,hn⟩⟩,inits,mode,table,offset⟩= [UInt8.ofNat (6:Int).toNat]++au table++al offset++es ⟨ek,en,⟨hk,hn⟩⟩++ae al inits:=by rw[fE hnm hby];simp[hm]
 rw[e1]at hlen⊢
 have e2:xs++([UInt8.ofNat (6:Int).toNat]++au table++al offset++es ⟨ek,en,⟨hk,hn⟩⟩++ae al inits)=xs++ [UInt8.ofNat (6:Int).toNat]++au table++al offset++es ⟨ek,en,⟨hk,hn⟩⟩++ae al inits:=by simp only[List.append_assoc]
 rw[e2]
 simp only[List.length_append,List.length_cons,List.length_nil]at hlen
 have hlist:(ae al inits).length≤35184372088000:=by omega
 have qm:(mode==0)=false:=by simp[hm]
 have qm2:(mode==2)=false:=by simp[hm]
 have qm1:(mode==1)=true:=by simp[hm]
 have HP:=Lib.hid (nW hg hi)
 have HT:=Lib.hid hT
 have b1:bits .or .u8 4 2=6:=by decide+kernel
 have b2:bits .and .u8 6 3=2:=by decide+kernel
 exact Mj
theorem JU {w0 ek en hk hn inits mode table offset iv ov} (H:Fs w0 ek en hk hn inits mode table offset iv ov)
 (hT:(decide (ek=3)&&(decide (en=false)&&(decide (hk=7)&&decide (hn=0))))=false) (hm:mode=1) (hz:(table !=0)=false) (hN:(decide (ek=3)&&(decide (en=true)&&(decide (hk=7)&&decide (hn=0))))=true):
 IA Tryz.prog w0 ek en hk hn inits mode table offset iv ov:=by
 obtain⟨hg,hI,hO,hok,ht,hp,hi,hlen⟩:=H
 intro G w v xs hS hx
 have hI2:=hI
 have hO2:=hO
 obtain⟨a,cc,rfl⟩:=an.shape hO
 obtain⟨a2,cc2,rfl⟩:=an.shape hI
 have lp:=hp.len
 have lv:=dn ⟨ek,en,⟨hk,hn⟩⟩ hok
 have ln:=az table ht.2
 have hnm:aG ⟨⟨ek,en,⟨hk,hn⟩⟩,inits,mode,table,offset⟩=false:=by
  exact Wm
 have hnl:decide ((⟨ek,en,⟨hk,hn⟩⟩:aF)=lV)=true:=by rw[←hN];rw[Bool.eq_iff_iff];simp[lV]
 have hby:cf ⟨⟨ek,en,⟨hk,hn⟩⟩,inits,mode,table,offset⟩=4:=by
  unfold cf uH
  rw[hnm]
  dsimp only
  simp[hm,(by simpa using hz:table=0),(by simpa using hnl:((⟨ek,en,⟨hk,hn⟩⟩:aF)=lV))]
 have e1:cw ⟨⟨ek,en,⟨hk,hn⟩⟩,inits,mode,table,offset⟩= [UInt8.ofNat (4:Int).toNat]++al offset++ae al inits:=by rw[fE hnm hby];simp[hm]
 rw[e1]at hlen⊢
 have e2:xs++([UInt8.ofNat (4:Int).toNat]++al offset++ae al inits)=xs++ [UInt8.ofNat (4:Int).toNat]++al offset++ae al inits:=by simp only[List.append_assoc]
 rw[e2]
 simp only[List.length_append,List.length_cons,List.length_nil]at hlen
 have hlist:(ae al inits).length≤35184372088000:=by omega
 have qm:(mode==0)=false:=by simp[hm]
 have qm2:(mode==2)=false:=by simp[hm]
 have qm1:(mode==1)=true:=by simp[hm]
 have HP:=Lib.hid (nW hg hi)
 have HT:=Lib.hid hT
 have b2:bits .and .u8 4 3=0:=by decide+kernel
 have HN:=Lib.hid hN
 clear hN hnl
 exact Mj
theorem Jk {w0 ek en hk hn inits mode table offset iv ov} (H:Fs w0 ek en hk hn inits mode table offset iv ov)
 (hT:(decide (ek=3)&&(decide (en=false)&&(decide (hk=7)&&decide (hn=0))))=false) (hm:mode=1) (hz:(table !=0)=false) (hN:(decide (ek=3)&&(decide (en=true)&&(decide (hk=7)&&decide (hn=0))))=false):
 IA Tryz.prog w0 ek en hk hn inits mode table offset iv ov:=by
 obtain⟨hg,hI,hO,hok,ht,hp,hi,hlen⟩:=H
 intro G w v xs hS hx
 have hI2:=hI
 have hO2:=hO
 obtain⟨a,cc,rfl⟩:=an.shape hO
 obtain⟨a2,cc2,rfl⟩:=an.shape hI
 have lp:=hp.len
 have lv:=dn ⟨ek,en,⟨hk,hn⟩⟩ hok
 have ln:=az table ht.2
 have hnm:aG ⟨⟨ek,en,⟨hk,hn⟩⟩,inits,mode,table,offset⟩=false:=by
  exact Wm
 have hnl:decide ((⟨ek,en,⟨hk,hn⟩⟩:aF)=lV)=false:=by rw[←hN];rw[Bool.eq_iff_iff];simp[lV]
 have hby:cf ⟨⟨ek,en,⟨hk,hn⟩⟩,inits,mode,table,offset⟩=6:=by
  exact UZ
 have e1:cw ⟨⟨ek,en,⟨hk,hn⟩⟩,inits,mode,table,offset⟩= [UInt8.ofNat (6:Int).toNat]++au table++al offset++es ⟨ek,en,⟨hk,hn⟩⟩++ae al inits:=by rw[fE hnm hby];simp[hm]
 rw[e1]at hlen⊢
 have e2:xs++([UInt8.ofNat (6:Int).toNat]++au table++al offset++es ⟨ek,en,⟨hk,hn⟩⟩++ae al inits)=xs++ [UInt8.ofNat (6:Int).toNat]++au table++al offset++es ⟨ek,en,⟨hk,hn⟩⟩++ae al inits:=by simp only[List.append_assoc]
 rw[e2]
 simp only[List.length_append,List.length_cons,List.length_nil]at hlen
 have hlist:(ae al inits).length≤35184372088000:=by omega
 have qm:(mode==0)=false:=by simp[hm]
 have qm2:(mode==2)=false:=by simp[hm]
 have qm1:(mode==1)=true:=by simp[hm]
 have HP:=Lib.hid (nW hg hi)
 have HT:=Lib.hid hT
 have b1:bits .or .u8 4 2=6:=by decide+kernel
 have b2:bits .and .u8 6 3=2:=by decide+kernel
 have HN:=Lib.hid hN
 clear hN hnl
 exact Mj
end Go.Proofs.YtpdlmdlkecnpgaaGreatDoor
