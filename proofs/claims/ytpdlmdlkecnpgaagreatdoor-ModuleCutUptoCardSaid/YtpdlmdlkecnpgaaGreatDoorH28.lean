/- Texts: MdC1. -/
import Derived.Test.YtpdlmdlkecnpgaaGreatDoorH0
import Derived.Test.YtpdlmdlkecnpgaaGreatDoorH24
set_option linter.unusedSimpArgs false
set_option linter.unusedVariables false
namespace Go.Proofs.YtpdlmdlkecnpgaaGreatDoor
open Go.RowKit
set_option maxRecDepth 100000
set_option maxHeartbeats 3200000
theorem zp (known:Int) {S w rb bv bs s} (h:Rd S w rb bv bs s):Calls Tryz.prog 221 #[.pointer (some ⟨rb,0,none⟩),.int .i64 known] w fun e w'=>e= .returned (.int .i64 ((bo known bs s).1:Nat))∧Rd S w' rb bv bs (bo known bs s).2∧Fr [rb] w w':=by
 have hS:=KT.start h
 unfold bo
 by_cases h1:0≤known
 ·by_cases h2:((af bs s).1:Int)=known
  ·rw[if_neg (fun h=>h.2 h2)]
   have q:((((af bs s).1:Nat):Int) !=known)=false:=by simp[h2]
   clear h2
   exact W4
  ·rw[if_pos ⟨h1,h2⟩]
   have q:((((af bs s).1:Nat):Int) !=known)=true:=by simp[h2]
   clear h2
   exact W4
 ·rw[if_neg (fun h=>h1 h.1)]
  exact W4
theorem zc {S w rb bv bs s} (h:Rd S w rb bv bs s):Calls Tryz.prog 106 #[.pointer (some ⟨rb,0,none⟩)] w fun e w'=>e= .returned (.tuple #[.int .i64 (jF bs s).err,.int .i64 (jF bs s).errAt])∧Rd S w' rb bv bs (jF bs s)∧Fr [rb] w w':=by
 have hS:=KT.start h
 have hle:=h.le
 unfold jF
 by_cases h1:s.at_<bs.length
 ·have q:(0:Int)< (bs.length:Int)-s.at_:=by omega
  rw[if_pos h1]
  exact XD
 ·have q:¬(0:Int)< (bs.length:Int)-s.at_:=by omega
  rw[if_neg h1]
  exact XD
theorem C6 {w:World} {lb:Nat} {V:LV} {L:bT} (hl:bB w lb (om V L) 108) (hfu:∃a c,V.fu= .slice a L.m.funcs.length c):Calls Tryz.prog 107 #[.pointer (some ⟨lb,0,none⟩)] w fun e w'=>e= .returned (.bool (eP L))∧w'=w:=by
 obtain⟨a,c,hfu⟩:=hfu
 have hc:=hl.cell
 have hg:=hl.frz
 simp only[om,hfu]at hc
 unfold eP
 obtain⟨m,count,codes,datas,needs⟩:=L
 simp only at hc⊢
 have e1:decide (0<m.funcs.length)=decide ((0:Int)< (m.funcs.length:Nat)):=by rw[Bool.eq_iff_iff];simp
 rw[e1]
 clear e1
 by_cases h1:(0:Int)< (m.funcs.length:Nat)
 all_goals by_cases h2:(0:Int)<count
 all_goals by_cases h3:count<0
 all_goals cases codes
 all_goals cases datas
 all_goals cases needs
 all_goals first|(exfalso;omega)|skip
 all_goals
  go_enter Tryz.func107,Tryz.ntmps107
  go_wp2
  go_ret
  exact⟨by simp[h1,h2,h3],rfl⟩
theorem zw {S S1:List Nat} {w:World} {bv:Value} {bs:List UInt8} (h:Sl S1 w 1 bv bs.length (bs.map B)) (hg:Gl S w) (hS:∀b,b∈S→b<w.heap.size) (hl:bs.length≤1099511627776):
 Calls Tryz.prog 104 #[bv] w fun e w'=>∃rb v,e= .returned (.pointer (some ⟨rb,0,none⟩))∧Rd (rb::S) w' rb v bs ah∧w.heap.size≤rb∧Fr [] w w':=by
 have hg2:=hg
 go_enter Tryz.func104,Tryz.ntmps104
 go_wp2_with (go_at_call 136;refine(kC h hl).mono ?_;rintro e w2 ⟨v2,rfl,hO2,hN2,hF2⟩;obtain⟨a2,c2,rfl,_⟩:=hO2.shape)
 go_ret
 have hsz:=hF2.size
 have hS2:∀b,b∈w2.heap.size::S→b<w2.heap.size+1:=fun b hb=>by
  rcases List.mem_cons.1 hb with rfl|hb
  ·omega
  ·have:=hS b hb;omega
 have hsl:Sl (w2.heap.size::S) w2 1 (.slice a2 bs.length c2) bs.length (bs.map B):=hO2.sl (by
  intro b hb hm
  have h1:=(hO2.blk_lt b hb).1
  have h2:=hN2 b hb
  rcases List.mem_cons.1 hm with rfl|hm
  ·omega
  ·have:=hS b hm;omega)
 refine⟨w2.heap.size,_,rfl,⟨by simp,by simpa using hS2,bB.new w2 (bW w2.heap.size (.slice a2 bs.length c2) ah) _,hsl.fr ((Fr.refl [] _).alloc _) (by simp),?_,by simp[ah],hl⟩,hF2.size,hF2.alloc _⟩
 have hg3:=hg.fr hF2 (by simp)
 refine Gl.fr (S:=w2.heap.size::S) (S':= []) ⟨hg3.lt,?_,hg3.cell⟩ ((Fr.refl [] _).alloc _) (by simp)
 have h1:=hg3.lt
 have h2:=hg.lt
 have h3:=hg.not
 intro hm
 rcases List.mem_cons.1 hm with e|hm
 ·omega
 ·exact h3 hm
end Go.Proofs.YtpdlmdlkecnpgaaGreatDoor
