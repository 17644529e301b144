/- Texts: MdIm. -/
import Derived.Test.YtpdlmdlkecnpgaaGreatDoorH0
import Derived.Test.YtpdlmdlkecnpgaaGreatDoorH14
set_option linter.unusedSimpArgs false
set_option linter.unusedVariables false
namespace Go.Proofs.YtpdlmdlkecnpgaaGreatDoor
open Go.RowKit
attribute [go_sem] iI
def rF (f:dh):List Value:= [.int .i64 f.type,.slice none 0 0,.slice none 0 0]
theorem sk:Tryz.prog.underlying 79=some ((Tryz.prog.underlying 79).get (by kernel_rfl)):=by kernel_rfl
theorem nj:(Tryz.prog.info? 79).map (·.size)=some 21:=by kernel_rfl
theorem AY:Tryz.prog.underlying 97=some ((Tryz.prog.underlying 97).get (by kernel_rfl)):=by kernel_rfl
theorem u0:(Tryz.prog.info? 97).map (·.size)=some 3:=by kernel_rfl
theorem rT (b m:Nat) (bs:List UInt8) (s:ax):(bm b m bs s).1≤m:=by
 unfold bm dA
 split
 ·simp
 ·rename_i h
  simp at h
  omega
set_option maxRecDepth 100000
set_option maxHeartbeats 3200000
theorem I8 {S w rb bv bs s} (h:Rd S w rb bv bs s):Calls Tryz.prog 161 #[.pointer (some ⟨rb,0,none⟩)] w fun e w'=>e= .returned (.agg (gw (mG bs s).1).toArray)∧Rd S w' rb bv bs (mG bs s).2∧Fr [rb] w w':=by
 have hS:=KT.start h
 have hk:=rT 7 4 bs (cC bs s).2
 have hw:=IntWalk.wrap64_in (((bm 7 4 bs (cC bs s).2).1:Nat):Int) (by omega)
 unfold mG
 go_enter Tryz.func161,Tryz.ntmps161
 go_wp2_with first|(go_at_call 171;(try clear hQ);refine ia (fun h=>AB h) fun w1 hS hQ hN=> ?_)|(go_at_call 205;refine hU fun hT=> ?_;(with_reducible refine(eG 7 4 7 4 rfl rfl (by decide) (by decide) hT.rd).mono ?_);rintro e w1 ⟨rfl,hR1,hF1⟩;have hS:=hT.call hR1 hF1;clear hT hR1 hF1;(try clear hQ);have hQ:=St.fq hS.r.st;(try clear hN);have hN:=St.aq hS.r.st)|(go_at_call 163;(try clear hQ);refine ia (fun h=>ko h) fun w1 hS hQ hN=> ?_)
 exact Ui3q
theorem Bg {S w rb bv bs s} (h:Rd S w rb bv bs s):Calls Tryz.prog 142 #[.pointer (some ⟨rb,0,none⟩)] w fun e w'=>e= .returned (.agg (eR (mV bs s).1).toArray)∧Rd S w' rb bv bs (mV bs s).2∧Fr [rb] w w':=by
 have hS:=KT.start h
 have hk:=rT 7 4 bs (cC bs (cC bs s).2).2
 have hw:=IntWalk.wrap64_in (((bm 7 4 bs (cC bs (cC bs s).2).2).1:Nat):Int) (by omega)
 unfold mV B3
 have hc:(bm 7 4 bs (cC bs (cC bs s).2).2).1=0∨(bm 7 4 bs (cC bs (cC bs s).2).2).1=1∨(bm 7 4 bs (cC bs (cC bs s).2).2).1=2∨(bm 7 4 bs (cC bs (cC bs s).2).2).1=3∨(bm 7 4 bs (cC bs (cC bs s).2).2).1=4:=by omega
 clear hk
 unfold Ax
 rcases hc with hk|hk|hk|hk|hk
 ·rw[if_pos hk]
  exact y6
 ·rw[if_neg (by omega),if_pos hk]
  exact y6
 ·rw[if_neg (by omega),if_neg (by omega),if_pos hk]
  exact y6
 ·rw[if_neg (by omega),if_neg (by omega),if_neg (by omega),if_pos hk]
  exact y6
 ·rw[if_neg (by omega),if_neg (by omega),if_neg (by omega),if_neg (by omega)]
  exact y6
end Go.Proofs.YtpdlmdlkecnpgaaGreatDoor
