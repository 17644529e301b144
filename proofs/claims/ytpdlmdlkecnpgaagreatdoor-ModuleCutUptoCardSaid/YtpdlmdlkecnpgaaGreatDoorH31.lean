/- Texts: MdMz MdMw MdEt MdMi MdMj. -/
import Derived.Test.YtpdlmdlkecnpgaaGreatDoorH0
import Derived.Test.YtpdlmdlkecnpgaaGreatDoorH27
import Derived.Test.YtpdlmdlkecnpgaaGreatDoorH29
import Derived.Test.YtpdlmdlkecnpgaaGreatDoorH18
import Derived.Test.YtpdlmdlkecnpgaaGreatDoorH9
import Derived.Test.YtpdlmdlkecnpgaaGreatDoorH30
set_option linter.unusedSimpArgs false
set_option linter.unusedVariables false
namespace Go.Proofs.YtpdlmdlkecnpgaaGreatDoor
open Go.RowKit
theorem Yd3q {p:Prop} (h:p:=by
 (repeat(apply Exists.intro))
 refine⟨?_,?_,?_,?_,?_,?_,?_,?_,?_⟩
 ·(exact aA)
 ·(exact aK)
 ·rfl
 ·rfl
 ·rfl
 ·rfl
 ·exact z3q
 ·simp[Value.oneCell']
 intro wN hS
 (refine hK.out _ _ (by exact bB.range (hS.loc (by exact aK))) (fun hr=> ?_);clear hK K)
 (refine wpAnyH_take (i:=7) (v:= .bool true) rfl (by kernel_rfl) (by kernel_rfl) (by kernel_rfl) (fun _ _ _ h=>h) (Or.inl ⟨by rfl,fun _ _=>by go_simp⟩) hr ?_;simp only[Act.put,List.setIfInBounds_toArray,List.set_cons_zero,List.set_cons_succ])
 exact U6
):p:=h
theorem V03q {p:Prop} (h:p:=by
 (repeat(apply Exists.intro))
 refine⟨?_,?_,?_,?_,?_,?_,?_,?_,?_⟩
 ·(exact aA)
 ·(exact aK)
 ·rfl
 ·rfl
 ·rfl
 ·rfl
 ·exact z3q
 ·simp[Value.oneCell']
 intro wN hS
 (refine hK.out _ _ (by exact bB.range (hS.loc (by exact aK))) (fun hr=> ?_);clear hK K)
 (refine wpAnyH_take (i:=7) (v:= .bool false) rfl (by kernel_rfl) (by kernel_rfl) (by kernel_rfl) (fun _ _ _ h=>h) (Or.inl ⟨by rfl,fun _ _=>by go_simp⟩) hr ?_;simp only[Act.put,List.setIfInBounds_toArray,List.set_cons_zero,List.set_cons_succ])
 exact VI
):p:=h
def lB (l:List aa):Prop:=(∀i,i∈l→WR i)∧l.length≤549755813000
theorem il {w w':World} (h:cq [] w) (hf:Fr [] w w'):cq [] w':=h.fr hf (by simp)
set_option maxRecDepth 100000
set_option maxHeartbeats 1600000
theorem sE {w:World} (hg:cq [] w) {v:Value} {l:List aa} (h:eo v l w) (hw:lB l):Calls Tryz.prog 125 #[v] w fun e w'=>e= .returned (.bool (cG l))∧Fr [] w w':=by
 have hS:=St.start [] w
 have ha:=Mf no (p:=dx) h (fun x hx c w' hf hR=>by
  obtain⟨tv,lv,cv,rfl,hR⟩:=hR
  exact NB w' (il hg hf) x tv lv cv hR (hw.1 x hx))
 have hn:∀w',Fr [] w w'→Calls Tryz.prog 186 #[v] w' fun e w2=>e= .returned (.bool (jI l))∧Fr [] w' w2:=fun w' hf=>by
  obtain⟨cs,h1,h2⟩:=eo.fr h hf
  exact qB w' v l cs h1 h2.ins hw.2
 unfold cG
 cases hb:l.all dx
 ·rw[hb]at ha
  have HA:=Lib.hid ha
  clear ha hb
  go_enter Tryz.func125,Tryz.ntmps125
  go_wp2_with (go_at_call 184;refine HA.out.mono ?_;rintro e w2 ⟨rfl,hF2⟩;(try clear hQ);refine cB hF2 fun hS hQ=> ?_)
  exact qF
 ·rw[hb]at ha
  have HA:=Lib.hid ha
  have HN:=Lib.hid hn
  clear ha hb hn
  go_enter Tryz.func125,Tryz.ntmps125
  go_wp2_with first|(go_at_call 184;refine HA.out.mono ?_;rintro e w2 ⟨rfl,hF2⟩;(try clear hQ);refine cB hF2 fun hS hQ=> ?_)|(go_at_call 186;refine(HN.out _ (by exact aM)).mono ?_;rintro e w2 ⟨rfl,hF2⟩;(try clear hQ);refine cB hF2 fun hS hQ=> ?_)
  exact qF
theorem Td {w:World} (hg:cq [] w) (g:mD) (c:List Value) (h:qR g c w) (hw:lB g.init):Calls Tryz.prog 71 #[.agg c.toArray] w fun e w'=>e= .returned (.bool (hJ g))∧Fr [] w w':=by
 have hS:=St.start [] w
 obtain⟨v,rfl,hr⟩:=h
 obtain⟨a,cc,rfl⟩:=an.shape hr
 have HR:=Lib.hid fun w' (hf:Fr [] w w')=>sE (il hg hf) (eo.fr hr hf) hw
 unfold hJ
 cases hp:aj g.type.val
 ·have H:=Lib.hid hp
  clear hp
  unfold dK cj
  go_enter Tryz.func71,Tryz.ntmps71
  go_wp2_with (go_at_call 117;refine(cK _ g.type.val).mono ?_;rintro e w2 ⟨rfl,hF2⟩;rw[H.out];(try clear hQ);refine cB hF2 fun hS hQ=> ?_)
  exact qF
 ·have H:=Lib.hid hp
  clear hp
  unfold dK cj
  go_enter Tryz.func71,Tryz.ntmps71
  go_wp2_with first|(go_at_call 117;refine(cK _ g.type.val).mono ?_;rintro e w2 ⟨rfl,hF2⟩;rw[H.out];(try clear hQ);refine cB hF2 fun hS hQ=> ?_)|(go_at_call 125;refine(HR.out _ (by exact aM)).mono ?_;rintro e w2 ⟨rfl,hF2⟩;(try clear hQ);refine cB hF2 fun hS hQ=> ?_)
  exact qF
theorem R8 {w:World} (hg:cq [] w) (t:lO) (c:List Value) (h:qG t c w) (hw:lB t.init):Calls Tryz.prog 65 #[.agg c.toArray] w fun e w'=>e= .returned (.bool (gC t))∧Fr [] w w':=by
 have hS:=St.start [] w
 obtain⟨v,rfl,hr⟩:=h
 obtain⟨a,cc,rfl⟩:=an.shape hr
 have HR:=Lib.hid fun w' (hf:Fr [] w w')=>sE (il hg hf) (eo.fr hr hf) hw
 unfold gC
 have q:(((t.init.length:Nat):Int)==0)=decide (t.init.length=0):=by rw[Bool.eq_iff_iff];simp
 cases hp:eL t.type
 ·have H:=Lib.hid hp
  clear hp
  unfold dv cj du
  go_enter Tryz.func65,Tryz.ntmps65
  go_wp2_with (go_at_call 126;refine(pm _ t.type).mono ?_;rintro e w2 ⟨rfl,hF2⟩;rw[H.out];(try clear hQ);refine cB hF2 fun hS hQ=> ?_)
  exact qF
 ·have H:=Lib.hid hp
  clear hp
  cases hq:cG t.init
  ·have H2:=Lib.hid hq
   clear hq
   unfold dv cj du
   go_enter Tryz.func65,Tryz.ntmps65
   go_wp2_with first|(go_at_call 126;refine(pm _ t.type).mono ?_;rintro e w2 ⟨rfl,hF2⟩;rw[H.out];(try clear hQ);refine cB hF2 fun hS hQ=> ?_)|(go_at_call 125;refine(HR.out _ (by exact aM)).mono ?_;rintro e w2 ⟨rfl,hF2⟩;rw[H2.out];(try clear hQ);refine cB hF2 fun hS hQ=> ?_)
   exact qF
  ·have H2:=Lib.hid hq
   clear hq
   unfold dv cj du
   cases hh:t.hasInit
   all_goals
    go_enter Tryz.func65,Tryz.ntmps65
    go_wp2_with first|(go_at_call 126;refine(pm _ t.type).mono ?_;rintro e w2 ⟨rfl,hF2⟩;rw[H.out];(try clear hQ);refine cB hF2 fun hS hQ=> ?_)|(go_at_call 125;refine(HR.out _ (by exact aM)).mono ?_;rintro e w2 ⟨rfl,hF2⟩;rw[H2.out];(try clear hQ);refine cB hF2 fun hS hQ=> ?_)
    go_ret
    exact⟨by simp,by exact aM⟩
theorem SH {w:World} (hg:cq [] w) (d:jG) (c:List Value) (h:rK d c w) (hw:lB d.offset):Calls Tryz.prog 77 #[.agg c.toArray] w fun e w'=>e= .returned (.bool (ix d))∧Fr [] w w':=by
 have hS:=St.start [] w
 obtain⟨v,u,rfl,hr,hu⟩:=h
 obtain⟨a,cc,rfl⟩:=an.shape hr
 obtain⟨a2,cc2,rfl⟩:=hu.shape
 have HR:=Lib.hid fun w' (hf:Fr [] w w')=>sE (il hg hf) (eo.fr hr hf) hw
 unfold ix
 have q:(((d.offset.length:Nat):Int)==0)=decide (d.offset.length=0):=by rw[Bool.eq_iff_iff];simp
 by_cases h1:d.mode=1
 ·have q1:(d.mode==1)=true:=by simp[h1]
  rw[if_pos h1]
  clear h1
  cases hi:ev d.mem
  ·have H:=Lib.hid hi
   clear hi
   go_enter Tryz.func77,Tryz.ntmps77
   go_wp2_with (go_at_call 69;refine(eJ _ d.mem).mono ?_;rintro e w2 ⟨rfl,hw2⟩;rw[hw2,H.out])
   exact qF
  ·have H:=Lib.hid hi
   clear hi
   go_enter Tryz.func77,Tryz.ntmps77
   go_wp2_with first|(go_at_call 69;refine(eJ _ d.mem).mono ?_;rintro e w2 ⟨rfl,hw2⟩;rw[hw2,H.out])|(go_at_call 125;refine(HR.out _ (by exact aM)).mono ?_;rintro e w2 ⟨rfl,hF2⟩;(try clear hQ);refine cB hF2 fun hS hQ=> ?_)
   exact qF
 ·have q1:(d.mode==1)=false:=by simp[h1]
  rw[if_neg h1]
  clear h1
  by_cases h0:d.mode=0
  ·have q0:(d.mode==0)=true:=by simp[h0]
   rw[if_pos h0]
   clear h0
   by_cases hm:d.mem=0
   ·have qm:(d.mem==0)=true:=by simp[hm]
    rw[decide_eq_true hm]
    clear hm
    go_enter Tryz.func77,Tryz.ntmps77
    go_wp2
    go_ret
    exact⟨by simp,by exact aM⟩
   ·have qm:(d.mem==0)=false:=by simp[hm]
    rw[decide_eq_false hm]
    clear hm
    go_enter Tryz.func77,Tryz.ntmps77
    go_wp2
    exact qF
  ·have q0:(d.mode==0)=false:=by simp[h0]
   rw[if_neg h0]
   clear h0
   go_enter Tryz.func77,Tryz.ntmps77
   go_wp2
   exact qF
set_option maxHeartbeats 3200000
theorem PU {w:World} (hg:cq [] w) (x:eb) (c:List Value) (h:gD x c w) (hw:lB x.offset) (hw2:∀l,l∈x.inits→lB l):Calls Tryz.prog 75 #[.agg c.toArray] w fun e w'=>e= .returned (.bool (fP x))∧Fr [] w w':=by
 have hS:=St.start [] w
 obtain⟨iv,ov,rfl,hi,hr⟩:=h
 obtain⟨a,cc,rfl⟩:=an.shape hr
 obtain⟨a2,cc2,rfl⟩:=an.shape hi
 have HR:=Lib.hid fun w' (hf:Fr [] w w')=>sE (il hg hf) (eo.fr hr hf) hw
 have HI:=Lib.hid fun w' (hf:Fr [] w w')=>OB i7 (p:=cG) (an.fr i7.fr hi hf) (fun l hl v w2 hf2 hR=>by
  obtain⟨v',e,hR⟩:=hR
  obtain rfl:v=v':=by injection e
  exact sE (il hg (hf.trans hf2)) hR (hw2 l hl))
 unfold fP
 have q:(((x.offset.length:Nat):Int)==0)=decide (x.offset.length=0):=by rw[Bool.eq_iff_iff];simp
 cases hp:fy x.type
 ·have H:=Lib.hid hp
  clear hp
  rw[Bool.false_and,if_neg (by simp)]
  unfold cj
  go_enter Tryz.func75,Tryz.ntmps75
  go_wp2_with (go_at_call 127;refine(gN _ x.type).mono ?_;rintro e w2 ⟨rfl,hF2⟩;rw[H.out];(try clear hQ);refine cB hF2 fun hS hQ=> ?_)
  exact qF
 ·have H:=Lib.hid hp
  clear hp
  cases hq:x.inits.all cG
  ·have H2:=Lib.hid hq
   clear hq
   rw[Bool.and_false,if_neg (by simp)]
   unfold cj
   exact Wy
  ·have H2:=Lib.hid hq
   clear hq
   rw[Bool.and_true,if_pos rfl]
   unfold cj
   by_cases h1:x.mode=1
   ·have q1:(x.mode==1)=true:=by simp[h1]
    rw[if_pos h1]
    clear h1
    cases hi3:ev x.table
    ·have H3:=Lib.hid hi3
     clear hi3
     go_enter Tryz.func75,Tryz.ntmps75
     go_wp2_with first|(go_at_call 127;refine(gN _ x.type).mono ?_;rintro e w2 ⟨rfl,hF2⟩;rw[H.out];(try clear hQ);refine cB hF2 fun hS hQ=> ?_)|(go_at_call 93;refine(HI.out _ (by exact aM)).mono ?_;rintro e w2 ⟨rfl,hF2⟩;rw[H2.out];(try clear hQ);refine cB hF2 fun hS hQ=> ?_)|(go_at_call 69;refine(eJ _ x.table).mono ?_;rintro e w2 ⟨rfl,hw2⟩;rw[hw2,H3.out])
     exact qF
    ·have H3:=Lib.hid hi3
     clear hi3
     go_enter Tryz.func75,Tryz.ntmps75
     go_wp2_with first|(go_at_call 127;refine(gN _ x.type).mono ?_;rintro e w2 ⟨rfl,hF2⟩;rw[H.out];(try clear hQ);refine cB hF2 fun hS hQ=> ?_)|(go_at_call 93;refine(HI.out _ (by exact aM)).mono ?_;rintro e w2 ⟨rfl,hF2⟩;rw[H2.out];(try clear hQ);refine cB hF2 fun hS hQ=> ?_)|(go_at_call 69;refine(eJ _ x.table).mono ?_;rintro e w2 ⟨rfl,hw2⟩;rw[hw2,H3.out])|(go_at_call 125;refine(HR.out _ (by exact aM)).mono ?_;rintro e w2 ⟨rfl,hF2⟩;(try clear hQ);refine cB hF2 fun hS hQ=> ?_)
     exact qF
   ·have q1:(x.mode==1)=false:=by simp[h1]
    rw[if_neg h1]
    clear h1
    by_cases h0:x.mode=0∨x.mode=2
    ·have q0:(x.mode==0)=true∨(x.mode==0)=false∧(x.mode==2)=true:=by simp;omega
     rw[if_pos h0]
     clear h0
     by_cases hm:x.table=0
     ·have qm:(x.table==0)=true:=by simp[hm]
      rw[decide_eq_true hm]
      clear hm
      rcases q0 with q0|⟨q0,q2⟩
      all_goals
       go_enter Tryz.func75,Tryz.ntmps75
       go_wp2_with first|(go_at_call 127;refine(gN _ x.type).mono ?_;rintro e w2 ⟨rfl,hF2⟩;rw[H.out];(try clear hQ);refine cB hF2 fun hS hQ=> ?_)|(go_at_call 93;refine(HI.out _ (by exact aM)).mono ?_;rintro e w2 ⟨rfl,hF2⟩;rw[H2.out];(try clear hQ);refine cB hF2 fun hS hQ=> ?_)
       go_ret
       exact⟨by simp,by exact aM⟩
     ·have qm:(x.table==0)=false:=by simp[hm]
      rw[decide_eq_false hm]
      clear hm
      rcases q0 with q0|⟨q0,q2⟩
      all_goals
       go_enter Tryz.func75,Tryz.ntmps75
       go_wp2_with first|(go_at_call 127;refine(gN _ x.type).mono ?_;rintro e w2 ⟨rfl,hF2⟩;rw[H.out];(try clear hQ);refine cB hF2 fun hS hQ=> ?_)|(go_at_call 93;refine(HI.out _ (by exact aM)).mono ?_;rintro e w2 ⟨rfl,hF2⟩;rw[H2.out];(try clear hQ);refine cB hF2 fun hS hQ=> ?_)
       go_ret
       exact⟨rfl,by exact aM⟩
    ·have q0:(x.mode==0)=false:=by simp;omega
     have q2:(x.mode==2)=false:=by simp;omega
     rw[if_neg h0]
     clear h0
     exact Wy
theorem S9 {w:World} {v:Value} {l:List fN} (h:an 5 (aE fk) v l w):Sl [] w 5 v l.length (l.flatMap fk):=by
 obtain⟨cs,h1,h2⟩:=h
 rw[←bU.plain h2]
 exact h1
theorem T8 {w:World} (hg:cq [] w) (x:dh) (c:List Value) (h:ku x c w) (hw:lB x.body) (hl:x.locals.length≤1099511627776):Calls Tryz.prog 63 #[.agg c.toArray] w fun e w'=>e= .returned (.bool (kY x))∧Fr [] w w':=by
 have hS:=St.start [] w
 obtain⟨iv,ov,rfl,hi,hr⟩:=h
 obtain⟨a,cc,rfl⟩:=an.shape hr
 obtain⟨a2,cc2,rfl⟩:=an.shape hi
 have HR:=Lib.hid fun w' (hf:Fr [] w w')=>sE (il hg hf) (eo.fr hr hf) hw
 have HA:=Lib.hid fun w' (hf:Fr [] w w')=>OD ik (p:=fun r:fN=>ev r.n&&aj r.val) (an.fr ik.fr hi hf) (fun r hr c w2 hf2 hR=>by
  obtain rfl:c=fk r:=hR
  exact Su w2 r)
 unfold kY
 cases hp:x.locals.all (fun r=>ev r.n&&aj r.val)
 ·have H:=Lib.hid hp
  clear hp
  cases hi2:ev x.type
  all_goals
   have H2:=Lib.hid hi2
   clear hi2
   go_enter Tryz.func63,Tryz.ntmps63
   go_wp2_with first|(go_at_call 122;refine(HA.out _ (by exact aM)).mono ?_;rintro e w2 ⟨rfl,hF2⟩;rw[H.out];(try clear hQ);refine cB hF2 fun hS hQ=> ?_)|(go_at_call 69;refine(eJ _ x.type).mono ?_;rintro e w2 ⟨rfl,hw2⟩;rw[hw2,H2.out])
   go_ret
   exact⟨rfl,by exact aM⟩
 ·have hin:∀r∈x.locals,0≤r.n∧r.n<9223372036854775808:=fun r hr=>by
   have:=List.all_eq_true.1 hp r hr
   simp only[Bool.and_eq_true]at this
   have h2:=this.1
   unfold ev at h2
   simp only[Bool.and_eq_true,decide_eq_true_eq]at h2
   omega
  have HM:=Lib.hid fun w' (hf:Fr [] w w')=>C3 (S9 (an.fr ik.fr hi hf)) hin hl
  have H:=Lib.hid hp
  clear hp hin
  cases hi2:ev x.type
  ·have H2:=Lib.hid hi2
   clear hi2
   go_enter Tryz.func63,Tryz.ntmps63
   go_wp2_with first|(go_at_call 122;refine(HA.out _ (by exact aM)).mono ?_;rintro e w2 ⟨rfl,hF2⟩;rw[H.out];(try clear hQ);refine cB hF2 fun hS hQ=> ?_)|(go_at_call 69;refine(eJ _ x.type).mono ?_;rintro e w2 ⟨rfl,hw2⟩;rw[hw2,H2.out])
   exact qF
  ·have H2:=Lib.hid hi2
   clear hi2
   by_cases hm:gY x.locals≤4294967295
   ·have q:((gY x.locals:Nat):Int)≤4294967295:=by omega
    rw[decide_eq_true hm]
    clear hm
    go_enter Tryz.func63,Tryz.ntmps63
    go_wp2_with first|(go_at_call 122;refine(HA.out _ (by exact aM)).mono ?_;rintro e w2 ⟨rfl,hF2⟩;rw[H.out];(try clear hQ);refine cB hF2 fun hS hQ=> ?_)|(go_at_call 69;refine(eJ _ x.type).mono ?_;rintro e w2 ⟨rfl,hw2⟩;rw[hw2,H2.out])|(go_at_call 124;refine(HM.out _ (by exact aM)).mono ?_;rintro e w2 ⟨rfl,hF2⟩;(try clear hQ);refine cB hF2 fun hS hQ=> ?_)|(go_at_call 125;refine(HR.out _ (by exact aM)).mono ?_;rintro e w2 ⟨rfl,hF2⟩;(try clear hQ);refine cB hF2 fun hS hQ=> ?_)
    exact qF
   ·have q:¬((gY x.locals:Nat):Int)≤4294967295:=by omega
    rw[decide_eq_false hm]
    clear hm
    go_enter Tryz.func63,Tryz.ntmps63
    go_wp2_with first|(go_at_call 122;refine(HA.out _ (by exact aM)).mono ?_;rintro e w2 ⟨rfl,hF2⟩;rw[H.out];(try clear hQ);refine cB hF2 fun hS hQ=> ?_)|(go_at_call 69;refine(eJ _ x.type).mono ?_;rintro e w2 ⟨rfl,hw2⟩;rw[hw2,H2.out])|(go_at_call 124;refine(HM.out _ (by exact aM)).mono ?_;rintro e w2 ⟨rfl,hF2⟩;(try clear hQ);refine cB hF2 fun hS hQ=> ?_)
    exact qF
def RS (t:bu):Prop:=t.supers.length≤1099511627776∧t.comp.params.length≤1099511627776∧t.comp.results.length≤1099511627776∧t.comp.fields.length≤1099511627776
theorem S5 {w:World} (g:List bu) (v:Value) (h:ET v g w) (hw:∀t,t∈g→RS t):Calls Tryz.prog 57 #[v] w fun e w'=>e= .returned (.bool (g.all bP))∧Fr [] w w':=by
 have ha:=Ly zQ (p:=bP) (mF h) (fun t ht c w' hf hR=>by
  obtain⟨hv,pv,rv,fv,rfl,hR⟩:=hR
  exact rP [] w' t hv pv rv fv hR (hw t ht))
 have HA:=Lib.hid ha
 clear ha
 obtain⟨a,c,rfl⟩:=(mF h).shape
 go_enter Tryz.func57,Tryz.ntmps57
 go_wp2_with (go_at_call 58;refine HA.out.mono ?_;rintro e w2 ⟨rfl,hF2⟩)
 go_ret
 exact⟨rfl,hF2⟩
theorem zI:Tryz.prog.underlying 77=some ((Tryz.prog.underlying 77).get (by kernel_rfl)):=by kernel_rfl
theorem sd:(Tryz.prog.info? 77).map (·.size)=some 19:=by kernel_rfl
theorem bB.setMid {b:Nat} {T:TypeId}:∀(vs done old tail:List Value) (w:World),bB w b (done++(old++tail)) T→vs.length=old.length→bB (w.setCells b done.length vs) b (done++(vs++tail)) T
 | [],done,old,tail,w,h,hl=>by
  have:old= []:=List.eq_nil_of_length_eq_zero (by simpa using hl.symm)
  subst this
  exact h
 |v::r,done,[],tail,w,h,hl=>by simp at hl
 |v::r,done,u::old,tail,w,h,hl=>by
  have h1:=bB.set h done.length v
  have e:(done++(u::old++tail)).set done.length v=(done++ [v])++(old++tail):=by
   rw[List.set_append]
   simp
  rw[e]at h1
  have h2:=bB.setMid r (done++ [v]) old tail _ h1 (by simpa using hl)
  have e2:(done++ [v]).length=done.length+1:=by simp
  have e3:(done++ [v])++(r++tail)=done++(v::r++tail):=by simp
  rw[e2,e3]at h2
  rw[World.setCells]
  exact h2
theorem bB.thereMid {w:World} {b:Nat} {done old tail:List Value} {T:TypeId} (h:bB w b (done++(old++tail)) T):w.there b done.length old.length:=fun j hj=>by
 rw[h.cell]
 refine⟨?_,h.frz _⟩
 rw[List.getElem?_eq_getElem (by simp;omega)]
 rfl
theorem cH {w:World} {b:Nat} (n:Nat) {cs mid:List Value} (h:w.rangeAt b 0 cs) (e:(cs.drop n).take mid.length=mid):w.rangeAt b n mid:=fun j v hv=>by
 have h1:=h (n+j) v (by
  rw[←e,List.getElem?_take]at hv
  split at hv
  ·simpa using hv
  ·cases hv)
 simpa using h1
section
variable {P : Program} {w : World} {o : Oper} {a : Act} {Q : Exit → Act → World → Prop} {K : Act → World → Prop}
theorem kM {ty:TypeId} {x y:Operand} {b n:Nat} {vs:List Value} (cs' done old tail:List Value) (ho:o.op= .store ty x y) (hx:a.eval x= .pointer (some ⟨b,n,none⟩)) (hy:a.eval y= .agg vs.toArray)
 (h:∃S w0 G G' cs T,St S w0 w G∧bg G (.loc b cs T) G'∧cs=done++(old++tail)∧cs'=done++(vs++tail)∧done.length=n∧vs.length=old.length∧(P.info? ty).map (·.size)=some vs.length∧(∀v∈vs,v.oneCell'=true)∧∀w',St S w0 w' (.loc b cs' T::G')→K (a.put o.dst undef) w'):o.wp P a w K Q:=by
 obtain⟨S,w0,G,G',cs,T,hst,hp,e1,e2,hn,hl,hi,h1,h⟩:=h
 subst e1 e2 hn
 refine wp_store_mid ty x y ho b done.length vs.toArray hx hy ?_ (by simpa using hi) (all_oneCell_toArray h1) ?_
 ·have:=(hst.loc hp).thereMid
  simpa [hl]using this
 ·simpa using h _ ((hst.pick hp).turn (S':= []) (r':= .loc b (done++(vs++tail)) T) (by simpa [bt.blk]using Fr.setCells vs done.length w) (by simp) (bB.setMid vs done old tail w (hst.pick hp).head hl) (fun c hc=> .inl hc))
end
theorem PF {w:World} (x:i9) (h0:x.kind=0∨x.kind=4):Calls Tryz.prog 121 #[.agg (lz x).toArray] w fun e w'=>e= .returned (.bool (ez x))∧Fr [] w w':=by
 have hS:=St.start [] w
 obtain⟨k,n,⟨⟨ek,en,⟨ehk,ehn⟩⟩,⟨lw,lmn,lmx,lh⟩⟩,⟨mw,mmn,mmx,mh⟩,⟨⟨gk,gn,⟨ghk,ghn⟩⟩,gm⟩⟩:=x
 simp only at h0
 unfold ez
 simp only
 rw[if_pos h0]
 unfold lz dv dK cj du
 have q0:(k==0)=true∨(k==0)=false∧(k==4)=true:=by simp;omega
 cases hi:ev n
 ·have H:=Lib.hid hi
  clear hi h0
  rcases q0 with q0|⟨q0,q4⟩
  all_goals
   go_enter Tryz.func121,Tryz.ntmps121
   go_wp2_with first|(refine cd (ty:=77) rfl rfl rfl rfl ?_;refine AO ?_;intro wN hS;(try clear hQ);have hQ:=St.fq hS)|fail
   go_region_held3 (fun w'=>w'.cell? ⟨w.heap.size,1,none⟩=some (.int .i64 n)) (first|(go_keep;done)|(simp[hQ];done)) (first|(go_at_call 69;refine(eJ _ n).mono ?_;rintro e w2 ⟨rfl,hw2⟩;rw[hw2,H.out]))
   go_wp2
   go_ret
   exact⟨rfl,((hS.set (G':= [_]) .here 1 (.int .i64 n)).drew).fr⟩
 ·have H:=Lib.hid hi
  clear hi h0
  rcases q0 with q0|⟨q0,q4⟩
  all_goals
   go_enter Tryz.func121,Tryz.ntmps121
   go_wp2_with first|(refine cd (ty:=77) rfl rfl rfl rfl ?_;refine AO ?_;intro wN hS;(try clear hQ);have hQ:=St.fq hS)|fail
   go_region_held3 (fun w'=>w'.cell? ⟨w.heap.size,1,none⟩=some (.int .i64 n)) (first|(go_keep;done)|(simp[hQ];done)) (first|(go_at_call 69;refine(eJ _ n).mono ?_;rintro e w2 ⟨rfl,hw2⟩;rw[hw2,H.out]))
   have hS2:=(hS.set (G':= [_]) .here 1 (.int .i64 n)).drew
   clear hS
   have hS:=hS2
   simp only[List.set_cons_succ,List.set_cons_zero]at hS
   go_wp2_with first|(refine mW (ty:=77) (c:=true) rfl rfl rfl rfl zI rfl (fun _=> ?_) (fun h=>by cases h);refine VE ?_)|(refine GO OQ rfl rfl rfl rfl rfl (FK _ _ _ _ _ _ _ _ _ _ _ _ _ _ _ _ _ _ _ _ _ _ _ _ _ _ _ _ _ _ _ _ _ _ _ _ _ _ _) ?_)|fail
   go_ret
   refine⟨?_,hS.fr⟩
   simp[dJ.zero,eA.zero,dW.zero,aF.zero,Bool.and_assoc,-Bool.decide_and,Bool.decide_and]
theorem QQ {w:World} (x:i9) (h0:x.kind=1):Calls Tryz.prog 121 #[.agg (lz x).toArray] w fun e w'=>e= .returned (.bool (ez x))∧Fr [] w w':=by
 have hS:=St.start [] w
 obtain⟨k,n,⟨⟨ek,en,⟨ehk,ehn⟩⟩,⟨lw,lmn,lmx,lh⟩⟩,⟨mw,mmn,mmx,mh⟩,⟨⟨gk,gn,⟨ghk,ghn⟩⟩,gm⟩⟩:=x
 simp only at h0
 unfold ez
 simp only
 rw[if_neg (by omega),if_pos h0]
 unfold lz dv dK cj du
 have q0:(k==0)=false:=by simp;omega
 have q4:(k==4)=false:=by simp;omega
 have q1:(k==1)=true:=by simp;omega
 cases hi:eL ⟨⟨ek,en,⟨ehk,ehn⟩⟩,⟨lw,lmn,lmx,lh⟩⟩
 ·have H:=Lib.hid hi
  clear hi h0
  go_enter Tryz.func121,Tryz.ntmps121
  go_wp2_with first|(refine cd (ty:=77) rfl rfl rfl rfl ?_;refine AO ?_;intro wN hS;(try clear hQ);have hQ:=St.fq hS)|fail
  have hbox:bB _ w.heap.size [.int .i64 k,.int .i64 n,.int .i64 ek,.bool en,.int .i64 ehk,.int .i64 ehn,.bool lw,.int .u64 (lmn:Int),.int .u64 (lmx:Int),.bool lh,.bool mw,.int .u64 (mmn:Int),.int .u64 (mmx:Int),.bool mh,.int .i64 gk,.bool gn,.int .i64 ghk,.int .i64 ghn,.bool gm] 77:=hS.loc (by exact aK)
  refine wp_region_held_drew (S:=fun w'=>w'.rangeAt w.heap.size 0 [.int .i64 k,.int .i64 n,.int .i64 ek,.bool en,.int .i64 ehk,.int .i64 ehn,.bool lw,.int .u64 (lmn:Int),.int .u64 (lmx:Int),.bool lh,.bool mw,.int .u64 (mmn:Int),.int .u64 (mmx:Int),.bool mh,.int .i64 gk,.bool gn,.int .i64 ghk,.int .i64 ghn,.bool gm]) (by kernel_rfl) (bB.range (bB.drew hbox)) (fun hr=> ?_)
  have hS2:=hS.drew
  clear hS hbox
  have hS:=hS2
  clear hS2
  (refine wpAnyH_take (i:=0) (v:= .pointer (some ⟨w.heap.size,2,none⟩)) rfl (by kernel_rfl) (by kernel_rfl) (by kernel_rfl) (fun _ _ _ h=>h) (Or.inl ⟨by rfl,fun _ _=>by go_simp⟩) hr ?_;simp only[Act.put,List.setIfInBounds_toArray,List.set_cons_zero,List.set_cons_succ])
  refine wpAnyH_take (i:=1) (v:= .agg (List.toArray [.int .i64 ek,.bool en,.int .i64 ehk,.int .i64 ehn,.bool lw,.int .u64 (lmn:Int),.int .u64 (lmx:Int),.bool lh])) rfl (by kernel_rfl) (by kernel_rfl) (by kernel_rfl) (fun _ _ _ h=>h) (yieldsIf_load_mid rfl 73 _ rfl w.heap.size 2 rfl [.int .i64 ek,.bool en,.int .i64 ehk,.int .i64 ehn,.bool lw,.int .u64 (lmn:Int),.int .u64 (lmx:Int),.bool lh] _ (fun _ h=>cH 2 h rfl) kH rfl jO) hr ?_
  simp only[Act.put,List.setIfInBounds_toArray,List.set_cons_zero,List.set_cons_succ]
  (refine wpAnyH_take (i:=2) (v:= .pointer (some ⟨w.heap.size,2,none⟩)) rfl (by kernel_rfl) (by kernel_rfl) (by kernel_rfl) (fun _ _ _ h=>h) (Or.inl ⟨by rfl,fun _ _=>by go_simp⟩) hr ?_;simp only[Act.put,List.setIfInBounds_toArray,List.set_cons_zero,List.set_cons_succ])
  refine wpAnyH_take (i:=3) (v:= .agg (List.toArray [.int .i64 ek,.bool en,.int .i64 ehk,.int .i64 ehn,.bool lw,.int .u64 (lmn:Int),.int .u64 (lmx:Int),.bool lh])) rfl (by kernel_rfl) (by kernel_rfl) (by kernel_rfl) (fun _ _ _ h=>h) (yieldsIf_load_mid rfl 73 _ rfl w.heap.size 2 rfl [.int .i64 ek,.bool en,.int .i64 ehk,.int .i64 ehn,.bool lw,.int .u64 (lmn:Int),.int .u64 (lmx:Int),.bool lh] _ (fun _ h=>cH 2 h rfl) kH rfl jO) hr ?_
  simp only[Act.put,List.setIfInBounds_toArray,List.set_cons_zero,List.set_cons_succ]
  (refine wpAnyH_take (i:=5) (v:= .pointer (some ⟨w.heap.size+1,2,none⟩)) rfl (by kernel_rfl) (by kernel_rfl) (by kernel_rfl) (fun _ _ _ h=>h) (Or.inl ⟨by rfl,fun _ _=>by go_simp⟩) hr ?_;simp only[Act.put,List.setIfInBounds_toArray,List.set_cons_zero,List.set_cons_succ])
  (refine wpAnyH_ready (rs:= [4]) (by kernel_rfl) (by simp) ?_;refine AllReadyH.cons rfl (fun K hK=> ?_) AllReadyH.nil)
  rw[if_pos (by rfl)]
  go_simp
  refine(pm _ ⟨⟨ek,en,⟨ehk,ehn⟩⟩,⟨lw,lmn,lmx,lh⟩⟩).mono ?_
  rintro e w2 ⟨rfl,hF2⟩
  rw[H.out]
  have hS2:=hS.step0 hF2
  clear hS
  have hS:=hS2
  clear hS2
  (refine hK.out _ _ (by exact bB.range (hS.loc (by exact aK))) (fun hr=> ?_);clear hK K)
  (refine wpAnyH_ready (rs:= [6]) (by kernel_rfl) (by simp) ?_;refine AllReadyH.cons rfl (fun K hK=> ?_) AllReadyH.nil)
  rw[if_pos (by rfl)]
  refine kM (ty:=73) [.int .i64 k,.int .i64 0,.int .i64 ek,.bool en,.int .i64 ehk,.int .i64 ehn,.bool lw,.int .u64 (lmn:Int),.int .u64 (lmx:Int),.bool lh,.bool false,.int .u64 0,.int .u64 0,.bool false,.int .i64 0,.bool false,.int .i64 0,.int .i64 0,.bool false] [.int .i64 k,.int .i64 0] [.int .i64 0,.bool false,.int .i64 0,.int .i64 0,.bool false,.int .u64 0,.int .u64 0,.bool false] [.bool false,.int .u64 0,.int .u64 0,.bool false,.int .i64 0,.bool false,.int .i64 0,.int .i64 0,.bool false] rfl rfl rfl ?_
  exact V03q
 ·have H:=Lib.hid hi
  clear hi h0
  go_enter Tryz.func121,Tryz.ntmps121
  go_wp2_with first|(refine cd (ty:=77) rfl rfl rfl rfl ?_;refine AO ?_;intro wN hS;(try clear hQ);have hQ:=St.fq hS)|fail
  have hbox:bB _ w.heap.size [.int .i64 k,.int .i64 n,.int .i64 ek,.bool en,.int .i64 ehk,.int .i64 ehn,.bool lw,.int .u64 (lmn:Int),.int .u64 (lmx:Int),.bool lh,.bool mw,.int .u64 (mmn:Int),.int .u64 (mmx:Int),.bool mh,.int .i64 gk,.bool gn,.int .i64 ghk,.int .i64 ghn,.bool gm] 77:=hS.loc (by exact aK)
  refine wp_region_held_drew (S:=fun w'=>w'.rangeAt w.heap.size 0 [.int .i64 k,.int .i64 n,.int .i64 ek,.bool en,.int .i64 ehk,.int .i64 ehn,.bool lw,.int .u64 (lmn:Int),.int .u64 (lmx:Int),.bool lh,.bool mw,.int .u64 (mmn:Int),.int .u64 (mmx:Int),.bool mh,.int .i64 gk,.bool gn,.int .i64 ghk,.int .i64 ghn,.bool gm]) (by kernel_rfl) (bB.range (bB.drew hbox)) (fun hr=> ?_)
  have hS2:=hS.drew
  clear hS hbox
  have hS:=hS2
  clear hS2
  (refine wpAnyH_take (i:=0) (v:= .pointer (some ⟨w.heap.size,2,none⟩)) rfl (by kernel_rfl) (by kernel_rfl) (by kernel_rfl) (fun _ _ _ h=>h) (Or.inl ⟨by rfl,fun _ _=>by go_simp⟩) hr ?_;simp only[Act.put,List.setIfInBounds_toArray,List.set_cons_zero,List.set_cons_succ])
  refine wpAnyH_take (i:=1) (v:= .agg (List.toArray [.int .i64 ek,.bool en,.int .i64 ehk,.int .i64 ehn,.bool lw,.int .u64 (lmn:Int),.int .u64 (lmx:Int),.bool lh])) rfl (by kernel_rfl) (by kernel_rfl) (by kernel_rfl) (fun _ _ _ h=>h) (yieldsIf_load_mid rfl 73 _ rfl w.heap.size 2 rfl [.int .i64 ek,.bool en,.int .i64 ehk,.int .i64 ehn,.bool lw,.int .u64 (lmn:Int),.int .u64 (lmx:Int),.bool lh] _ (fun _ h=>cH 2 h rfl) kH rfl jO) hr ?_
  simp only[Act.put,List.setIfInBounds_toArray,List.set_cons_zero,List.set_cons_succ]
  (refine wpAnyH_take (i:=2) (v:= .pointer (some ⟨w.heap.size,2,none⟩)) rfl (by kernel_rfl) (by kernel_rfl) (by kernel_rfl) (fun _ _ _ h=>h) (Or.inl ⟨by rfl,fun _ _=>by go_simp⟩) hr ?_;simp only[Act.put,List.setIfInBounds_toArray,List.set_cons_zero,List.set_cons_succ])
  refine wpAnyH_take (i:=3) (v:= .agg (List.toArray [.int .i64 ek,.bool en,.int .i64 ehk,.int .i64 ehn,.bool lw,.int .u64 (lmn:Int),.int .u64 (lmx:Int),.bool lh])) rfl (by kernel_rfl) (by kernel_rfl) (by kernel_rfl) (fun _ _ _ h=>h) (yieldsIf_load_mid rfl 73 _ rfl w.heap.size 2 rfl [.int .i64 ek,.bool en,.int .i64 ehk,.int .i64 ehn,.bool lw,.int .u64 (lmn:Int),.int .u64 (lmx:Int),.bool lh] _ (fun _ h=>cH 2 h rfl) kH rfl jO) hr ?_
  simp only[Act.put,List.setIfInBounds_toArray,List.set_cons_zero,List.set_cons_succ]
  (refine wpAnyH_take (i:=5) (v:= .pointer (some ⟨w.heap.size+1,2,none⟩)) rfl (by kernel_rfl) (by kernel_rfl) (by kernel_rfl) (fun _ _ _ h=>h) (Or.inl ⟨by rfl,fun _ _=>by go_simp⟩) hr ?_;simp only[Act.put,List.setIfInBounds_toArray,List.set_cons_zero,List.set_cons_succ])
  (refine wpAnyH_ready (rs:= [4]) (by kernel_rfl) (by simp) ?_;refine AllReadyH.cons rfl (fun K hK=> ?_) AllReadyH.nil)
  rw[if_pos (by rfl)]
  go_simp
  refine(pm _ ⟨⟨ek,en,⟨ehk,ehn⟩⟩,⟨lw,lmn,lmx,lh⟩⟩).mono ?_
  rintro e w2 ⟨rfl,hF2⟩
  rw[H.out]
  have hS2:=hS.step0 hF2
  clear hS
  have hS:=hS2
  clear hS2
  (refine hK.out _ _ (by exact bB.range (hS.loc (by exact aK))) (fun hr=> ?_);clear hK K)
  (refine wpAnyH_ready (rs:= [6]) (by kernel_rfl) (by simp) ?_;refine AllReadyH.cons rfl (fun K hK=> ?_) AllReadyH.nil)
  rw[if_pos (by rfl)]
  refine kM (ty:=73) [.int .i64 k,.int .i64 0,.int .i64 ek,.bool en,.int .i64 ehk,.int .i64 ehn,.bool lw,.int .u64 (lmn:Int),.int .u64 (lmx:Int),.bool lh,.bool false,.int .u64 0,.int .u64 0,.bool false,.int .i64 0,.bool false,.int .i64 0,.int .i64 0,.bool false] [.int .i64 k,.int .i64 0] [.int .i64 0,.bool false,.int .i64 0,.int .i64 0,.bool false,.int .u64 0,.int .u64 0,.bool false] [.bool false,.int .u64 0,.int .u64 0,.bool false,.int .i64 0,.bool false,.int .i64 0,.int .i64 0,.bool false] rfl rfl rfl ?_
  exact Yd3q
theorem Qu {w:World} (x:i9) (h0:x.kind=2):Calls Tryz.prog 121 #[.agg (lz x).toArray] w fun e w'=>e= .returned (.bool (ez x))∧Fr [] w w':=by
 have hS:=St.start [] w
 obtain⟨k,n,⟨⟨ek,en,⟨ehk,ehn⟩⟩,⟨lw,lmn,lmx,lh⟩⟩,⟨mw,mmn,mmx,mh⟩,⟨⟨gk,gn,⟨ghk,ghn⟩⟩,gm⟩⟩:=x
 simp only at h0
 unfold ez
 simp only
 rw[if_neg (by omega),if_neg (by omega),if_pos h0]
 unfold lz dv dK cj du
 have q0:(k==0)=false:=by simp;omega
 have q4:(k==4)=false:=by simp;omega
 have q1:(k==1)=false:=by simp;omega
 have q2:(k==2)=true:=by simp;omega
 cases hi:jD ⟨mw,mmn,mmx,mh⟩
 ·have H:=Lib.hid hi
  clear hi h0
  go_enter Tryz.func121,Tryz.ntmps121
  go_wp2_with first|(refine cd (ty:=77) rfl rfl rfl rfl ?_;refine AO ?_;intro wN hS;(try clear hQ);have hQ:=St.fq hS)|fail
  have hbox:bB _ w.heap.size [.int .i64 k,.int .i64 n,.int .i64 ek,.bool en,.int .i64 ehk,.int .i64 ehn,.bool lw,.int .u64 (lmn:Int),.int .u64 (lmx:Int),.bool lh,.bool mw,.int .u64 (mmn:Int),.int .u64 (mmx:Int),.bool mh,.int .i64 gk,.bool gn,.int .i64 ghk,.int .i64 ghn,.bool gm] 77:=hS.loc (by exact aK)
  refine wp_region_held_drew (S:=fun w'=>w'.rangeAt w.heap.size 0 [.int .i64 k,.int .i64 n,.int .i64 ek,.bool en,.int .i64 ehk,.int .i64 ehn,.bool lw,.int .u64 (lmn:Int),.int .u64 (lmx:Int),.bool lh,.bool mw,.int .u64 (mmn:Int),.int .u64 (mmx:Int),.bool mh,.int .i64 gk,.bool gn,.int .i64 ghk,.int .i64 ghn,.bool gm]) (by kernel_rfl) (bB.range (bB.drew hbox)) (fun hr=> ?_)
  have hS2:=hS.drew
  clear hS hbox
  have hS:=hS2
  clear hS2
  (refine wpAnyH_take (i:=0) (v:= .pointer (some ⟨w.heap.size,10,none⟩)) rfl (by kernel_rfl) (by kernel_rfl) (by kernel_rfl) (fun _ _ _ h=>h) (Or.inl ⟨by rfl,fun _ _=>by go_simp⟩) hr ?_;simp only[Act.put,List.setIfInBounds_toArray,List.set_cons_zero,List.set_cons_succ])
  refine wpAnyH_take (i:=1) (v:= .agg (List.toArray [.bool mw,.int .u64 (mmn:Int),.int .u64 (mmx:Int),.bool mh])) rfl (by kernel_rfl) (by kernel_rfl) (by kernel_rfl) (fun _ _ _ h=>h) (yieldsIf_load_mid rfl 50 _ rfl w.heap.size 10 rfl [.bool mw,.int .u64 (mmn:Int),.int .u64 (mmx:Int),.bool mh] _ (fun _ h=>cH 10 h rfl) mr rfl jX) hr ?_
  simp only[Act.put,List.setIfInBounds_toArray,List.set_cons_zero,List.set_cons_succ]
  (refine wpAnyH_take (i:=2) (v:= .pointer (some ⟨w.heap.size,10,none⟩)) rfl (by kernel_rfl) (by kernel_rfl) (by kernel_rfl) (fun _ _ _ h=>h) (Or.inl ⟨by rfl,fun _ _=>by go_simp⟩) hr ?_;simp only[Act.put,List.setIfInBounds_toArray,List.set_cons_zero,List.set_cons_succ])
  refine wpAnyH_take (i:=3) (v:= .agg (List.toArray [.bool mw,.int .u64 (mmn:Int),.int .u64 (mmx:Int),.bool mh])) rfl (by kernel_rfl) (by kernel_rfl) (by kernel_rfl) (fun _ _ _ h=>h) (yieldsIf_load_mid rfl 50 _ rfl w.heap.size 10 rfl [.bool mw,.int .u64 (mmn:Int),.int .u64 (mmx:Int),.bool mh] _ (fun _ h=>cH 10 h rfl) mr rfl jX) hr ?_
  simp only[Act.put,List.setIfInBounds_toArray,List.set_cons_zero,List.set_cons_succ]
  (refine wpAnyH_take (i:=5) (v:= .pointer (some ⟨w.heap.size+1,10,none⟩)) rfl (by kernel_rfl) (by kernel_rfl) (by kernel_rfl) (fun _ _ _ h=>h) (Or.inl ⟨by rfl,fun _ _=>by go_simp⟩) hr ?_;simp only[Act.put,List.setIfInBounds_toArray,List.set_cons_zero,List.set_cons_succ])
  (refine wpAnyH_ready (rs:= [4]) (by kernel_rfl) (by simp) ?_;refine AllReadyH.cons rfl (fun K hK=> ?_) AllReadyH.nil)
  rw[if_pos (by rfl)]
  go_simp
  refine(pG _ ⟨mw,mmn,mmx,mh⟩).mono ?_
  rintro e w2 ⟨rfl,hF2⟩
  rw[H.out]
  have hS2:=hS.step0 hF2
  clear hS
  have hS:=hS2
  clear hS2
  (refine hK.out _ _ (by exact bB.range (hS.loc (by exact aK))) (fun hr=> ?_);clear hK K)
  (refine wpAnyH_ready (rs:= [6]) (by kernel_rfl) (by simp) ?_;refine AllReadyH.cons rfl (fun K hK=> ?_) AllReadyH.nil)
  rw[if_pos (by rfl)]
  refine kM (ty:=50) [.int .i64 k,.int .i64 0,.int .i64 0,.bool false,.int .i64 0,.int .i64 0,.bool false,.int .u64 0,.int .u64 0,.bool false,.bool mw,.int .u64 (mmn:Int),.int .u64 (mmx:Int),.bool mh,.int .i64 0,.bool false,.int .i64 0,.int .i64 0,.bool false] [.int .i64 k,.int .i64 0,.int .i64 0,.bool false,.int .i64 0,.int .i64 0,.bool false,.int .u64 0,.int .u64 0,.bool false] [.bool false,.int .u64 0,.int .u64 0,.bool false] [.int .i64 0,.bool false,.int .i64 0,.int .i64 0,.bool false] rfl rfl rfl ?_
  exact V03q
 ·have H:=Lib.hid hi
  clear hi h0
  go_enter Tryz.func121,Tryz.ntmps121
  go_wp2_with first|(refine cd (ty:=77) rfl rfl rfl rfl ?_;refine AO ?_;intro wN hS;(try clear hQ);have hQ:=St.fq hS)|fail
  have hbox:bB _ w.heap.size [.int .i64 k,.int .i64 n,.int .i64 ek,.bool en,.int .i64 ehk,.int .i64 ehn,.bool lw,.int .u64 (lmn:Int),.int .u64 (lmx:Int),.bool lh,.bool mw,.int .u64 (mmn:Int),.int .u64 (mmx:Int),.bool mh,.int .i64 gk,.bool gn,.int .i64 ghk,.int .i64 ghn,.bool gm] 77:=hS.loc (by exact aK)
  refine wp_region_held_drew (S:=fun w'=>w'.rangeAt w.heap.size 0 [.int .i64 k,.int .i64 n,.int .i64 ek,.bool en,.int .i64 ehk,.int .i64 ehn,.bool lw,.int .u64 (lmn:Int),.int .u64 (lmx:Int),.bool lh,.bool mw,.int .u64 (mmn:Int),.int .u64 (mmx:Int),.bool mh,.int .i64 gk,.bool gn,.int .i64 ghk,.int .i64 ghn,.bool gm]) (by kernel_rfl) (bB.range (bB.drew hbox)) (fun hr=> ?_)
  have hS2:=hS.drew
  clear hS hbox
  have hS:=hS2
  clear hS2
  (refine wpAnyH_take (i:=0) (v:= .pointer (some ⟨w.heap.size,10,none⟩)) rfl (by kernel_rfl) (by kernel_rfl) (by kernel_rfl) (fun _ _ _ h=>h) (Or.inl ⟨by rfl,fun _ _=>by go_simp⟩) hr ?_;simp only[Act.put,List.setIfInBounds_toArray,List.set_cons_zero,List.set_cons_succ])
  refine wpAnyH_take (i:=1) (v:= .agg (List.toArray [.bool mw,.int .u64 (mmn:Int),.int .u64 (mmx:Int),.bool mh])) rfl (by kernel_rfl) (by kernel_rfl) (by kernel_rfl) (fun _ _ _ h=>h) (yieldsIf_load_mid rfl 50 _ rfl w.heap.size 10 rfl [.bool mw,.int .u64 (mmn:Int),.int .u64 (mmx:Int),.bool mh] _ (fun _ h=>cH 10 h rfl) mr rfl jX) hr ?_
  simp only[Act.put,List.setIfInBounds_toArray,List.set_cons_zero,List.set_cons_succ]
  (refine wpAnyH_take (i:=2) (v:= .pointer (some ⟨w.heap.size,10,none⟩)) rfl (by kernel_rfl) (by kernel_rfl) (by kernel_rfl) (fun _ _ _ h=>h) (Or.inl ⟨by rfl,fun _ _=>by go_simp⟩) hr ?_;simp only[Act.put,List.setIfInBounds_toArray,List.set_cons_zero,List.set_cons_succ])
  refine wpAnyH_take (i:=3) (v:= .agg (List.toArray [.bool mw,.int .u64 (mmn:Int),.int .u64 (mmx:Int),.bool mh])) rfl (by kernel_rfl) (by kernel_rfl) (by kernel_rfl) (fun _ _ _ h=>h) (yieldsIf_load_mid rfl 50 _ rfl w.heap.size 10 rfl [.bool mw,.int .u64 (mmn:Int),.int .u64 (mmx:Int),.bool mh] _ (fun _ h=>cH 10 h rfl) mr rfl jX) hr ?_
  simp only[Act.put,List.setIfInBounds_toArray,List.set_cons_zero,List.set_cons_succ]
  (refine wpAnyH_take (i:=5) (v:= .pointer (some ⟨w.heap.size+1,10,none⟩)) rfl (by kernel_rfl) (by kernel_rfl) (by kernel_rfl) (fun _ _ _ h=>h) (Or.inl ⟨by rfl,fun _ _=>by go_simp⟩) hr ?_;simp only[Act.put,List.setIfInBounds_toArray,List.set_cons_zero,List.set_cons_succ])
  (refine wpAnyH_ready (rs:= [4]) (by kernel_rfl) (by simp) ?_;refine AllReadyH.cons rfl (fun K hK=> ?_) AllReadyH.nil)
  rw[if_pos (by rfl)]
  go_simp
  refine(pG _ ⟨mw,mmn,mmx,mh⟩).mono ?_
  rintro e w2 ⟨rfl,hF2⟩
  rw[H.out]
  have hS2:=hS.step0 hF2
  clear hS
  have hS:=hS2
  clear hS2
  (refine hK.out _ _ (by exact bB.range (hS.loc (by exact aK))) (fun hr=> ?_);clear hK K)
  (refine wpAnyH_ready (rs:= [6]) (by kernel_rfl) (by simp) ?_;refine AllReadyH.cons rfl (fun K hK=> ?_) AllReadyH.nil)
  rw[if_pos (by rfl)]
  refine kM (ty:=50) [.int .i64 k,.int .i64 0,.int .i64 0,.bool false,.int .i64 0,.int .i64 0,.bool false,.int .u64 0,.int .u64 0,.bool false,.bool mw,.int .u64 (mmn:Int),.int .u64 (mmx:Int),.bool mh,.int .i64 0,.bool false,.int .i64 0,.int .i64 0,.bool false] [.int .i64 k,.int .i64 0,.int .i64 0,.bool false,.int .i64 0,.int .i64 0,.bool false,.int .u64 0,.int .u64 0,.bool false] [.bool false,.int .u64 0,.int .u64 0,.bool false] [.int .i64 0,.bool false,.int .i64 0,.int .i64 0,.bool false] rfl rfl rfl ?_
  exact Yd3q
theorem Qq {w:World} (x:i9) (h0:x.kind=3):Calls Tryz.prog 121 #[.agg (lz x).toArray] w fun e w'=>e= .returned (.bool (ez x))∧Fr [] w w':=by
 have hS:=St.start [] w
 obtain⟨k,n,⟨⟨ek,en,⟨ehk,ehn⟩⟩,⟨lw,lmn,lmx,lh⟩⟩,⟨mw,mmn,mmx,mh⟩,⟨⟨gk,gn,⟨ghk,ghn⟩⟩,gm⟩⟩:=x
 simp only at h0
 unfold ez
 simp only
 rw[if_neg (by omega),if_neg (by omega),if_neg (by omega),if_pos h0]
 unfold lz dv dK cj du
 have q0:(k==0)=false:=by simp;omega
 have q4:(k==4)=false:=by simp;omega
 have q1:(k==1)=false:=by simp;omega
 have q2:(k==2)=false:=by simp;omega
 have q3:(k==3)=true:=by simp;omega
 cases hi:aj ⟨gk,gn,⟨ghk,ghn⟩⟩
 ·have H:=Lib.hid hi
  clear hi h0
  go_enter Tryz.func121,Tryz.ntmps121
  go_wp2_with first|(refine cd (ty:=77) rfl rfl rfl rfl ?_;refine AO ?_;intro wN hS;(try clear hQ);have hQ:=St.fq hS)|fail
  have hbox:bB _ w.heap.size [.int .i64 k,.int .i64 n,.int .i64 ek,.bool en,.int .i64 ehk,.int .i64 ehn,.bool lw,.int .u64 (lmn:Int),.int .u64 (lmx:Int),.bool lh,.bool mw,.int .u64 (mmn:Int),.int .u64 (mmx:Int),.bool mh,.int .i64 gk,.bool gn,.int .i64 ghk,.int .i64 ghn,.bool gm] 77:=hS.loc (by exact aK)
  refine wp_region_held_drew (S:=fun w'=>w'.rangeAt w.heap.size 0 [.int .i64 k,.int .i64 n,.int .i64 ek,.bool en,.int .i64 ehk,.int .i64 ehn,.bool lw,.int .u64 (lmn:Int),.int .u64 (lmx:Int),.bool lh,.bool mw,.int .u64 (mmn:Int),.int .u64 (mmx:Int),.bool mh,.int .i64 gk,.bool gn,.int .i64 ghk,.int .i64 ghn,.bool gm]) (by kernel_rfl) (bB.range (bB.drew hbox)) (fun hr=> ?_)
  have hS2:=hS.drew
  clear hS hbox
  have hS:=hS2
  clear hS2
  (refine wpAnyH_take (i:=0) (v:= .pointer (some ⟨w.heap.size,14,none⟩)) rfl (by kernel_rfl) (by kernel_rfl) (by kernel_rfl) (fun _ _ _ h=>h) (Or.inl ⟨by rfl,fun _ _=>by go_simp⟩) hr ?_;simp only[Act.put,List.setIfInBounds_toArray,List.set_cons_zero,List.set_cons_succ])
  refine wpAnyH_take (i:=1) (v:= .agg (List.toArray [.int .i64 gk,.bool gn,.int .i64 ghk,.int .i64 ghn,.bool gm])) rfl (by kernel_rfl) (by kernel_rfl) (by kernel_rfl) (fun _ _ _ h=>h) (yieldsIf_load_mid rfl 75 _ rfl w.heap.size 14 rfl [.int .i64 gk,.bool gn,.int .i64 ghk,.int .i64 ghn,.bool gm] _ (fun _ h=>cH 14 h rfl) pM rfl jz) hr ?_
  simp only[Act.put,List.setIfInBounds_toArray,List.set_cons_zero,List.set_cons_succ]
  (refine wpAnyH_take (i:=2) (v:= .pointer (some ⟨w.heap.size,14,none⟩)) rfl (by kernel_rfl) (by kernel_rfl) (by kernel_rfl) (fun _ _ _ h=>h) (Or.inl ⟨by rfl,fun _ _=>by go_simp⟩) hr ?_;simp only[Act.put,List.setIfInBounds_toArray,List.set_cons_zero,List.set_cons_succ])
  (refine wpAnyH_take (i:=3) (v:= .pointer (some ⟨w.heap.size,14,none⟩)) rfl (by kernel_rfl) (by kernel_rfl) (by kernel_rfl) (fun _ _ _ h=>h) (Or.inl ⟨by rfl,fun _ _=>by go_simp⟩) hr ?_;simp only[Act.put,List.setIfInBounds_toArray,List.set_cons_zero,List.set_cons_succ])
  refine wpAnyH_take (i:=4) (v:= .agg (List.toArray [.int .i64 gk,.bool gn,.int .i64 ghk,.int .i64 ghn])) rfl (by kernel_rfl) (by kernel_rfl) (by kernel_rfl) (fun _ _ _ h=>h) (yieldsIf_load_mid rfl 61 _ rfl w.heap.size 14 rfl [.int .i64 gk,.bool gn,.int .i64 ghk,.int .i64 ghn] _ (fun _ h=>cH 14 h rfl) kx rfl iP) hr ?_
  simp only[Act.put,List.setIfInBounds_toArray,List.set_cons_zero,List.set_cons_succ]
  (refine wpAnyH_take (i:=6) (v:= .pointer (some ⟨w.heap.size+1,14,none⟩)) rfl (by kernel_rfl) (by kernel_rfl) (by kernel_rfl) (fun _ _ _ h=>h) (Or.inl ⟨by rfl,fun _ _=>by go_simp⟩) hr ?_;simp only[Act.put,List.setIfInBounds_toArray,List.set_cons_zero,List.set_cons_succ])
  (refine wpAnyH_ready (rs:= [5]) (by kernel_rfl) (by simp) ?_;refine AllReadyH.cons rfl (fun K hK=> ?_) AllReadyH.nil)
  rw[if_pos (by rfl)]
  go_simp
  refine(cK _ ⟨gk,gn,⟨ghk,ghn⟩⟩).mono ?_
  rintro e w2 ⟨rfl,hF2⟩
  rw[H.out]
  have hS2:=hS.step0 hF2
  clear hS
  have hS:=hS2
  clear hS2
  (refine hK.out _ _ (by exact bB.range (hS.loc (by exact aK))) (fun hr=> ?_);clear hK K)
  (refine wpAnyH_ready (rs:= [7]) (by kernel_rfl) (by simp) ?_;refine AllReadyH.cons rfl (fun K hK=> ?_) AllReadyH.nil)
  rw[if_pos (by rfl)]
  refine kM (ty:=75) [.int .i64 k,.int .i64 0,.int .i64 0,.bool false,.int .i64 0,.int .i64 0,.bool false,.int .u64 0,.int .u64 0,.bool false,.bool false,.int .u64 0,.int .u64 0,.bool false,.int .i64 gk,.bool gn,.int .i64 ghk,.int .i64 ghn,.bool gm] [.int .i64 k,.int .i64 0,.int .i64 0,.bool false,.int .i64 0,.int .i64 0,.bool false,.int .u64 0,.int .u64 0,.bool false,.bool false,.int .u64 0,.int .u64 0,.bool false] [.int .i64 0,.bool false,.int .i64 0,.int .i64 0,.bool false] [] rfl rfl rfl ?_
  (repeat(apply Exists.intro))
  refine⟨?_,?_,?_,?_,?_,?_,?_,?_,?_⟩
  ·(exact aA)
  ·(exact aK)
  ·rfl
  ·rfl
  ·rfl
  ·rfl
  ·exact jz
  ·simp[Value.oneCell']
  intro wN hS
  (refine hK.out _ _ (by exact bB.range (hS.loc (by exact aK))) (fun hr=> ?_);clear hK K)
  (refine wpAnyH_take (i:=8) (v:= .bool false) rfl (by kernel_rfl) (by kernel_rfl) (by kernel_rfl) (fun _ _ _ h=>h) (Or.inl ⟨by rfl,fun _ _=>by go_simp⟩) hr ?_;simp only[Act.put,List.setIfInBounds_toArray,List.set_cons_zero,List.set_cons_succ])
  exact VI
 ·have H:=Lib.hid hi
  clear hi h0
  go_enter Tryz.func121,Tryz.ntmps121
  go_wp2_with first|(refine cd (ty:=77) rfl rfl rfl rfl ?_;refine AO ?_;intro wN hS;(try clear hQ);have hQ:=St.fq hS)|fail
  have hbox:bB _ w.heap.size [.int .i64 k,.int .i64 n,.int .i64 ek,.bool en,.int .i64 ehk,.int .i64 ehn,.bool lw,.int .u64 (lmn:Int),.int .u64 (lmx:Int),.bool lh,.bool mw,.int .u64 (mmn:Int),.int .u64 (mmx:Int),.bool mh,.int .i64 gk,.bool gn,.int .i64 ghk,.int .i64 ghn,.bool gm] 77:=hS.loc (by exact aK)
  refine wp_region_held_drew (S:=fun w'=>w'.rangeAt w.heap.size 0 [.int .i64 k,.int .i64 n,.int .i64 ek,.bool en,.int .i64 ehk,.int .i64 ehn,.bool lw,.int .u64 (lmn:Int),.int .u64 (lmx:Int),.bool lh,.bool mw,.int .u64 (mmn:Int),.int .u64 (mmx:Int),.bool mh,.int .i64 gk,.bool gn,.int .i64 ghk,.int .i64 ghn,.bool gm]) (by kernel_rfl) (bB.range (bB.drew hbox)) (fun hr=> ?_)
  have hS2:=hS.drew
  clear hS hbox
  have hS:=hS2
  clear hS2
  (refine wpAnyH_take (i:=0) (v:= .pointer (some ⟨w.heap.size,14,none⟩)) rfl (by kernel_rfl) (by kernel_rfl) (by kernel_rfl) (fun _ _ _ h=>h) (Or.inl ⟨by rfl,fun _ _=>by go_simp⟩) hr ?_;simp only[Act.put,List.setIfInBounds_toArray,List.set_cons_zero,List.set_cons_succ])
  refine wpAnyH_take (i:=1) (v:= .agg (List.toArray [.int .i64 gk,.bool gn,.int .i64 ghk,.int .i64 ghn,.bool gm])) rfl (by kernel_rfl) (by kernel_rfl) (by kernel_rfl) (fun _ _ _ h=>h) (yieldsIf_load_mid rfl 75 _ rfl w.heap.size 14 rfl [.int .i64 gk,.bool gn,.int .i64 ghk,.int .i64 ghn,.bool gm] _ (fun _ h=>cH 14 h rfl) pM rfl jz) hr ?_
  simp only[Act.put,List.setIfInBounds_toArray,List.set_cons_zero,List.set_cons_succ]
  (refine wpAnyH_take (i:=2) (v:= .pointer (some ⟨w.heap.size,14,none⟩)) rfl (by kernel_rfl) (by kernel_rfl) (by kernel_rfl) (fun _ _ _ h=>h) (Or.inl ⟨by rfl,fun _ _=>by go_simp⟩) hr ?_;simp only[Act.put,List.setIfInBounds_toArray,List.set_cons_zero,List.set_cons_succ])
  (refine wpAnyH_take (i:=3) (v:= .pointer (some ⟨w.heap.size,14,none⟩)) rfl (by kernel_rfl) (by kernel_rfl) (by kernel_rfl) (fun _ _ _ h=>h) (Or.inl ⟨by rfl,fun _ _=>by go_simp⟩) hr ?_;simp only[Act.put,List.setIfInBounds_toArray,List.set_cons_zero,List.set_cons_succ])
  refine wpAnyH_take (i:=4) (v:= .agg (List.toArray [.int .i64 gk,.bool gn,.int .i64 ghk,.int .i64 ghn])) rfl (by kernel_rfl) (by kernel_rfl) (by kernel_rfl) (fun _ _ _ h=>h) (yieldsIf_load_mid rfl 61 _ rfl w.heap.size 14 rfl [.int .i64 gk,.bool gn,.int .i64 ghk,.int .i64 ghn] _ (fun _ h=>cH 14 h rfl) kx rfl iP) hr ?_
  simp only[Act.put,List.setIfInBounds_toArray,List.set_cons_zero,List.set_cons_succ]
  (refine wpAnyH_take (i:=6) (v:= .pointer (some ⟨w.heap.size+1,14,none⟩)) rfl (by kernel_rfl) (by kernel_rfl) (by kernel_rfl) (fun _ _ _ h=>h) (Or.inl ⟨by rfl,fun _ _=>by go_simp⟩) hr ?_;simp only[Act.put,List.setIfInBounds_toArray,List.set_cons_zero,List.set_cons_succ])
  (refine wpAnyH_ready (rs:= [5]) (by kernel_rfl) (by simp) ?_;refine AllReadyH.cons rfl (fun K hK=> ?_) AllReadyH.nil)
  rw[if_pos (by rfl)]
  go_simp
  refine(cK _ ⟨gk,gn,⟨ghk,ghn⟩⟩).mono ?_
  rintro e w2 ⟨rfl,hF2⟩
  rw[H.out]
  have hS2:=hS.step0 hF2
  clear hS
  have hS:=hS2
  clear hS2
  (refine hK.out _ _ (by exact bB.range (hS.loc (by exact aK))) (fun hr=> ?_);clear hK K)
  (refine wpAnyH_ready (rs:= [7]) (by kernel_rfl) (by simp) ?_;refine AllReadyH.cons rfl (fun K hK=> ?_) AllReadyH.nil)
  rw[if_pos (by rfl)]
  refine kM (ty:=75) [.int .i64 k,.int .i64 0,.int .i64 0,.bool false,.int .i64 0,.int .i64 0,.bool false,.int .u64 0,.int .u64 0,.bool false,.bool false,.int .u64 0,.int .u64 0,.bool false,.int .i64 gk,.bool gn,.int .i64 ghk,.int .i64 ghn,.bool gm] [.int .i64 k,.int .i64 0,.int .i64 0,.bool false,.int .i64 0,.int .i64 0,.bool false,.int .u64 0,.int .u64 0,.bool false,.bool false,.int .u64 0,.int .u64 0,.bool false] [.int .i64 0,.bool false,.int .i64 0,.int .i64 0,.bool false] [] rfl rfl rfl ?_
  (repeat(apply Exists.intro))
  refine⟨?_,?_,?_,?_,?_,?_,?_,?_,?_⟩
  ·(exact aA)
  ·(exact aK)
  ·rfl
  ·rfl
  ·rfl
  ·rfl
  ·exact jz
  ·simp[Value.oneCell']
  intro wN hS
  (refine hK.out _ _ (by exact bB.range (hS.loc (by exact aK))) (fun hr=> ?_);clear hK K)
  (refine wpAnyH_take (i:=8) (v:= .bool true) rfl (by kernel_rfl) (by kernel_rfl) (by kernel_rfl) (fun _ _ _ h=>h) (Or.inl ⟨by rfl,fun _ _=>by go_simp⟩) hr ?_;simp only[Act.put,List.setIfInBounds_toArray,List.set_cons_zero,List.set_cons_succ])
  exact U6
theorem Ta {w:World} (x:i9):Calls Tryz.prog 121 #[.agg (lz x).toArray] w fun e w'=>e= .returned (.bool (ez x))∧Fr [] w w':=by
 by_cases h0:x.kind=0∨x.kind=4
 ·exact PF x h0
 by_cases h1:x.kind=1
 ·exact QQ x h1
 by_cases h2:x.kind=2
 ·exact Qu x h2
 by_cases h3:x.kind=3
 ·exact Qq x h3
 have hS:=St.start [] w
 obtain⟨k,n,⟨⟨ek,en,⟨ehk,ehn⟩⟩,⟨lw,lmn,lmx,lh⟩⟩,⟨mw,mmn,mmx,mh⟩,⟨⟨gk,gn,⟨ghk,ghn⟩⟩,gm⟩⟩:=x
 simp only at h0 h1 h2 h3
 unfold ez
 simp only
 rw[if_neg h0,if_neg h1,if_neg h2,if_neg h3]
 unfold lz dv dK cj du
 have q0:(k==0)=false:=by simp;omega
 have q1:(k==1)=false:=by simp;omega
 have q2:(k==2)=false:=by simp;omega
 have q3:(k==3)=false:=by simp;omega
 have q4:(k==4)=false:=by simp;omega
 clear h0 h1 h2 h3
 go_enter Tryz.func121,Tryz.ntmps121
 go_wp2_with first|(refine cd (ty:=77) rfl rfl rfl rfl ?_;refine AO ?_;intro wN hS;(try clear hQ);have hQ:=St.fq hS)|fail
 exact qF
theorem T0 {w:World} (x:jp) (hm:x.modu.length≤1099511627776) (hn:x.name.length≤1099511627776):Calls Tryz.prog 61 #[.agg (eR x).toArray] w fun e w'=>e= .returned (.bool (kl x))∧Fr [] w w':=by
 have hS:=St.start [] w
 obtain⟨a1,a2,⟨k,n,⟨⟨ek,en,⟨ehk,ehn⟩⟩,⟨lw,lmn,lmx,lh⟩⟩,⟨mw,mmn,mmx,mh⟩,⟨⟨gk,gn,⟨ghk,ghn⟩⟩,gm⟩⟩⟩:=x
 simp only at hm hn
 unfold kl
 simp only
 cases h1:iY a1
 ·have H1:=Lib.hid h1
  clear h1
  unfold eR lz dv dK cj du iI
  go_enter Tryz.func61,Tryz.ntmps61
  go_wp2_with first|(go_at_call 120;refine(jY a1 hm _).mono ?_;rintro e w2 ⟨rfl,hF2⟩;rw[H1.out];(try clear hQ);refine cB hF2 fun hS hQ=> ?_)|fail
  exact qF
 have H1:=Lib.hid h1
 clear h1
 cases h2:iY a2
 ·have H2:=Lib.hid h2
  clear h2
  unfold eR lz dv dK cj du iI
  go_enter Tryz.func61,Tryz.ntmps61
  go_wp2_with first|(go_at_call 120;refine(jY a1 hm _).mono ?_;rintro e w2 ⟨rfl,hF2⟩;rw[H1.out];(try clear hQ);refine cB hF2 fun hS hQ=> ?_)|(go_at_call 120;refine(jY a2 hn _).mono ?_;rintro e w2 ⟨rfl,hF2⟩;rw[H2.out];(try clear hQ);refine cB hF2 fun hS hQ=> ?_)|fail
  exact qF
 have H2:=Lib.hid h2
 clear h2
 cases h3:ez ⟨k,n,⟨⟨ek,en,⟨ehk,ehn⟩⟩,⟨lw,lmn,lmx,lh⟩⟩,⟨mw,mmn,mmx,mh⟩,⟨⟨gk,gn,⟨ghk,ghn⟩⟩,gm⟩⟩
 all_goals
  have H3:=Lib.hid h3
  clear h3
  unfold eR lz dv dK cj du iI
  go_enter Tryz.func61,Tryz.ntmps61
  go_wp2_with first|(go_at_call 120;refine(jY a1 hm _).mono ?_;rintro e w2 ⟨rfl,hF2⟩;rw[H1.out];(try clear hQ);refine cB hF2 fun hS hQ=> ?_)|(go_at_call 120;refine(jY a2 hn _).mono ?_;rintro e w2 ⟨rfl,hF2⟩;rw[H2.out];(try clear hQ);refine cB hF2 fun hS hQ=> ?_)|(refine mW (ty:=77) (c:=true) rfl rfl rfl rfl zI rfl (fun _=> ?_) (fun h=>by cases h);(repeat(apply Exists.intro));refine⟨?_,?_,?_,?_⟩;(·exact aA);(·(try simp only[World.size_alloc,World.size_setCell,ay,ar]);exact eD.elem (cH (mid:= [.int .i64 k,.int .i64 n,.int .i64 ek,.bool en,.int .i64 ehk,.int .i64 ehn,.bool lw,.int .u64 (lmn:Int),.int .u64 (lmx:Int),.bool lh,.bool mw,.int .u64 (mmn:Int),.int .u64 (mmx:Int),.bool mh,.int .i64 gk,.bool gn,.int .i64 ghk,.int .i64 ghn,.bool gm]) 2 (bB.range (St.loc hS (by exact aK))) rfl));(·exact sd))|(go_at_call 121;refine(Ta ⟨k,n,⟨⟨ek,en,⟨ehk,ehn⟩⟩,⟨lw,lmn,lmx,lh⟩⟩,⟨mw,mmn,mmx,mh⟩,⟨⟨gk,gn,⟨ghk,ghn⟩⟩,gm⟩⟩).mono ?_;rintro e w2 ⟨rfl,hF2⟩;rw[H3.out];(try clear hQ);refine cB hF2 fun hS hQ=> ?_)|fail
  go_ret
  exact⟨rfl,by exact aM⟩
structure yO (P:Program) (w:World) (f g:FuncId) (v:Value) (b:Bool):Prop where
 out:∀w',Fr [] w w'→Calls P f #[v,.func (.func g) #[] #[]] w' fun e w2=>e= .returned (.bool b)∧Fr [] w' w2
theorem Ea {p:Prop} (h:p:=by
 simp only[Bool.true_and,Bool.false_and,Bool.and_true,Bool.and_false,Bool.true_or,Bool.false_or]
 go_enter Tryz.func11,Tryz.ntmps11
 go_wp2_with first|(go_at_call 56;refine(H0.out.out _ (by exact aM)).mono ?_;rintro e w2 ⟨rfl,hF2⟩;(try clear hQ);refine cB hF2 fun hS hQ=> ?_)|(go_at_call 60;refine(H1.out.out _ (by exact aM)).mono ?_;rintro e w2 ⟨rfl,hF2⟩;(try clear hQ);refine cB hF2 fun hS hQ=> ?_)|(go_at_call 62;refine(H2.out.out _ (by exact aM)).mono ?_;rintro e w2 ⟨rfl,hF2⟩;(try clear hQ);refine cB hF2 fun hS hQ=> ?_)|(go_at_call 64;refine(H3.out.out _ (by exact aM)).mono ?_;rintro e w2 ⟨rfl,hF2⟩;(try clear hQ);refine cB hF2 fun hS hQ=> ?_)|(go_at_call 66;refine(H4.out.out _ (by exact aM)).mono ?_;rintro e w2 ⟨rfl,hF2⟩;(try clear hQ);refine cB hF2 fun hS hQ=> ?_)|(go_at_call 68;refine(H5.out.out _ (by exact aM)).mono ?_;rintro e w2 ⟨rfl,hF2⟩;(try clear hQ);refine cB hF2 fun hS hQ=> ?_)|(go_at_call 70;refine(H6.out.out _ (by exact aM)).mono ?_;rintro e w2 ⟨rfl,hF2⟩;(try clear hQ);refine cB hF2 fun hS hQ=> ?_)|(go_at_call 72;refine(H7.out.out _ (by exact aM)).mono ?_;rintro e w2 ⟨rfl,hF2⟩;(try clear hQ);refine cB hF2 fun hS hQ=> ?_)|(go_at_call 69;refine(eJ _ st).mono ?_;rintro e w2 ⟨rfl,hw2⟩;rw[hw2,H8.out])|(go_at_call 74;refine(H9.out.out _ (by exact aM)).mono ?_;rintro e w2 ⟨rfl,hF2⟩;(try clear hQ);refine cB hF2 fun hS hQ=> ?_)|(go_at_call 76;refine(H10.out.out _ (by exact aM)).mono ?_;rintro e w2 ⟨rfl,hF2⟩;(try clear hQ);refine cB hF2 fun hS hQ=> ?_)|fail
 exact qF
):p:=h
theorem Lv {w:World} {a0 a1 a2 a3 a4 a5 a6 a7 a9 a10:Option Addr} {n0 c0 n1 c1 n2 c2 n3 c3 n4 c4 n5 c5 n6 c6 n7 c7 n9 c9 n10 c10:Nat} {st:Int} {b0 b1 b2 b3 b4 b5 b6 b7 b9 b10 s8 b8:Bool}
 (H0:Hid (yO Tryz.prog w 56 57 (.slice a0 n0 c0) b0)) (H1:Hid (yO Tryz.prog w 60 61 (.slice a1 n1 c1) b1)) (H2:Hid (yO Tryz.prog w 62 63 (.slice a2 n2 c2) b2)) (H3:Hid (yO Tryz.prog w 64 65 (.slice a3 n3 c3) b3)) (H4:Hid (yO Tryz.prog w 66 67 (.slice a4 n4 c4) b4)) (H5:Hid (yO Tryz.prog w 68 69 (.slice a5 n5 c5) b5)) (H6:Hid (yO Tryz.prog w 70 71 (.slice a6 n6 c6) b6)) (H7:Hid (yO Tryz.prog w 72 73 (.slice a7 n7 c7) b7)) (H9:Hid (yO Tryz.prog w 74 75 (.slice a9 n9 c9) b9)) (H10:Hid (yO Tryz.prog w 76 77 (.slice a10 n10 c10) b10))
 (q8:(st== -1)=s8) (H8:Hid (ev st=b8)):
 Calls Tryz.prog 11 #[.agg (List.toArray [.slice a0 n0 c0,.slice a1 n1 c1,.slice a2 n2 c2,.slice a3 n3 c3,.slice a4 n4 c4,.slice a5 n5 c5,.slice a6 n6 c6,.slice a7 n7 c7,.int .i64 st,.slice a9 n9 c9,.slice a10 n10 c10])] w fun e w'=>e= .returned (.bool (b0&&b1&&b2&&b3&&b4&&b5&&b6&&b7&&(s8||b8)&&b9&&b10))∧Fr [] w w':=by
 have hS:=St.start [] w
 cases b0
 ·exact Ea
 cases b1
 ·exact Ea
 cases b2
 ·exact Ea
 cases b3
 ·exact Ea
 cases b4
 ·exact Ea
 cases b5
 ·exact Ea
 cases b6
 ·exact Ea
 cases b7
 ·exact Ea
 cases s8
 ·cases b8
  ·exact Ea
  cases b9
  ·exact Ea
  cases b10
  ·exact Ea
  exact Ea
 ·cases b9
  ·exact Ea
  cases b10
  ·exact Ea
  exact Ea
end Go.Proofs.YtpdlmdlkecnpgaaGreatDoor
