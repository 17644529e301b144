/- ModuleBack, the stage theorem: what is put is read as the module that it was; what is read may be, is put again, with no more bytes but a section 12, and read as the same; for every module and all bytes of bulk at most 1048576. The tables of heap types and of opcodes hold what the text of the program lays (the card ties it). -/
import Derived.Test.YtpdlmdlkecnpgaaGreatDoorH0
import Derived.Test.YtpdlmdlkecnpgaaGreatDoorCards
import Derived.Test.YtpdlmdlkecnpgaaGreatDoorTie
import Derived.WalkKit
import Derived.ProofKit
import Derived.OpenShut
import Derived.Deep.DeepHandedRow
import Derived.Lib.LaidTab
import Derived.Test.YtpdlmdlkecnpgaaGreatDoorH43
import Derived.Test.YtpdlmdlkecnpgaaGreatDoorH44
set_option linter.unusedSimpArgs false
set_option linter.unusedVariables false
namespace Go.Proofs.YtpdlmdlkecnpgaaGreatDoor
namespace lawBk
open Go.ChangeShapes Go.WideShapes Go.ChangeAt Go.RowKit
theorem RO:(laidOutB Tryz.pinned.checked.prog)=true:=by kernel_rfl
theorem RW:((Rows.moduleBackUptoRow.inPlace==Tryz.pinned.checked.prog.inPlace 3))=true:=by kernel_rfl
theorem O9:((Rows.moduleBackUptoRow.unfollowed==Tryz.pinned.checked.prog.unfollowed 3))=true:=by kernel_rfl
end lawBk
namespace lawBk
open Go.ChangeShapes Go.WideShapes Go.ChangeAt Go.RowKit
theorem Nm:((Rows.moduleBackUptoRow.recurses==Tryz.pinned.checked.prog.recurses 3))=true:=by kernel_rfl
theorem Nx:((Rows.moduleBackUptoRow.named==Tryz.pinned.checked.prog.varsNamed 3))=true:=by kernel_rfl
theorem RE:(mapsRowed Tryz.pinned.checked.prog)=true:=by kernel_rfl
theorem Od:((Rows.moduleBackUptoRow.plainKeys==Tryz.pinned.checked.prog.plainKeys))=true:=by kernel_rfl
theorem N4:(Tryz.pinned.checked.prog.stopsHeard)=true:=by kernel_rfl
theorem Mg:(Tryz.pinned.checked.prog.mayEnter)=true:=by kernel_rfl
theorem R2:(Rows.moduleBackUptoRow.wf (OpenSpec.ofChange (Rows.OpenSpec.upto Rows.moduleBackSpec).bare))=true:=by kernel_rfl
theorem RA:(Tryz.f3.params.all (Tryz.pinned.checked.prog.readableRec ·))=true:=by kernel_rfl
theorem RU:(namedTie Tryz.pinned.checked.prog Rows.moduleBackUptoRow.named (Rows.OpenSpec.upto Rows.moduleBackSpec).bare.vars)=true:=by kernel_rfl
theorem RL:((Rows.moduleBackUptoRow.stops== []))=true:=by kernel_rfl
theorem RM:((Tryz.pinned.checked.prog.stops== []))=true:=by kernel_rfl
theorem RR:((Rows.moduleBackUptoRow.knobs== []))=true:=by kernel_rfl
theorem RH:((Tryz.pinned.checked.prog.stopKnobs== []))=true:=by kernel_rfl
theorem M5:((Rows.moduleBackUptoRow.maps==(Tryz.f3.params.toList++(Rows.OpenSpec.upto Rows.moduleBackSpec).bare.plain.varTypes Tryz.pinned.checked.prog).any (Tryz.pinned.checked.prog.mapsRec ·)))=true:=by kernel_rfl
theorem O3:((Rows.moduleBackUptoRow.ifaces==(Tryz.f3.params.toList++(Rows.OpenSpec.upto Rows.moduleBackSpec).bare.plain.varTypes Tryz.pinned.checked.prog).any (Tryz.pinned.checked.prog.ifacesRec ·)))=true:=by kernel_rfl
theorem Pq:((Rows.moduleBackUptoRow.mapsOut==Tryz.pinned.checked.prog.mapsAmong Tryz.f3.resultTypes.toList))=true:=by kernel_rfl
theorem Mr:((Rows.moduleBackUptoRow.loops==(Tryz.f3.params.toList++(Rows.OpenSpec.upto Rows.moduleBackSpec).bare.plain.varTypes Tryz.pinned.checked.prog).any (Tryz.pinned.checked.prog.loopsFrom ·)))=true:=by kernel_rfl
theorem OS:((Rows.moduleBackUptoRow.wideKeys==(Tryz.f3.params.toList++(Rows.OpenSpec.upto Rows.moduleBackSpec).bare.plain.varTypes Tryz.pinned.checked.prog++Tryz.f3.resultTypes.toList).any (Tryz.pinned.checked.prog.wideKeysFrom ·)))=true:=by kernel_rfl
theorem NS:((Rows.OpenSpec.upto Rows.moduleBackSpec).bare.vars.all (Tryz.pinned.checked.prog.varReadable ·))=true:=by kernel_rfl
theorem L3:(Tryz.f3.resultTypes.all (fun t=>Tryz.pinned.checked.prog.readableRec t&&decide (t<Tryz.pinned.checked.prog.types.size)))=true:=by kernel_rfl
theorem Ow:((Rows.moduleBackUptoRow.ifacesOut==Tryz.f3.resultTypes.toList.any (Tryz.pinned.checked.prog.ifacesRec ·)))=true:=by kernel_rfl
theorem NF:((Rows.moduleBackUptoRow.loopsOut==Tryz.f3.resultTypes.toList.any (Tryz.pinned.checked.prog.loopsFrom ·)))=true:=by kernel_rfl
theorem Mb:(Rows.moduleBackUptoRow.shortTexts.isNone)=true:=by kernel_rfl
theorem Ln:((Rows.moduleBackUptoRow.lifted==Tryz.pinned.checked.prog.liftsFinal))=true:=by kernel_rfl
theorem Mx:((Tryz.pinned.checked.prog.make==some Rows.moduleBackUptoRow.make))=true:=by kernel_rfl
theorem Ml:((Rows.moduleBackUptoRow.kinds==(if Rows.moduleBackUptoRow.domain.isEmpty then []else Tryz.f3.params.toList.map fun t=>match Tryz.pinned.checked.prog.underlying t with|some (.int k)=>some k| _=>none)))=true:=by kernel_rfl
theorem MO:((Rows.moduleBackUptoRow.pinned==Rows.moduleBackUptoRow.pinnedBy))=true:=by kernel_rfl
theorem Nw:((Rows.moduleBackUptoRow.veiled==(Tryz.f3.params.toList++(Rows.OpenSpec.upto Rows.moduleBackSpec).bare.plain.varTypes Tryz.pinned.checked.prog++Tryz.f3.resultTypes.toList).any (Tryz.pinned.checked.prog.veiledRec ·)))=true:=by kernel_rfl
theorem Ps:(Rows.moduleBackUptoRow.veiledFits Tryz.pinned.checked.prog Tryz.f3.params.toList (Tryz.f3.params.toList++(Rows.OpenSpec.upto Rows.moduleBackSpec).bare.plain.varTypes Tryz.pinned.checked.prog++Tryz.f3.resultTypes.toList))=true:=by kernel_rfl
end lawBk
namespace lawBk
open Go.ChangeShapes Go.WideShapes Go.ChangeAt Go.RowKit Go.Proofs.YtpdlmdlkecnpgaaGreatDoor
theorem pars:Tryz.f3.params.toList= [33,34]:=by rw[Tryz.params3]
set_option maxRecDepth 100000
theorem pars_ok:∀t,t∈Tryz.f3.params.toList→Tryz.prog.readableRec t=true∧t<Tryz.prog.types.size:=by
 rw[pars]
 intro t ht
 simp only[List.mem_cons,List.not_mem_nil,or_false]at ht
 rcases ht with rfl|rfl<;>exact⟨by kernel_rfl,of_decide_eq_true (by kernel_rfl)⟩
theorem contract (H:Type) (enc:TypeId×Value→H) (W:World) (base:Nat) (args:Array Value) (ds gs:List (DataW H)) (before:List MemPlace)
 (hval:∀(j:Nat) t v,Tryz.f3.params[j]? =some t→args[j]? =some v→Value.okWide Tryz.prog W .any base t v)
 (hW:DataW.Whole enc Tryz.prog Tryz.f3.params.toList Rows.moduleBackSpec.vars false W args.toList ds gs before) (hk:Rows.uptoSmall H (ds++gs)=true) (hL:laidMetH Tryz.prog Rows.moduleBackUptoRow.laid W):
 Calls Tryz.prog 3 args W fun e W'=>∃v,e= .returned v∧Rows.moduleBackSpec.post enc Tryz.prog Tryz.f3 false true false false W args v W':=by
 have hW':=hW
 obtain⟨p,q,hA0,hV,rfl,hfz,hnd⟩:=hW
 have hA:DataW.TrodAll enc Tryz.prog W 0 (fun _=>true) true Tryz.f3.params.toList args.toList ds p:=hA0
 rw[Tryz.params3]at hA hval
 obtain⟨v0,v1,d0,d1,p0,p1,rfl,rfl,rfl,h0,h1⟩:=trodAll_two hA
 obtain⟨c0,e0,_⟩:=okWide_struct Tryz.underlying33 (hval 0 33 v0 rfl rfl)
 subst e0
 obtain⟨fuel0,hf0⟩:=h0
 obtain⟨m0,M0,Q0,W0⟩:=GA _ _ _ hf0
 have M0:cI c0.toList m0 W:=M0
 have W0:ip m0≤Rows.uptoBulk d0:=W0
 obtain⟨a1,n1,c1,e1⟩:=okWide_slice Tryz.underlying34 (hval 1 34 v1 rfl rfl)
 subst e1
 obtain⟨fuel1,hf1⟩:=h1
 obtain⟨u1,l1,x1,s1⟩:=Hg hf1
 obtain rfl:=List.singleton_inj.1 x1
 have gl:=ui hL
 have hb:=of_decide_eq_true hk
 simp only[List.cons_append,List.nil_append,Rows.uptoBulkAll]at hb
 refine(Cj gl (c:=c0.toList) M0 Q0 (by omega) s1).mono fun e W' ⟨he,hg⟩=> ?_
 subst he
 exact⟨_,rfl,BO hW' rfl (by kernel_rfl) pars_ok rfl hg⟩
theorem laid_met (os:Os):laidMet Tryz.prog Rows.moduleBackUptoRow.laid ((jH os).forCall (fun _ _=>0) ⟨#[],#[.agg #[.slice none 0 0,.slice none 0 0,.slice none 0 0,.slice none 0 0,.slice none 0 0,.slice none 0 0,.slice none 0 0,.slice none 0 0,.int .i64 0,.slice none 0 0,.slice none 0 0],.slice none 0 0],[]⟩).memory:=
 laidMet_of_run' 8 (by kernel_rfl) (by kernel_rfl)
theorem reads (os:Os) {H:Type} (enc:TypeId×Value→H):∃places,DataW.whole enc Tryz.prog ((jH os).forCall (fun _ _=>0) ⟨#[],#[.agg #[.slice none 0 0,.slice none 0 0,.slice none 0 0,.slice none 0 0,.slice none 0 0,.slice none 0 0,.slice none 0 0,.slice none 0 0,.int .i64 0,.slice none 0 0,.slice none 0 0],.slice none 0 0],[]⟩).memory Tryz.f3.params.toList Rows.moduleBackSpec.vars false #[Value.agg #[.slice none 0 0,.slice none 0 0,.slice none 0 0,.slice none 0 0,.slice none 0 0,.slice none 0 0,.slice none 0 0,.slice none 0 0,.int .i64 0,.slice none 0 0,.slice none 0 0],Value.slice none 0 0].toList 8=some ([.agg [.nil,.nil,.nil,.nil,.nil,.nil,.nil,.nil,.lit (.int .i64 0),.nil,.nil],.nil],[],places):=
 ⟨[],by kernel_rfl⟩
theorem lifted (os:Os) (started:os.Started) (H:Type) (enc:TypeId×Value→H) (F:Stop.Interp):
 ReturnsInHanded {} Tryz.checked os 3 .any ((Rows.OpenSpec.upto Rows.moduleBackSpec).preRow enc Tryz.prog Tryz.f3 Rows.moduleBackUptoRow.domain false Rows.moduleBackUptoRow.laid) (((Rows.OpenSpec.upto Rows.moduleBackSpec).at F).post enc Tryz.prog Tryz.f3 false true false false):=by
 obtain⟨places,hx⟩:=reads os enc
 refine returnsInHanded_of_row (C:=Tryz.checked) (s:=(Rows.OpenSpec.upto Rows.moduleBackSpec)) own started (by kernel_rfl) Tryz.func3
  (witness_row_at (enc:=enc) (C:=Tryz.checked) false (jH os) #[.agg #[.slice none 0 0,.slice none 0 0,.slice none 0 0,.slice none 0 0,.slice none 0 0,.slice none 0 0,.slice none 0 0,.slice none 0 0,.int .i64 0,.slice none 0 0,.slice none 0 0],.slice none 0 0] rfl (by kernel_rfl) (by kernel_rfl) (by kernel_rfl)
   (OpenSpec.preRow_of_cond 8 hx (by kernel_rfl) (fun k hk=>by cases hk;kernel_rfl) (by kernel_rfl) (laid_met os))) ?_
 exact Vk
theorem said_named:Tryz.pinned.checked.prog.funcNamed Rows.moduleBackUptoRow.func=some 3:=by kernel_rfl
theorem said_facts:joinedFacts Tryz.pinned.checked.prog 3 Tryz.f3 (Rows.OpenSpec.upto Rows.moduleBackSpec).bare Rows.moduleBackUptoRow=true:=by
 exact XB
theorem said_inst:Tryz.f3.isInstance Tryz.pinned.checked.prog Rows.moduleBackUptoRow.origin Rows.moduleBackUptoRow.targs:=of_decide_eq_true (by kernel_rfl)
theorem said_wrap:Tryz.f3.isWrapper Tryz.pinned.checked.prog Rows.moduleBackUptoRow.wrapper Rows.moduleBackUptoRow.mainSum:=by unfold Func.isWrapper;first|(rw[if_pos (by decide+kernel)];kernel_rfl)|(rw[if_neg (by decide+kernel)];exact⟨rfl,rfl⟩)
theorem said:Rows.ModuleBackUptoSaid:=
 OpenClaim.holds_of_cond 3 Tryz.f3 rfl rfl rfl rfl rfl rfl rfl ⟨rfl,rfl,rfl,rfl,rfl⟩ rfl rfl rfl rfl rfl said_named Tryz.func3 said_facts
  said_inst said_wrap
  (fun os started H enc _ F=>by rw[OpenClaim.pre_eq_preRow];exact lifted os started H enc F)
theorem plain (f:FuncId) (fn:Func) (hf:Tryz.pinned.checked.prog.funcNamed "geode/geodelaw08.ModuleBack" =some f) (hfn:Tryz.pinned.checked.prog.funcs[f]? =some fn):
 false=Tryz.pinned.checked.prog.looks []∧∀(j:Nat) t,fn.params[j]? =some t→Tryz.pinned.checked.prog.wantsStandIn t=false:=by
 obtain rfl:f=3:=Option.some.inj ((show Tryz.prog.funcNamed "geode/geodelaw08.ModuleBack" =some 3 by kernel_rfl).symm.trans hf)|>.symm
 obtain rfl:fn=Tryz.f3:=(Option.some.inj (Tryz.func3.symm.trans hfn)).symm
 refine⟨by kernel_rfl,fun j t ht=> ?_⟩
 rw[Tryz.params3]at ht
 have hm:=Array.mem_of_getElem? ht
 simp only[List.mem_toArray,List.mem_cons,List.not_mem_nil,or_false]at hm
 rcases hm with rfl|rfl
 ·exact(show Tryz.prog.wantsStandIn 33=false by kernel_rfl)
 ·exact(show Tryz.prog.wantsStandIn 34=false by kernel_rfl)
theorem card:Rows.ModuleBackUptoCardSaid:=
 Claim7.holds_tied_plain_at .later [] _ _ _ _ said (fun _ h=>by cases h) (by kernel_rfl) (fun _ h=>by cases h) moduleBackUpto_row_tie rfl ⟨rfl,rfl⟩ (by kernel_rfl) rfl plain (by kernel_rfl)
end lawBk
theorem moduleBackUpto_card:Rows.ModuleBackUptoCardSaid:=lawBk.card
#print axioms moduleBackUpto_card
end Go.Proofs.YtpdlmdlkecnpgaaGreatDoor
