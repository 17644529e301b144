/- Texts: IbPutS. -/
import Derived.Test.YtpdlmdlkecnpgaaGreatDoorH0
import Derived.Test.YtpdlmdlkecnpgaaGreatDoorH25
set_option linter.unusedSimpArgs false
set_option linter.unusedVariables false
namespace Go.Proofs.YtpdlmdlkecnpgaaGreatDoor
open Go.RowKit
set_option maxRecDepth 100000
set_option maxHeartbeats 6400000
theorem KC {w0 w:World} {G:List bt} {v:Value} {xs:List UInt8} (hS:St [] w0 w (.own 5 1 (v) (xs).length ((xs).map B)::G)) (hg:cq [] w0) (o x y:Int) (u:Nat) (hk hn jk jn:Int) (n1 n2:Bool) (ts:List aF) (ls:List Int) (bk vk:Int) (vn:Bool) (wk wn bn:Int) (cs:List cQ) (tv lv cv:Value) (hR:gR [] w0 (⟨o,x,y,u,⟨hk,hn⟩,⟨jk,jn⟩,n1,n2,ts,ls,⟨bk,⟨vk,vn,⟨wk,wn⟩⟩,bn⟩,cs⟩:aa) tv lv cv) (hx:xs.length≤17592186044416) (hm:dx (⟨o,x,y,u,⟨hk,hn⟩,⟨jk,jn⟩,n1,n2,ts,ls,⟨bk,⟨vk,vn,⟨wk,wn⟩⟩,bn⟩,cs⟩:aa)=true) (hl1:ts.length≤1048576) (hl2:ls.length≤1048576) (hl3:cs.length≤1048576) (hu:u<18446744073709551616) (hsh:ag o=10):
 Calls Tryz.prog 193 #[v,.agg (cp (⟨o,x,y,u,⟨hk,hn⟩,⟨jk,jn⟩,n1,n2,ts,ls,⟨bk,⟨vk,vn,⟨wk,wn⟩⟩,bn⟩,cs⟩:aa) tv lv cv).toArray] w fun e w'=>∃v',e= .returned v'∧St [] w0 w' (.own 5 1 (v') (xs++aW (⟨o,x,y,u,⟨hk,hn⟩,⟨jk,jn⟩,n1,n2,ts,ls,⟨bk,⟨vk,vn,⟨wk,wn⟩⟩,bn⟩,cs⟩:aa)).length ((xs++aW (⟨o,x,y,u,⟨hk,hn⟩,⟨jk,jn⟩,n1,n2,ts,ls,⟨bk,⟨vk,vn,⟨wk,wn⟩⟩,bn⟩,cs⟩:aa)).map B)::G):=by
 have hb:=ed (cU hm)
 have ho1: -9223372036854775808≤o:=by have:=hb.1;dsimp only at this;omega
 have ho2:o<9223372036854775808:=by have:=hb.1;have:=hb.2.1;dsimp only at this;omega
 obtain⟨tS,lS,cS⟩:=hR
 obtain⟨ta,tc,rfl⟩:=tS.shape
 obtain⟨la,lc,rfl⟩:=lS.shape
 obtain⟨ca,cc,rfl⟩:=cS.shape
 dsimp only at tS lS cS
 have e0:xs++aW (⟨o,x,y,u,⟨hk,hn⟩,⟨jk,jn⟩,n1,n2,ts,ls,⟨bk,⟨vk,vn,⟨wk,wn⟩⟩,bn⟩,cs⟩:aa)=xs++eN (fC u):=by rw[zB (by exact hsh)]
 have E0:=Lib.hid e0
 clear e0
 generalize xs++aW (⟨o,x,y,u,⟨hk,hn⟩,⟨jk,jn⟩,n1,n2,ts,ls,⟨bk,⟨vk,vn,⟨wk,wn⟩⟩,bn⟩,cs⟩:aa)=Y at E0⊢
 obtain⟨t1,t2,_⟩:=wx hu
 have lX:=i8 (fC u) (by omega) (by omega)
 have hw1:=CX hu
 have HK:=Lib.hid hsh
 clear hsh
 clear hb hm
 unfold cp
 dsimp only
 go_enter Tryz.func193,Tryz.ntmps193
 go_wp2_with first|(go_at_call 233;(with_reducible refine(dd ?_ _ ?_ ?_).mono ?_);(·apply St.gl7 (hg:=hg);(exact aw));(·omega);(·omega);rintro e w2 ⟨rfl,hF2⟩;(try clear hQ);refine cB (h:=by exact aw) hF2 fun hS hQ=> ?_;(try rw[HK.out]))|(at_builtin;(try clear hQ);refine wb (h1:=by exact aw) fun vN wN hS hQ=> ?_)|(go_at_call 243;(with_reducible refine(L0 (fC u) _ (by omega) (by omega)).mono ?_);rintro e w4 ⟨v4,rfl,s4⟩;(try clear hQ);refine qa (h:=by exact aw) s4 fun hS hQ=> ?_)
 exact wy
theorem J4 {w0 w:World} {G:List bt} {v:Value} {xs:List UInt8} (hS:St [] w0 w (.own 5 1 (v) (xs).length ((xs).map B)::G)) (hg:cq [] w0) (o x y:Int) (u:Nat) (hk hn jk jn:Int) (n1 n2:Bool) (ts:List aF) (ls:List Int) (bk vk:Int) (vn:Bool) (wk wn bn:Int) (cs:List cQ) (tv lv cv:Value) (hR:gR [] w0 (⟨o,x,y,u,⟨hk,hn⟩,⟨jk,jn⟩,n1,n2,ts,ls,⟨bk,⟨vk,vn,⟨wk,wn⟩⟩,bn⟩,cs⟩:aa) tv lv cv) (hx:xs.length≤17592186044416) (hm:dx (⟨o,x,y,u,⟨hk,hn⟩,⟨jk,jn⟩,n1,n2,ts,ls,⟨bk,⟨vk,vn,⟨wk,wn⟩⟩,bn⟩,cs⟩:aa)=true) (hl1:ts.length≤1048576) (hl2:ls.length≤1048576) (hl3:cs.length≤1048576) (hu:u<18446744073709551616) (hsh:ag o=13):
 Calls Tryz.prog 193 #[v,.agg (cp (⟨o,x,y,u,⟨hk,hn⟩,⟨jk,jn⟩,n1,n2,ts,ls,⟨bk,⟨vk,vn,⟨wk,wn⟩⟩,bn⟩,cs⟩:aa) tv lv cv).toArray] w fun e w'=>∃v',e= .returned v'∧St [] w0 w' (.own 5 1 (v') (xs++aW (⟨o,x,y,u,⟨hk,hn⟩,⟨jk,jn⟩,n1,n2,ts,ls,⟨bk,⟨vk,vn,⟨wk,wn⟩⟩,bn⟩,cs⟩:aa)).length ((xs++aW (⟨o,x,y,u,⟨hk,hn⟩,⟨jk,jn⟩,n1,n2,ts,ls,⟨bk,⟨vk,vn,⟨wk,wn⟩⟩,bn⟩,cs⟩:aa)).map B)::G):=by
 have hb:=ed (cU hm)
 have ho1: -9223372036854775808≤o:=by have:=hb.1;dsimp only at this;omega
 have ho2:o<9223372036854775808:=by have:=hb.1;have:=hb.2.1;dsimp only at this;omega
 obtain⟨tS,lS,cS⟩:=hR
 obtain⟨ta,tc,rfl⟩:=tS.shape
 obtain⟨la,lc,rfl⟩:=lS.shape
 obtain⟨ca,cc,rfl⟩:=cS.shape
 dsimp only at tS lS cS
 have e0:xs++aW (⟨o,x,y,u,⟨hk,hn⟩,⟨jk,jn⟩,n1,n2,ts,ls,⟨bk,⟨vk,vn,⟨wk,wn⟩⟩,bn⟩,cs⟩:aa)=xs++ [UInt8.ofNat (((ke n1 n2).toNat:Nat):Int).toNat]++au x++jt ⟨hk,hn⟩++jt ⟨jk,jn⟩:=by rw[AC (by exact hsh)];simp
 have E0:=Lib.hid e0
 clear e0
 generalize xs++aW (⟨o,x,y,u,⟨hk,hn⟩,⟨jk,jn⟩,n1,n2,ts,ls,⟨bk,⟨vk,vn,⟨wk,wn⟩⟩,bn⟩,cs⟩:aa)=Y at E0⊢
 have hp:=aQ hm (tt (i:=(⟨o,x,y,u,⟨hk,hn⟩,⟨jk,jn⟩,n1,n2,ts,ls,⟨bk,⟨vk,vn,⟨wk,wn⟩⟩,bn⟩,cs⟩:aa)) hsh)
 have hp1:=hp.1
 simp only[Bool.and_eq_true,bz]at hp1
 obtain⟨⟨hX,k1⟩,k2⟩:=hp1
 have k1:aj ⟨3,false,⟨hk,hn⟩⟩=true:=k1
 have k2:aj ⟨3,false,⟨jk,jn⟩⟩=true:=k2
 have ok1:=db k1
 have ok2:=db k2
 have lX:=az x (by omega)
 have l1:(jt ⟨hk,hn⟩).length≤12:=by rw[ng k1];exact mT _ ok1.2.1 ok1.2.2
 have l2:(jt ⟨jk,jn⟩).length≤12:=by rw[ng k2];exact mT _ ok2.2.1 ok2.2.2
 have ln:(ke n1 n2).toNat<256:=(ke n1 n2).toNat_lt
 have HK:=Lib.hid hsh
 clear hsh hp k1 k2
 clear hb hm
 unfold cp
 dsimp only
 go_enter Tryz.func193,Tryz.ntmps193
 go_wp2_with first|(go_at_call 233;(with_reducible refine(dd ?_ _ ?_ ?_).mono ?_);(·apply St.gl7 (hg:=hg);(exact aw));(·omega);(·omega);rintro e w2 ⟨rfl,hF2⟩;(try clear hQ);refine cB (h:=by exact aw) hF2 fun hS hQ=> ?_;(try rw[HK.out]))
 have hbox:bB _ w.heap.size [.int .i64 o,.int .i64 x,.int .i64 y,.int .u64 (u:Int),.int .i64 hk,.int .i64 hn,.int .i64 jk,.int .i64 jn,.bool n1,.bool n2,.slice ta ts.length tc,.slice la ls.length lc,.int .i64 bk,.int .i64 vk,.bool vn,.int .i64 wk,.int .i64 wn,.int .i64 bn,.slice ca cs.length cc] 177:=hS.loc .here
 refine wp_region_held_drew (S:=fun w'=>w'.rangeAt w.heap.size 0 [.int .i64 o,.int .i64 x,.int .i64 y,.int .u64 (u:Int),.int .i64 hk,.int .i64 hn,.int .i64 jk,.int .i64 jn,.bool n1,.bool n2,.slice ta ts.length tc,.slice la ls.length lc,.int .i64 bk,.int .i64 vk,.bool vn,.int .i64 wk,.int .i64 wn,.int .i64 bn,.slice ca cs.length cc]) (by kernel_rfl) (bB.range (bB.drew hbox)) (fun hr=> ?_)
 have hS:=hS.drew
 refine wpAnyH_take (i:=0) (v:=v) rfl (by kernel_rfl) (by kernel_rfl) (by kernel_rfl) (fun _ _ _ h=>h) (Or.inl ⟨by rfl,fun _ _=>by go_simp⟩) hr ?_
 simp only[Act.put,List.getElem_toArray,List.getElem_cons_succ,List.getElem_cons_zero,List.setIfInBounds_toArray,List.set_cons_zero,List.set_cons_succ]
 refine wpAnyH_take (i:=1) (v:= .agg (List.toArray [.int .i64 o,.int .i64 x,.int .i64 y,.int .u64 (u:Int),.int .i64 hk,.int .i64 hn,.int .i64 jk,.int .i64 jn,.bool n1,.bool n2,.slice ta ts.length tc,.slice la ls.length lc,.int .i64 bk,.int .i64 vk,.bool vn,.int .i64 wk,.int .i64 wn,.int .i64 bn,.slice ca cs.length cc])) rfl (by kernel_rfl) (by kernel_rfl) (by kernel_rfl) (fun _ _ _ h=>h) (yieldsIf_load_mid rfl 177 _ rfl w.heap.size 0 rfl [.int .i64 o,.int .i64 x,.int .i64 y,.int .u64 (u:Int),.int .i64 hk,.int .i64 hn,.int .i64 jk,.int .i64 jn,.bool n1,.bool n2,.slice ta ts.length tc,.slice la ls.length lc,.int .i64 bk,.int .i64 vk,.bool vn,.int .i64 wk,.int .i64 wn,.int .i64 bn,.slice ca cs.length cc] _ (fun _ h=>h) eB rfl ff) hr ?_
 simp only[Act.put,List.getElem_toArray,List.getElem_cons_succ,List.getElem_cons_zero,List.setIfInBounds_toArray,List.set_cons_zero,List.set_cons_succ]
 refine wpAnyH_take (i:=5) (v:= .pointer (some ⟨w.heap.size,1,none⟩)) rfl (by kernel_rfl) (by kernel_rfl) (by kernel_rfl) (fun _ _ _ h=>h) (Or.inl ⟨by rfl,fun _ _=>by go_simp⟩) hr ?_
 simp only[Act.put,List.getElem_toArray,List.getElem_cons_succ,List.getElem_cons_zero,List.setIfInBounds_toArray,List.set_cons_zero,List.set_cons_succ]
 refine wpAnyH_take (i:=6) (v:= .int .i64 x) rfl (by kernel_rfl) (by kernel_rfl) (by kernel_rfl) (fun _ _ _ h=>h) (Or.inl ⟨by rfl,fun w' hw'=>by
  have hc:w'.cell? ⟨w.heap.size,1,none⟩=some (.int .i64 x):=hw' 1 _ rfl
  go_simp⟩) hr ?_
 simp only[Act.put,List.getElem_toArray,List.getElem_cons_succ,List.getElem_cons_zero,List.setIfInBounds_toArray,List.set_cons_zero,List.set_cons_succ]
 refine wpAnyH_ready (rs:= [2]) (by kernel_rfl) (by simp) ?_
 refine AllReadyH.cons rfl (fun K hK=> ?_) AllReadyH.nil
 rw[if_pos (by rfl)]
 go_simp
 refine(Jo _ (⟨o,x,y,u,⟨hk,hn⟩,⟨jk,jn⟩,n1,n2,ts,ls,⟨bk,⟨vk,vn,⟨wk,wn⟩⟩,bn⟩,cs⟩:aa) (.slice ta ts.length tc) (.slice la ls.length lc) (.slice ca cs.length cc) rfl rfl rfl).mono ?_
 rintro e w4 ⟨rfl,hF4⟩
 have hS:=hS.step0 hF4
 refine hK.out _ _ (by exact bB.range (hS.loc (by exact aK))) (fun hr=> ?_)
 clear hK K
 refine wpAnyH_ready (rs:= [3]) (by kernel_rfl) (by simp) ?_
 refine AllReadyH.cons rfl (fun K hK=> ?_) AllReadyH.nil
 rw[if_pos (by rfl)]
 go_simp
 have hS:=hS.alloc [.int .u8 ((ke n1 n2).toNat:Nat)] 5
 refine hK.out _ _ (by exact bB.range (hS.loc (by exact aK))) (fun hr=> ?_)
 clear hK K
 refine wpAnyH_ready (rs:= [4]) (by kernel_rfl) (by simp) ?_
 refine AllReadyH.cons rfl (fun K hK=> ?_) AllReadyH.nil
 ((try clear hQ);refine JK fun vN wN hS hQ=> ?_)
 refine hK.out _ _ (by exact bB.range (hS.loc (by exact aK))) (fun hr=> ?_)
 clear hK K
 refine wpAnyH_ready (rs:= [7]) (by kernel_rfl) (by simp) ?_
 refine AllReadyH.cons rfl (fun K hK=> ?_) AllReadyH.nil
 rw[if_pos (by rfl)]
 go_simp
 refine mE ?_;refine zy ?_;intro vN wN hS;(try clear hQ);have hQ:=St.fq hS
 refine hK.out _ _ (by exact bB.range (hS.loc (by exact aK))) (fun hr=> ?_)
 clear hK K
 refine wpAnyH_take (i:=8) (v:=vN) rfl (by kernel_rfl) (by kernel_rfl) (by kernel_rfl) (fun _ _ _ h=>h) (Or.inl ⟨by rfl,fun _ _=>by go_simp⟩) hr ?_
 refine wpAnyH_done (by kernel_rfl) ?_ _
 clear hr hbox
 simp only[Act.put,List.getElem_toArray,List.getElem_cons_succ,List.getElem_cons_zero,List.setIfInBounds_toArray,List.set_cons_zero,List.set_cons_succ]
 (try clear hQ);have hQ:=St.fq hS
 go_wp2_with first|(at_builtin;(try clear hQ);refine wb (h1:=by exact aw) fun vN wN hS hQ=> ?_)|(go_at_call 245;(with_reducible refine(tl (⟨hk,hn⟩:aC) ?_ ok1).mono ?_);(·apply St.gl (hs:=hg.gl);(exact aw));rintro e w4 ⟨v4,rfl,s4⟩;(try clear hQ);refine qa (h:=by exact aw) s4 fun hS hQ=> ?_)|(go_at_call 245;(with_reducible refine(tl (⟨jk,jn⟩:aC) ?_ ok2).mono ?_);(·apply St.gl (hs:=hg.gl);(exact aw));rintro e w4 ⟨v4,rfl,s4⟩;(try clear hQ);refine qa (h:=by exact aw) s4 fun hS hQ=> ?_)
 exact wy
theorem KM {w0 w:World} {G:List bt} {v:Value} {xs:List UInt8} (hS:St [] w0 w (.own 5 1 (v) (xs).length ((xs).map B)::G)) (hg:cq [] w0) (o x y:Int) (u:Nat) (hk hn jk jn:Int) (n1 n2:Bool) (ts:List aF) (ls:List Int) (bk vk:Int) (vn:Bool) (wk wn bn:Int) (cs:List cQ) (tv lv cv:Value) (hR:gR [] w0 (⟨o,x,y,u,⟨hk,hn⟩,⟨jk,jn⟩,n1,n2,ts,ls,⟨bk,⟨vk,vn,⟨wk,wn⟩⟩,bn⟩,cs⟩:aa) tv lv cv) (hx:xs.length≤17592186044416) (hm:dx (⟨o,x,y,u,⟨hk,hn⟩,⟨jk,jn⟩,n1,n2,ts,ls,⟨bk,⟨vk,vn,⟨wk,wn⟩⟩,bn⟩,cs⟩:aa)=true) (hl1:ts.length≤1048576) (hl2:ls.length≤1048576) (hl3:cs.length≤1048576) (hu:u<18446744073709551616) (hsh:ag o=11):
 Calls Tryz.prog 193 #[v,.agg (cp (⟨o,x,y,u,⟨hk,hn⟩,⟨jk,jn⟩,n1,n2,ts,ls,⟨bk,⟨vk,vn,⟨wk,wn⟩⟩,bn⟩,cs⟩:aa) tv lv cv).toArray] w fun e w'=>∃v',e= .returned v'∧St [] w0 w' (.own 5 1 (v') (xs++aW (⟨o,x,y,u,⟨hk,hn⟩,⟨jk,jn⟩,n1,n2,ts,ls,⟨bk,⟨vk,vn,⟨wk,wn⟩⟩,bn⟩,cs⟩:aa)).length ((xs++aW (⟨o,x,y,u,⟨hk,hn⟩,⟨jk,jn⟩,n1,n2,ts,ls,⟨bk,⟨vk,vn,⟨wk,wn⟩⟩,bn⟩,cs⟩:aa)).map B)::G):=by
 have hb:=ed (cU hm)
 have ho1: -9223372036854775808≤o:=by have:=hb.1;dsimp only at this;omega
 have ho2:o<9223372036854775808:=by have:=hb.1;have:=hb.2.1;dsimp only at this;omega
 obtain⟨tS,lS,cS⟩:=hR
 obtain⟨ta,tc,rfl⟩:=tS.shape
 obtain⟨la,lc,rfl⟩:=lS.shape
 obtain⟨ca,cc,rfl⟩:=cS.shape
 dsimp only at tS lS cS
 have e0:xs++aW (⟨o,x,y,u,⟨hk,hn⟩,⟨jk,jn⟩,n1,n2,ts,ls,⟨bk,⟨vk,vn,⟨wk,wn⟩⟩,bn⟩,cs⟩:aa)=xs++jt ⟨hk,hn⟩:=by rw[A1 (by exact hsh)]
 have E0:=Lib.hid e0
 clear e0
 generalize xs++aW (⟨o,x,y,u,⟨hk,hn⟩,⟨jk,jn⟩,n1,n2,ts,ls,⟨bk,⟨vk,vn,⟨wk,wn⟩⟩,bn⟩,cs⟩:aa)=Y at E0⊢
 have hp:=aQ hm (tj (i:=(⟨o,x,y,u,⟨hk,hn⟩,⟨jk,jn⟩,n1,n2,ts,ls,⟨bk,⟨vk,vn,⟨wk,wn⟩⟩,bn⟩,cs⟩:aa)) hsh)
 have hp1:aj ⟨3,false,⟨hk,hn⟩⟩=true:=hp.1
 have hok:=db hp1
 have lX:(jt ⟨hk,hn⟩).length≤12:=by rw[ng hp1];exact mT _ hok.2.1 hok.2.2
 have HK:=Lib.hid hsh
 clear hsh hp hp1
 clear hb hm
 unfold cp
 dsimp only
 go_enter Tryz.func193,Tryz.ntmps193
 go_wp2_with first|(go_at_call 233;(with_reducible refine(dd ?_ _ ?_ ?_).mono ?_);(·apply St.gl7 (hg:=hg);(exact aw));(·omega);(·omega);rintro e w2 ⟨rfl,hF2⟩;(try clear hQ);refine cB (h:=by exact aw) hF2 fun hS hQ=> ?_;(try rw[HK.out]))|(at_builtin;(try clear hQ);refine wb (h1:=by exact aw) fun vN wN hS hQ=> ?_)|(go_at_call 245;(with_reducible refine(tl (⟨hk,hn⟩:aC) ?_ hok).mono ?_);(·apply St.gl (hs:=hg.gl);(exact aw));rintro e w4 ⟨v4,rfl,s4⟩;(try clear hQ);refine qa (h:=by exact aw) s4 fun hS hQ=> ?_)
 exact wy
theorem Jh {w0 w:World} {G:List bt} {v:Value} {xs:List UInt8} (hS:St [] w0 w (.own 5 1 (v) (xs).length ((xs).map B)::G)) (hg:cq [] w0) (o x y:Int) (u:Nat) (hk hn jk jn:Int) (n1 n2:Bool) (ts:List aF) (ls:List Int) (bk vk:Int) (vn:Bool) (wk wn bn:Int) (cs:List cQ) (tv lv cv:Value) (hR:gR [] w0 (⟨o,x,y,u,⟨hk,hn⟩,⟨jk,jn⟩,n1,n2,ts,ls,⟨bk,⟨vk,vn,⟨wk,wn⟩⟩,bn⟩,cs⟩:aa) tv lv cv) (hx:xs.length≤17592186044416) (hm:dx (⟨o,x,y,u,⟨hk,hn⟩,⟨jk,jn⟩,n1,n2,ts,ls,⟨bk,⟨vk,vn,⟨wk,wn⟩⟩,bn⟩,cs⟩:aa)=true) (hl1:ts.length≤1048576) (hl2:ls.length≤1048576) (hl3:cs.length≤1048576) (hu:u<18446744073709551616) (hsh:ag o=12):
 Calls Tryz.prog 193 #[v,.agg (cp (⟨o,x,y,u,⟨hk,hn⟩,⟨jk,jn⟩,n1,n2,ts,ls,⟨bk,⟨vk,vn,⟨wk,wn⟩⟩,bn⟩,cs⟩:aa) tv lv cv).toArray] w fun e w'=>∃v',e= .returned v'∧St [] w0 w' (.own 5 1 (v') (xs++aW (⟨o,x,y,u,⟨hk,hn⟩,⟨jk,jn⟩,n1,n2,ts,ls,⟨bk,⟨vk,vn,⟨wk,wn⟩⟩,bn⟩,cs⟩:aa)).length ((xs++aW (⟨o,x,y,u,⟨hk,hn⟩,⟨jk,jn⟩,n1,n2,ts,ls,⟨bk,⟨vk,vn,⟨wk,wn⟩⟩,bn⟩,cs⟩:aa)).map B)::G):=by
 have hb:=ed (cU hm)
 have ho1: -9223372036854775808≤o:=by have:=hb.1;dsimp only at this;omega
 have ho2:o<9223372036854775808:=by have:=hb.1;have:=hb.2.1;dsimp only at this;omega
 obtain⟨tS,lS,cS⟩:=hR
 obtain⟨ta,tc,rfl⟩:=tS.shape
 obtain⟨la,lc,rfl⟩:=lS.shape
 obtain⟨ca,cc,rfl⟩:=cS.shape
 dsimp only at tS lS cS
 have e0:xs++aW (⟨o,x,y,u,⟨hk,hn⟩,⟨jk,jn⟩,n1,n2,ts,ls,⟨bk,⟨vk,vn,⟨wk,wn⟩⟩,bn⟩,cs⟩:aa)=xs++oj ts:=by rw[xu (by exact hsh)]
 have E0:=Lib.hid e0
 clear e0
 generalize xs++aW (⟨o,x,y,u,⟨hk,hn⟩,⟨jk,jn⟩,n1,n2,ts,ls,⟨bk,⟨vk,vn,⟨wk,wn⟩⟩,bn⟩,cs⟩:aa)=Y at E0⊢
 have hp:=aQ hm (qU (i:=(⟨o,x,y,u,⟨hk,hn⟩,⟨jk,jn⟩,n1,n2,ts,ls,⟨bk,⟨vk,vn,⟨wk,wn⟩⟩,bn⟩,cs⟩:aa)) hsh)
 have hp1:ts.all aj=true:=hp.1
 have Hok:Hid (∀t,t∈ts→t.heap.ok):=Lib.hid fun t ht=>db (List.all_eq_true.1 hp1 t ht)
 have hln:ts.length≤1048576:=by omega
 have lX:=zh ts Hok.out hl1
 have HK:=Lib.hid hsh
 clear hsh hp hp1
 clear hb hm
 unfold cp
 dsimp only
 go_enter Tryz.func193,Tryz.ntmps193
 go_wp2_with first|(go_at_call 233;(with_reducible refine(dd ?_ _ ?_ ?_).mono ?_);(·apply St.gl7 (hg:=hg);(exact aw));(·omega);(·omega);rintro e w2 ⟨rfl,hF2⟩;(try clear hQ);refine cB (h:=by exact aw) hF2 fun hS hQ=> ?_;(try rw[HK.out]))|(at_builtin;(try clear hQ);refine wb (h1:=by exact aw) fun vN wN hS hQ=> ?_)|(go_at_call 246;(with_reducible refine(CO ?_ _ ts ?_ Hok.out hln).mono ?_);(·apply St.gl (hs:=hg.gl);(exact aw));(·(apply St.sl (hs:=tS);(exact aw)));rintro e w4 ⟨v4,rfl,s4⟩;(try clear hQ);refine qa (h:=by exact aw) s4 fun hS hQ=> ?_)
 exact wy
theorem LS {w0 w:World} {G:List bt} {v:Value} {xs:List UInt8} (hS:St [] w0 w (.own 5 1 (v) (xs).length ((xs).map B)::G)) (hg:cq [] w0) (o x y:Int) (u:Nat) (hk hn jk jn:Int) (n1 n2:Bool) (ts:List aF) (ls:List Int) (bk vk:Int) (vn:Bool) (wk wn bn:Int) (cs:List cQ) (tv lv cv:Value) (hR:gR [] w0 (⟨o,x,y,u,⟨hk,hn⟩,⟨jk,jn⟩,n1,n2,ts,ls,⟨bk,⟨vk,vn,⟨wk,wn⟩⟩,bn⟩,cs⟩:aa) tv lv cv) (hx:xs.length≤17592186044416) (hm:dx (⟨o,x,y,u,⟨hk,hn⟩,⟨jk,jn⟩,n1,n2,ts,ls,⟨bk,⟨vk,vn,⟨wk,wn⟩⟩,bn⟩,cs⟩:aa)=true) (hl1:ts.length≤1048576) (hl2:ls.length≤1048576) (hl3:cs.length≤1048576) (hu:u<18446744073709551616) (hsh:ag o=2):
 Calls Tryz.prog 193 #[v,.agg (cp (⟨o,x,y,u,⟨hk,hn⟩,⟨jk,jn⟩,n1,n2,ts,ls,⟨bk,⟨vk,vn,⟨wk,wn⟩⟩,bn⟩,cs⟩:aa) tv lv cv).toArray] w fun e w'=>∃v',e= .returned v'∧St [] w0 w' (.own 5 1 (v') (xs++aW (⟨o,x,y,u,⟨hk,hn⟩,⟨jk,jn⟩,n1,n2,ts,ls,⟨bk,⟨vk,vn,⟨wk,wn⟩⟩,bn⟩,cs⟩:aa)).length ((xs++aW (⟨o,x,y,u,⟨hk,hn⟩,⟨jk,jn⟩,n1,n2,ts,ls,⟨bk,⟨vk,vn,⟨wk,wn⟩⟩,bn⟩,cs⟩:aa)).map B)::G):=by
 have hb:=ed (cU hm)
 have ho1: -9223372036854775808≤o:=by have:=hb.1;dsimp only at this;omega
 have ho2:o<9223372036854775808:=by have:=hb.1;have:=hb.2.1;dsimp only at this;omega
 obtain⟨tS,lS,cS⟩:=hR
 obtain⟨ta,tc,rfl⟩:=tS.shape
 obtain⟨la,lc,rfl⟩:=lS.shape
 obtain⟨ca,cc,rfl⟩:=cS.shape
 dsimp only at tS lS cS
 have e0:xs++aW (⟨o,x,y,u,⟨hk,hn⟩,⟨jk,jn⟩,n1,n2,ts,ls,⟨bk,⟨vk,vn,⟨wk,wn⟩⟩,bn⟩,cs⟩:aa)=xs++dp ⟨bk,⟨vk,vn,⟨wk,wn⟩⟩,bn⟩:=by rw[GK (by exact hsh)]
 have E0:=Lib.hid e0
 clear e0
 generalize xs++aW (⟨o,x,y,u,⟨hk,hn⟩,⟨jk,jn⟩,n1,n2,ts,ls,⟨bk,⟨vk,vn,⟨wk,wn⟩⟩,bn⟩,cs⟩:aa)=Y at E0⊢
 have hp:=aQ hm (yt (i:=(⟨o,x,y,u,⟨hk,hn⟩,⟨jk,jn⟩,n1,n2,ts,ls,⟨bk,⟨vk,vn,⟨wk,wn⟩⟩,bn⟩,cs⟩:aa)) hsh)
 have Hbk:Hid (cY ⟨bk,⟨vk,vn,⟨wk,wn⟩⟩,bn⟩=true):=Lib.hid hp.1
 have lX:=nY Hbk.out
 have HK:=Lib.hid hsh
 clear hsh hp
 clear hb hm
 unfold cp
 dsimp only
 go_enter Tryz.func193,Tryz.ntmps193
 go_wp2_with first|(go_at_call 233;(with_reducible refine(dd ?_ _ ?_ ?_).mono ?_);(·apply St.gl7 (hg:=hg);(exact aw));(·omega);(·omega);rintro e w2 ⟨rfl,hF2⟩;(try clear hQ);refine cB (h:=by exact aw) hF2 fun hS hQ=> ?_;(try rw[HK.out]))|(at_builtin;(try clear hQ);refine wb (h1:=by exact aw) fun vN wN hS hQ=> ?_)|(go_at_call 247;(with_reducible refine(uy ?_ ⟨bk,⟨vk,vn,⟨wk,wn⟩⟩,bn⟩ Hbk.out).mono ?_);(·apply St.gl (hs:=hg.gl);(exact aw));rintro e w4 ⟨v4,rfl,s4⟩;(try clear hQ);refine qa (h:=by exact aw) s4 fun hS hQ=> ?_)
 exact wy
theorem Nu {w0 w:World} {G:List bt} {v:Value} {xs:List UInt8} (hS:St [] w0 w (.own 5 1 (v) (xs).length ((xs).map B)::G)) (hg:cq [] w0) (o x y:Int) (u:Nat) (hk hn jk jn:Int) (n1 n2:Bool) (ts:List aF) (ls:List Int) (bk vk:Int) (vn:Bool) (wk wn bn:Int) (cs:List cQ) (tv lv cv:Value) (hR:gR [] w0 (⟨o,x,y,u,⟨hk,hn⟩,⟨jk,jn⟩,n1,n2,ts,ls,⟨bk,⟨vk,vn,⟨wk,wn⟩⟩,bn⟩,cs⟩:aa) tv lv cv) (hx:xs.length≤17592186044416) (hm:dx (⟨o,x,y,u,⟨hk,hn⟩,⟨jk,jn⟩,n1,n2,ts,ls,⟨bk,⟨vk,vn,⟨wk,wn⟩⟩,bn⟩,cs⟩:aa)=true) (hl1:ts.length≤1048576) (hl2:ls.length≤1048576) (hl3:cs.length≤1048576) (hu:u<18446744073709551616) (hsh:ag o=3):
 Calls Tryz.prog 193 #[v,.agg (cp (⟨o,x,y,u,⟨hk,hn⟩,⟨jk,jn⟩,n1,n2,ts,ls,⟨bk,⟨vk,vn,⟨wk,wn⟩⟩,bn⟩,cs⟩:aa) tv lv cv).toArray] w fun e w'=>∃v',e= .returned v'∧St [] w0 w' (.own 5 1 (v') (xs++aW (⟨o,x,y,u,⟨hk,hn⟩,⟨jk,jn⟩,n1,n2,ts,ls,⟨bk,⟨vk,vn,⟨wk,wn⟩⟩,bn⟩,cs⟩:aa)).length ((xs++aW (⟨o,x,y,u,⟨hk,hn⟩,⟨jk,jn⟩,n1,n2,ts,ls,⟨bk,⟨vk,vn,⟨wk,wn⟩⟩,bn⟩,cs⟩:aa)).map B)::G):=by
 have hb:=ed (cU hm)
 have ho1: -9223372036854775808≤o:=by have:=hb.1;dsimp only at this;omega
 have ho2:o<9223372036854775808:=by have:=hb.1;have:=hb.2.1;dsimp only at this;omega
 obtain⟨tS,lS,cS⟩:=hR
 obtain⟨ta,tc,rfl⟩:=tS.shape
 obtain⟨la,lc,rfl⟩:=lS.shape
 obtain⟨ca,cc,rfl⟩:=cS.shape
 dsimp only at tS lS cS
 have e0:xs++aW (⟨o,x,y,u,⟨hk,hn⟩,⟨jk,jn⟩,n1,n2,ts,ls,⟨bk,⟨vk,vn,⟨wk,wn⟩⟩,bn⟩,cs⟩:aa)=xs++dp ⟨bk,⟨vk,vn,⟨wk,wn⟩⟩,bn⟩++au ((cs.length:Nat):Int)++cs.flatMap dM:=by rw[CE (by exact hsh)];simp[ae,au]
 have E0:=Lib.hid e0
 clear e0
 generalize xs++aW (⟨o,x,y,u,⟨hk,hn⟩,⟨jk,jn⟩,n1,n2,ts,ls,⟨bk,⟨vk,vn,⟨wk,wn⟩⟩,bn⟩,cs⟩:aa)=Y at E0⊢
 have hp:=aQ hm (yC (i:=(⟨o,x,y,u,⟨hk,hn⟩,⟨jk,jn⟩,n1,n2,ts,ls,⟨bk,⟨vk,vn,⟨wk,wn⟩⟩,bn⟩,cs⟩:aa)) hsh)
 have hp1:=hp.1
 simp only[Bool.and_eq_true]at hp1
 obtain⟨hB,hL⟩:=hp1
 have hL:Hid (cs.all dm=true):=Lib.hid hL
 have Hbk:=Lib.hid hB
 have lX:=nY Hbk.out
 have lN:=az ((cs.length:Nat):Int) (by omega)
 have HK:=Lib.hid hsh
 clear hsh hp hB
 clear hb hm
 unfold cp
 dsimp only
 go_enter Tryz.func193,Tryz.ntmps193
 go_wp2_with first|(go_at_call 233;(with_reducible refine(dd ?_ _ ?_ ?_).mono ?_);(·apply St.gl7 (hg:=hg);(exact aw));(·omega);(·omega);rintro e w2 ⟨rfl,hF2⟩;(try clear hQ);refine cB (h:=by exact aw) hF2 fun hS hQ=> ?_;(try rw[HK.out]))
 go_region_held3 (fun w'=>w'.cell? ⟨w.heap.size,12,none⟩=some (.int .i64 bk)∧w'.cell? ⟨w.heap.size,13,none⟩=some (.int .i64 vk)∧w'.cell? ⟨w.heap.size,14,none⟩=some (.bool vn)∧w'.cell? ⟨w.heap.size,15,none⟩=some (.int .i64 wk)∧w'.cell? ⟨w.heap.size,16,none⟩=some (.int .i64 wn)∧w'.cell? ⟨w.heap.size,17,none⟩=some (.int .i64 bn)∧w'.cell? ⟨w.heap.size,18,none⟩=some (.slice ca cs.length cc))
  (first|(go_keep;done)|(simp[hQ];done)) (first|((try clear hQ);refine JK fun vN wN hS hQ=> ?_)|(go_at_call 242;(try rw[hwk]);refine mE ?_;refine zy ?_;intro vN wN hS;(try clear hQ);have hQ:=St.fq hS)|(go_at_call 247;(with_reducible refine(uy ?_ ⟨bk,⟨vk,vn,⟨wk,wn⟩⟩,bn⟩ Hbk.out).mono ?_);(·apply St.gl (hs:=hg.gl);(exact aw));rintro e w4 ⟨v4,rfl,s4⟩;(try clear hQ);refine qa (h:=by exact aw) s4 fun hS hQ=> ?_))
 go_wp2
 go_loopw [0,139] (fun v n wr=>∃(k:Nat),n= .int .i64 k∧k≤cs.length∧St [] w0 wr (.own 5 1 (v) (xs++dp ⟨bk,⟨vk,vn,⟨wk,wn⟩⟩,bn⟩++au ((cs.length:Nat):Int)++(cs.take k).flatMap dM).length ((xs++dp ⟨bk,⟨vk,vn,⟨wk,wn⟩⟩,bn⟩++au ((cs.length:Nat):Int)++(cs.take k).flatMap dM).map B):: .loc w.heap.size [.int .i64 o,.int .i64 x,.int .i64 y,.int .u64 (u:Int),.int .i64 hk,.int .i64 hn,.int .i64 jk,.int .i64 jn,.bool n1,.bool n2,.slice ta ts.length tc,.slice la ls.length lc,.int .i64 bk,.int .i64 vk,.bool vn,.int .i64 wk,.int .i64 wn,.int .i64 bn,.slice ca cs.length cc] 177::G)) (fun _ n _=>cs.length-(intOf n).toNat)
 case atStart=>
  refine⟨0,rfl,by omega,?_⟩
  rw[show xs++dp ⟨bk,⟨vk,vn,⟨wk,wn⟩⟩,bn⟩++au ((cs.length:Nat):Int)++(cs.take 0).flatMap dM=xs++dp ⟨bk,⟨vk,vn,⟨wk,wn⟩⟩,bn⟩++au ((cs.length:Nat):Int) from by simp]
  exact hS.sel (by exact ic)
 case round=>
  obtain⟨k,rfl,hk2,hS⟩:=hrel
  (try clear hQ);have hQ:=St.fq hS
  have lK:((cs.take k).flatMap dM).length≤(cs.take k).length*21:=iC _ fun n hn=>qT (List.all_eq_true.1 hL.out n (List.mem_of_mem_take hn))
  rw[List.length_take]at lK
  by_cases hlt:k<cs.length
  ·obtain⟨m,hm⟩:∃t,cs[k]? =some t:=⟨cs[k],by simp[hlt]⟩
   obtain⟨b,off,cap2,hv,hb,hnS,hc⟩:=Sl.elem cS (fun _=>rfl) k m hm
   injection hv with hv1 hv2 hv3
   subst hv1 hv3
   have hbw:b<wr.heap.size:=Nat.lt_of_lt_of_le hb hS.fr.size
   have f0:=(hS.fr.cell hb (by simp) _).trans (hc 0 (by decide))
   have f1:=(hS.fr.cell hb (by simp) _).trans (hc 1 (by decide))
   have f2:=(hS.fr.cell hb (by simp) _).trans (hc 2 (by decide))
   simp only[Nat.add_zero,←Nat.add_assoc,gZ,List.getElem?_cons_zero,List.getElem?_cons_succ]at f0 f1 f2
   have Hm2:=Lib.hid (List.all_eq_true.1 hL.out m (List.mem_of_getElem? hm))
   have lM:=qT Hm2.out
   have e:xs++dp ⟨bk,⟨vk,vn,⟨wk,wn⟩⟩,bn⟩++au ((cs.length:Nat):Int)++(cs.take (k+1)).flatMap dM=xs++dp ⟨bk,⟨vk,vn,⟨wk,wn⟩⟩,bn⟩++au ((cs.length:Nat):Int)++(cs.take k).flatMap dM++dM m:=by
    rw[List.take_add_one,hm];simp
   have E:=Lib.hid e
   clear e hm
   obtain⟨mk,mt,ml⟩:=m
   dsimp only at f0 f1 f2
   go_wp2_with first|(go_at_call 248;refine Lg (c:=⟨mk,mt,ml⟩) ?_;(repeat(apply Exists.intro));refine⟨?_,?_,?_,?_,?_⟩;(·exact aw);(·exact aK);(·exact Hm2.out);(·exact bS);intro vN wN hS;(try clear hQ);have hQ:=St.fq hS)
   exact Xx
  ·obtain rfl:k=cs.length:=by omega
   rw[List.take_length]at hS lK
   go_wp2
   go_ret
   refine⟨_,rfl,?_⟩
   rw[E0.out]
   exact hS.sel (by exact ic)
end Go.Proofs.YtpdlmdlkecnpgaaGreatDoor
