/- ShardsLoads answers true at every venue and what is asked of it. -/
import Derived.Test.YtnigceddndemkaaGreatDoorPlainC
import Derived.Test.YtnigceddndemkaaGreatDoorSLaid18
import Derived.Test.YtnigceddndemkaaGreatDoorS18LoadsF
set_option linter.unusedVariables false
namespace Go.Proofs.YtnigceddndemkaaGreatDoor
open Go Go.Eng Go.ChangeShapes Go.WideShapes Go.ChangeAt Go.RowKit
def sZ:Array Value:=#[aEY,.slice none 0 0,.slice none 0 0]
theorem K6:Rows.shardsLoadsRow.laid=Rows.shardsLoadsRow.laid:=rfl
theorem MQ(os:Os):laidMet Tryz.prog Rows.shardsLoadsRow.laid ((JK os).forCall (λ_ _=>0) ⟨#[],sZ,[]⟩).memory:=
 laidMet_of_run' 8 (by kernel_rfl) (by kernel_rfl)
theorem H5(os:Os){H:Type}(enc:TypeId×Value->H):∃lW,DataW.whole enc Tryz.prog ((JK os).forCall (λ_ _=>0) ⟨#[],sZ,[]⟩).memory Tryz.f5.params.toList Rows.shardsLoadsSpec.vars false (sZ:Array Value).toList 8=some ([aED,.nil,.nil],[],lW):=
 ⟨[],by kernel_rfl⟩
theorem NB{H:Type}{enc:TypeId×Value->H}{W:World}{args:List Value}{ds:List (DataW H)}{p:List MemPlace}(h:DataW.TrodAll enc Tryz.prog W 0 (λ_=>true) true [24,25,54] args ds p):
 ∃v0 v1 v2 d0 d1 d2 p0 p1 p2,args=[v0,v1,v2]/\ds=[d0,d1,d2]/\DataW.Trod enc Tryz.prog W 0 (λ_=>true) true 24 v0 d0 p0/\DataW.Trod enc Tryz.prog W 0 (λ_=>true) true 25 v1 d1 p1/\DataW.Trod enc Tryz.prog W 0 (λ_=>true) true 54 v2 d2 p2:=by
 obtain⟨v0,_,d0,_,_,_,rfl,rfl,rfl,h0,h1'⟩:=trodAll_cons h;obtain⟨v1,_,d1,_,_,_,rfl,rfl,rfl,h1,h2'⟩:=trodAll_cons h1';obtain⟨v2,_,d2,_,_,_,rfl,rfl,rfl,h2,h3'⟩:=trodAll_cons h2';obtain⟨rfl,rfl,rfl⟩:=trodAll_nil h3';exact⟨v0,v1,v2,d0,d1,d2,_,_,_,rfl,rfl,h0,h1,h2⟩
set_option maxRecDepth 100000 in
theorem A8(H:Type)(enc:TypeId×Value->H)(W:World)(base:Nat)(args:Array Value)(ds gs:List (DataW H))(before:List MemPlace)
 (hval:∀(j:Nat) t v,Tryz.f5.params[j]? =some t->args[j]? =some v->Value.okWide Tryz.prog W .any base t v)(hW:DataW.Whole enc Tryz.prog Tryz.f5.params.toList Rows.shardsLoadsSpec.vars false W args.toList ds gs before)(hL:laidMetH Tryz.prog Rows.shardsLoadsRow.laid W):
 Calls Tryz.prog 5 args W λe W'=>∃v,e=.returned v/\Rows.shardsLoadsSpec.post enc Tryz.prog Tryz.f5 false true false false W args v W':=by
 have hW':=hW;obtain⟨p,q,hA0,hV,rfl,hfz,hnd⟩:=hW;have hA:DataW.TrodAll enc Tryz.prog W 0 (λ_=>true) true Tryz.f5.params.toList args.toList ds p:=hA0;rw[Tryz.params5]at hA hval;obtain⟨v0,v1,v2,d0,d1,d2,p0,p1,p2,hargs,rfl,h0,h1,h2⟩:=NB hA;obtain rfl:args=#[v0,v1,v2]:=Array.toList_inj.1 hargs;have hl:=a4v K6 hL;obtain⟨σ1,W1,v,sv,o1,s1,l1,r1,a1⟩:=Ho.openVen (Ho.openG hl) (hval 0 24 v0 rfl rfl) h0;obtain⟨σ2,W2,l,u,o2,s2,l2,r2,a2,b2⟩:=Ho.openSeats o1 (hval 1 25 v1 rfl rfl) h1;obtain⟨σ3,W3,xs,q,o3,s3,l3,r3,a3,b3⟩:=Ho.openCalls o2 (hval 2 54 v2 rfl rfl) h2;have o9:=o3;have hc:=Ho.open_calls aCb o9 (args:=[kN v sv,u,q]) (.cons (Ho.liftV s3 (Ho.liftV s2 r1)) (.cons (Ho.liftV s3 r2) (.cons r3 .nil))) (Ho.shardsLoads_om ((a1.mono l2).mono l3) (a2.mono l3) a3 b2 b3);refine hc.mono λe W' ⟨he,hq⟩=>⟨_,he,?_⟩
 exact a4J Ho.kidsT Ho.fullT (by rw[Tryz.params5];intro t ht;revert t;exact of_decide_eq_true (by kernel_rfl)) hW' hq rfl rfl rfl Tryz.underlying4
set_option maxRecDepth 100000 in
theorem FC(os:Os)(started:os.Started)(H:Type)(enc:TypeId×Value->H)(F:Stop.Interp):
 ReturnsInHanded {} Tryz.checked os 5 .any ((OpenSpec.ofChange Rows.shardsLoadsSpec).preRow enc Tryz.prog Tryz.f5 Rows.shardsLoadsRow.domain false Rows.shardsLoadsRow.laid) (((OpenSpec.ofChange Rows.shardsLoadsSpec).at F).post enc Tryz.prog Tryz.f5 false true false false):=by
 obtain⟨lW,hx⟩:=H5 os enc;refine returnsInHanded_of_row (C:=Tryz.checked) (s:=OpenSpec.ofChange Rows.shardsLoadsSpec) own started (by kernel_rfl) Tryz.func5
  (witness_row_at (enc:=enc) (C:=Tryz.checked) false (JK os) sZ rfl (by kernel_rfl) (by kernel_rfl) (by kernel_rfl)
    (OpenSpec.preRow_of_cond 8 hx (by kernel_rfl) (λk hk=>by cases hk) (by kernel_rfl) (MQ os))) ?_
 intro W base args ds gs before hval hW _ _ _ hL _ _;exact A8 H enc W base args ds gs before hval hW hL
theorem L8:Rows.ShardsLoadsSaid:=
 OpenClaim.holds_of_cond 5 Tryz.f5 rfl rfl rfl rfl rfl rfl rfl ⟨rfl,rfl,rfl,rfl,rfl⟩ rfl rfl rfl rfl rfl (by kernel_rfl) Tryz.func5 EH
  (of_decide_eq_true (by kernel_rfl)) (by unfold Func.isWrapper;first|(rw[if_pos (by decide+kernel)];kernel_rfl)|(rw[if_neg (by decide+kernel)];exact⟨rfl,rfl⟩))
  (λos started H enc _ F=>by rw[OpenClaim.pre_eq_preRow];exact FC os started H enc F)
theorem GV(f:FuncId)(fn:Func)(hf:Tryz.pinned.checked.prog.funcNamed "groundling/groundlinglaw18.ShardsLoads" =some f)(hfn:Tryz.pinned.checked.prog.funcs[f]? =some fn):
 true=Tryz.pinned.checked.prog.looks []/\∀(j:Nat) t,fn.params[j]? =some t->Tryz.pinned.checked.prog.wantsStandIn t=false:=by
 obtain rfl:f=5:=Option.some.inj ((show Tryz.prog.funcNamed "groundling/groundlinglaw18.ShardsLoads" =some 5 by kernel_rfl).symm.trans hf)|>.symm;obtain rfl:fn=Tryz.f5:=(Option.some.inj (Tryz.func5.symm.trans hfn)).symm;refine⟨aBM,λj t ht=>?_⟩;rw[Tryz.params5]at ht;have hm:=Array.mem_of_getElem? ht;simp only[List.mem_toArray,List.mem_cons,List.not_mem_nil,or_false]at hm;rcases hm with rfl|rfl|rfl
 ·exact(show Tryz.prog.wantsStandIn 24=false by kernel_rfl)
 ·exact(show Tryz.prog.wantsStandIn 25=false by kernel_rfl)
 ·exact(show Tryz.prog.wantsStandIn 54=false by kernel_rfl)
theorem shardsLoads_card:Rows.ShardsLoadsCardSaid:=
 Claim7.holds_tied_plain_at .later [] _ _ _ _ L8 (λ_ h=>by cases h) (by kernel_rfl) (λ_ h=>by cases h) shardsLoads_row_tie rfl ⟨rfl,rfl⟩ (by kernel_rfl) rfl GV JJ
end Go.Proofs.YtnigceddndemkaaGreatDoor
