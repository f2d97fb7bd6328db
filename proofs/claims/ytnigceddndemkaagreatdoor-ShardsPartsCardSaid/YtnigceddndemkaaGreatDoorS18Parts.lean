/- ShardsParts answers true at every venue and what is asked of it. -/
import Derived.Test.YtnigceddndemkaaGreatDoorPlainB
import Derived.Test.YtnigceddndemkaaGreatDoorSLaid18
import Derived.Test.YtnigceddndemkaaGreatDoorS18PartsF
set_option linter.unusedVariables false
namespace Go.Proofs.YtnigceddndemkaaGreatDoor
open Go Go.Eng Go.ChangeShapes Go.WideShapes Go.ChangeAt Go.RowKit
def o7:Array Value:=#[a7M,.slice none 0 0,.int .i64 0]
theorem BG:Rows.shardsPartsRow.laid=Rows.shardsLoadsRow.laid:=rfl
theorem DL(os:Os):laidMet Tryz.prog Rows.shardsPartsRow.laid ((BJ os).forCall (λ_ _=>0) ⟨#[],o7,[]⟩).memory:=
 laidMet_of_run' 8 (by kernel_rfl) (by kernel_rfl)
theorem zK(os:Os){H:Type}(enc:TypeId×Value->H):∃xP,DataW.whole enc Tryz.prog ((BJ os).forCall (λ_ _=>0) ⟨#[],o7,[]⟩).memory Tryz.f3.params.toList Rows.shardsPartsSpec.vars false (o7:Array Value).toList 8=some ([a8k,.nil,.lit (.int .i64 0)],[],xP):=
 ⟨[],by kernel_rfl⟩
theorem DY{H:Type}{enc:TypeId×Value->H}{W:World}{args:List Value}{ds:List (DataW H)}{p:List MemPlace}(h:DataW.TrodAll enc Tryz.prog W 0 (λ_=>true) true [24,25,2] args ds p):
 ∃v0 v1 v2 d0 d1 d2 p0 p1 p2,args=[v0,v1,v2]/\ds=[d0,d1,d2]/\DataW.Trod enc Tryz.prog W 0 (λ_=>true) true 24 v0 d0 p0/\DataW.Trod enc Tryz.prog W 0 (λ_=>true) true 25 v1 d1 p1/\DataW.Trod enc Tryz.prog W 0 (λ_=>true) true 2 v2 d2 p2:=by
 obtain⟨v0,_,d0,_,_,_,rfl,rfl,rfl,h0,h1'⟩:=trodAll_cons h;obtain⟨v1,_,d1,_,_,_,rfl,rfl,rfl,h1,h2'⟩:=trodAll_cons h1';obtain⟨v2,_,d2,_,_,_,rfl,rfl,rfl,h2,h3'⟩:=trodAll_cons h2';obtain⟨rfl,rfl,rfl⟩:=trodAll_nil h3';exact⟨v0,v1,v2,d0,d1,d2,_,_,_,rfl,rfl,h0,h1,h2⟩
set_option maxRecDepth 100000 in
theorem uC(H:Type)(enc:TypeId×Value->H)(W:World)(base:Nat)(args:Array Value)(ds gs:List (DataW H))(before:List MemPlace)
 (hval:∀(j:Nat) t v,Tryz.f3.params[j]? =some t->args[j]? =some v->Value.okWide Tryz.prog W .any base t v)(hW:DataW.Whole enc Tryz.prog Tryz.f3.params.toList Rows.shardsPartsSpec.vars false W args.toList ds gs before)(hL:laidMetH Tryz.prog Rows.shardsPartsRow.laid W):
 Calls Tryz.prog 3 args W λe W'=>∃v,e=.returned v/\Rows.shardsPartsSpec.post enc Tryz.prog Tryz.f3 false true false false W args v W':=by
 have hW':=hW;obtain⟨p,q,hA0,hV,rfl,hfz,hnd⟩:=hW;have hA:DataW.TrodAll enc Tryz.prog W 0 (λ_=>true) true Tryz.f3.params.toList args.toList ds p:=hA0;rw[Tryz.params3]at hA hval;obtain⟨v0,v1,v2,d0,d1,d2,p0,p1,p2,hargs,rfl,h0,h1,h2⟩:=DY hA;obtain rfl:args=#[v0,v1,v2]:=Array.toList_inj.1 hargs;have hl:=YG BG hL;obtain⟨σ1,W1,v,sv,o1,s1,l1,r1,a1⟩:=Ho.openVen (Ho.openG hl) (hval 0 24 v0 rfl rfl) h0;obtain⟨σ2,W2,l,u,o2,s2,l2,r2,a2,b2⟩:=Ho.openSeats o1 (hval 1 25 v1 rfl rfl) h1;obtain⟨now,rfl⟩:=okWide_int Tryz.underlying2 (hval 2 2 v2 rfl rfl);have o9:=o2;have hc:=Ho.open_calls a3S o9 (args:=[tL v sv,u,.int .i64 now]) (.cons (Ho.liftV s2 r1) (.cons r2 (.cons (.int _ _) .nil))) (Ho.shardsParts_om (a1.mono l2) a2);refine hc.mono λe W' ⟨he,hq⟩=>⟨_,he,?_⟩
 exact Y9 Ho.kidsT Ho.fullT (by rw[Tryz.params3];intro t ht;revert t;exact of_decide_eq_true (by kernel_rfl)) hW' hq rfl rfl rfl Tryz.underlying4
set_option maxRecDepth 100000 in
theorem x9(os:Os)(started:os.Started)(H:Type)(enc:TypeId×Value->H)(F:Stop.Interp):
 ReturnsInHanded {} Tryz.checked os 3 .any ((OpenSpec.ofChange Rows.shardsPartsSpec).preRow enc Tryz.prog Tryz.f3 Rows.shardsPartsRow.domain false Rows.shardsPartsRow.laid) (((OpenSpec.ofChange Rows.shardsPartsSpec).at F).post enc Tryz.prog Tryz.f3 false true false false):=by
 obtain⟨xP,hx⟩:=zK os enc;refine returnsInHanded_of_row (C:=Tryz.checked) (s:=OpenSpec.ofChange Rows.shardsPartsSpec) own started (by kernel_rfl) Tryz.func3
  (witness_row_at (enc:=enc) (C:=Tryz.checked) false (BJ os) o7 rfl (by kernel_rfl) (by kernel_rfl) (by kernel_rfl)
    (OpenSpec.preRow_of_cond 8 hx (by kernel_rfl) (λk hk=>by cases hk) (by kernel_rfl) (DL os))) ?_
 intro W base args ds gs before hval hW _ _ _ hL _ _;exact uC H enc W base args ds gs before hval hW hL
theorem BF:Rows.ShardsPartsSaid:=
 OpenClaim.holds_of_cond 3 Tryz.f3 rfl rfl rfl rfl rfl rfl rfl ⟨rfl,rfl,rfl,rfl,rfl⟩ rfl rfl rfl rfl rfl (by kernel_rfl) Tryz.func3 wV
  (of_decide_eq_true (by kernel_rfl)) (by unfold Func.isWrapper;first|(rw[if_pos (by decide+kernel)];kernel_rfl)|(rw[if_neg (by decide+kernel)];exact⟨rfl,rfl⟩))
  (λos started H enc _ F=>by rw[OpenClaim.pre_eq_preRow];exact x9 os started H enc F)
theorem yZ(f:FuncId)(fn:Func)(hf:Tryz.pinned.checked.prog.funcNamed "groundling/groundlinglaw18.ShardsParts" =some f)(hfn:Tryz.pinned.checked.prog.funcs[f]? =some fn):
 true=Tryz.pinned.checked.prog.looks []/\∀(j:Nat) t,fn.params[j]? =some t->Tryz.pinned.checked.prog.wantsStandIn t=false:=by
 obtain rfl:f=3:=Option.some.inj ((show Tryz.prog.funcNamed "groundling/groundlinglaw18.ShardsParts" =some 3 by kernel_rfl).symm.trans hf)|>.symm;obtain rfl:fn=Tryz.f3:=(Option.some.inj (Tryz.func3.symm.trans hfn)).symm;refine⟨a5r,λj t ht=>?_⟩;rw[Tryz.params3]at ht;have hm:=Array.mem_of_getElem? ht;simp only[List.mem_toArray,List.mem_cons,List.not_mem_nil,or_false]at hm;rcases hm with rfl|rfl|rfl
 ·exact(show Tryz.prog.wantsStandIn 24=false by kernel_rfl)
 ·exact(show Tryz.prog.wantsStandIn 25=false by kernel_rfl)
 ·exact(show Tryz.prog.wantsStandIn 2=false by kernel_rfl)
theorem shardsParts_card:Rows.ShardsPartsCardSaid:=
 Claim7.holds_tied_plain_at .later [] _ _ _ _ BF (λ_ h=>by cases h) (by kernel_rfl) (λ_ h=>by cases h) shardsParts_row_tie rfl ⟨rfl,rfl⟩ (by kernel_rfl) rfl yZ zX
end Go.Proofs.YtnigceddndemkaaGreatDoor
