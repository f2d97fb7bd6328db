/- ShardsAny answers true at every venue and what is asked of it. -/
import Derived.Test.YtnigceddndemkaaGreatDoorPlainC
import Derived.Test.YtnigceddndemkaaGreatDoorSLaid18
import Derived.Test.YtnigceddndemkaaGreatDoorS18AnyF
set_option linter.unusedVariables false
namespace Go.Proofs.YtnigceddndemkaaGreatDoor
open Go Go.Eng Go.ChangeShapes Go.WideShapes Go.ChangeAt Go.RowKit
def vY:Array Value:=#[aBT,.slice none 0 0,.agg #[.int .u8 0,.slice none 0 0,.int .i64 0]]
theorem M7:Rows.shardsAnyRow.laid=Rows.shardsLoadsRow.laid:=rfl
theorem OC(os:Os):laidMet Tryz.prog Rows.shardsAnyRow.laid ((GJ os).forCall (λ_ _=>0) ⟨#[],vY,[]⟩).memory:=
 laidMet_of_run' 8 (by kernel_rfl) (by kernel_rfl)
theorem J9(os:Os){H:Type}(enc:TypeId×Value->H):∃mO,DataW.whole enc Tryz.prog ((GJ os).forCall (λ_ _=>0) ⟨#[],vY,[]⟩).memory Tryz.f6.params.toList Rows.shardsAnySpec.vars false (vY:Array Value).toList 8=some ([aCA,.nil,.agg [.lit (.int .u8 0),.nil,.lit (.int .i64 0)]],[],mO):=
 ⟨[],by kernel_rfl⟩
theorem O9{H:Type}{enc:TypeId×Value->H}{W:World}{args:List Value}{ds:List (DataW H)}{p:List MemPlace}(h:DataW.TrodAll enc Tryz.prog W 0 (λ_=>true) true [24,25,65] args ds p):
 ∃v0 v1 v2 d0 d1 d2 p0 p1 p2,args=[v0,v1,v2]/\ds=[d0,d1,d2]/\DataW.Trod enc Tryz.prog W 0 (λ_=>true) true 24 v0 d0 p0/\DataW.Trod enc Tryz.prog W 0 (λ_=>true) true 25 v1 d1 p1/\DataW.Trod enc Tryz.prog W 0 (λ_=>true) true 65 v2 d2 p2:=by
 obtain⟨v0,_,d0,_,_,_,rfl,rfl,rfl,h0,h1'⟩:=trodAll_cons h;obtain⟨v1,_,d1,_,_,_,rfl,rfl,rfl,h1,h2'⟩:=trodAll_cons h1';obtain⟨v2,_,d2,_,_,_,rfl,rfl,rfl,h2,h3'⟩:=trodAll_cons h2';obtain⟨rfl,rfl,rfl⟩:=trodAll_nil h3';exact⟨v0,v1,v2,d0,d1,d2,_,_,_,rfl,rfl,h0,h1,h2⟩
set_option maxRecDepth 100000 in
theorem AL(H:Type)(enc:TypeId×Value->H)(W:World)(base:Nat)(args:Array Value)(ds gs:List (DataW H))(before:List MemPlace)
 (hval:∀(j:Nat) t v,Tryz.f6.params[j]? =some t->args[j]? =some v->Value.okWide Tryz.prog W .any base t v)(hW:DataW.Whole enc Tryz.prog Tryz.f6.params.toList Rows.shardsAnySpec.vars false W args.toList ds gs before)(hL:laidMetH Tryz.prog Rows.shardsAnyRow.laid W):
 Calls Tryz.prog 6 args W λe W'=>∃v,e=.returned v/\Rows.shardsAnySpec.post enc Tryz.prog Tryz.f6 false true false false W args v W':=by
 have hW':=hW;obtain⟨p,q,hA0,hV,rfl,hfz,hnd⟩:=hW;have hA:DataW.TrodAll enc Tryz.prog W 0 (λ_=>true) true Tryz.f6.params.toList args.toList ds p:=hA0;rw[Tryz.params6]at hA hval;obtain⟨v0,v1,v2,d0,d1,d2,p0,p1,p2,hargs,rfl,h0,h1,h2⟩:=O9 hA;obtain rfl:args=#[v0,v1,v2]:=Array.toList_inj.1 hargs;have hl:=a2r M7 hL;obtain⟨σ1,W1,v,sv,o1,s1,l1,r1,a1⟩:=Ho.openVen (Ho.openG hl) (hval 0 24 v0 rfl rfl) h0;obtain⟨σ2,W2,l,u,o2,s2,l2,r2,a2,b2⟩:=Ho.openSeats o1 (hval 1 25 v1 rfl rfl) h1;obtain⟨σ3,W3,s,t,q,xs,o3,s3,l3,r3,h03,h13,a3⟩:=Ho.openOther o2 (hval 2 65 v2 rfl rfl) h2;have o9:=o3;have hc:=Ho.open_calls a9a o9 (args:=[sI v sv,u,Ho.otV s q t]) (.cons (Ho.liftV s3 (Ho.liftV s2 r1)) (.cons (Ho.liftV s3 r2) (.cons r3 .nil))) (Ho.shardsAny_om ((a1.mono l2).mono l3) (a2.mono l3) h03 h13 a3);refine hc.mono λe W' ⟨he,hq⟩=>⟨_,he,?_⟩
 exact a1V Ho.kidsT Ho.fullT (by rw[Tryz.params6];intro t ht;revert t;exact of_decide_eq_true (by kernel_rfl)) hW' hq rfl rfl rfl Tryz.underlying4
set_option maxRecDepth 100000 in
theorem FM(os:Os)(started:os.Started)(H:Type)(enc:TypeId×Value->H)(F:Stop.Interp):
 ReturnsInHanded {} Tryz.checked os 6 .any ((OpenSpec.ofChange Rows.shardsAnySpec).preRow enc Tryz.prog Tryz.f6 Rows.shardsAnyRow.domain false Rows.shardsAnyRow.laid) (((OpenSpec.ofChange Rows.shardsAnySpec).at F).post enc Tryz.prog Tryz.f6 false true false false):=by
 obtain⟨mO,hx⟩:=J9 os enc;refine returnsInHanded_of_row (C:=Tryz.checked) (s:=OpenSpec.ofChange Rows.shardsAnySpec) own started (by kernel_rfl) Tryz.func6
  (witness_row_at (enc:=enc) (C:=Tryz.checked) false (GJ os) vY rfl (by kernel_rfl) (by kernel_rfl) (by kernel_rfl)
    (OpenSpec.preRow_of_cond 8 hx (by kernel_rfl) (λk hk=>by cases hk) (by kernel_rfl) (OC os))) ?_
 intro W base args ds gs before hval hW _ _ _ hL _ _;exact AL H enc W base args ds gs before hval hW hL
theorem LH:Rows.ShardsAnySaid:=
 OpenClaim.holds_of_cond 6 Tryz.f6 rfl rfl rfl rfl rfl rfl rfl ⟨rfl,rfl,rfl,rfl,rfl⟩ rfl rfl rfl rfl rfl (by kernel_rfl) Tryz.func6 G5
  (of_decide_eq_true (by kernel_rfl)) (by unfold Func.isWrapper;first|(rw[if_pos (by decide+kernel)];kernel_rfl)|(rw[if_neg (by decide+kernel)];exact⟨rfl,rfl⟩))
  (λos started H enc _ F=>by rw[OpenClaim.pre_eq_preRow];exact FM os started H enc F)
theorem JC(f:FuncId)(fn:Func)(hf:Tryz.pinned.checked.prog.funcNamed "groundling/groundlinglaw18.ShardsAny" =some f)(hfn:Tryz.pinned.checked.prog.funcs[f]? =some fn):
 true=Tryz.pinned.checked.prog.looks []/\∀(j:Nat) t,fn.params[j]? =some t->Tryz.pinned.checked.prog.wantsStandIn t=false:=by
 obtain rfl:f=6:=Option.some.inj ((show Tryz.prog.funcNamed "groundling/groundlinglaw18.ShardsAny" =some 6 by kernel_rfl).symm.trans hf)|>.symm;obtain rfl:fn=Tryz.f6:=(Option.some.inj (Tryz.func6.symm.trans hfn)).symm;refine⟨a9p,λj t ht=>?_⟩;rw[Tryz.params6]at ht;have hm:=Array.mem_of_getElem? ht;simp only[List.mem_toArray,List.mem_cons,List.not_mem_nil,or_false]at hm;rcases hm with rfl|rfl|rfl
 ·exact(show Tryz.prog.wantsStandIn 24=false by kernel_rfl)
 ·exact(show Tryz.prog.wantsStandIn 25=false by kernel_rfl)
 ·exact(show Tryz.prog.wantsStandIn 65=false by kernel_rfl)
theorem shardsAny_card:Rows.ShardsAnyCardSaid:=
 Claim7.holds_tied_plain_at .later [] _ _ _ _ LH (λ_ h=>by cases h) (by kernel_rfl) (λ_ h=>by cases h) shardsAny_row_tie rfl ⟨rfl,rfl⟩ (by kernel_rfl) rfl JC NC
end Go.Proofs.YtnigceddndemkaaGreatDoor
