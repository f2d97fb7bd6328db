/- ShardsPlays answers true at every venue and what is asked of it. -/
import Derived.Test.YtnigceddndemkaaGreatDoorPlainC
import Derived.Test.YtnigceddndemkaaGreatDoorSLaid18
import Derived.Test.YtnigceddndemkaaGreatDoorS18PlaysF
set_option linter.unusedVariables false
namespace Go.Proofs.YtnigceddndemkaaGreatDoor
open Go Go.Eng Go.ChangeShapes Go.WideShapes Go.ChangeAt Go.RowKit
def sU:Array Value:=#[aEo,.slice none 0 0]
theorem K4:Rows.shardsPlaysRow.laid=Rows.shardsLoadsRow.laid:=rfl
theorem MZ(os:Os):laidMet Tryz.prog Rows.shardsPlaysRow.laid ((KL os).forCall (λ_ _=>0) ⟨#[],sU,[]⟩).memory:=
 laidMet_of_run' 8 (by kernel_rfl) (by kernel_rfl)
theorem H8(os:Os){H:Type}(enc:TypeId×Value->H):∃lQ,DataW.whole enc Tryz.prog ((KL os).forCall (λ_ _=>0) ⟨#[],sU,[]⟩).memory Tryz.f7.params.toList Rows.shardsPlaysSpec.vars false (sU:Array Value).toList 8=some ([aEj,.nil],[],lQ):=
 ⟨[],by kernel_rfl⟩
theorem MV{H:Type}{enc:TypeId×Value->H}{W:World}{args:List Value}{ds:List (DataW H)}{p:List MemPlace}(h:DataW.TrodAll enc Tryz.prog W 0 (λ_=>true) true [24,54] args ds p):
 ∃v0 v1 d0 d1 p0 p1,args=[v0,v1]/\ds=[d0,d1]/\DataW.Trod enc Tryz.prog W 0 (λ_=>true) true 24 v0 d0 p0/\DataW.Trod enc Tryz.prog W 0 (λ_=>true) true 54 v1 d1 p1:=by
 obtain⟨v0,_,d0,_,_,_,rfl,rfl,rfl,h0,h1'⟩:=trodAll_cons h;obtain⟨v1,_,d1,_,_,_,rfl,rfl,rfl,h1,h2'⟩:=trodAll_cons h1';obtain⟨rfl,rfl,rfl⟩:=trodAll_nil h2';exact⟨v0,v1,d0,d1,_,_,rfl,rfl,h0,h1⟩
set_option maxRecDepth 100000 in
theorem zU(H:Type)(enc:TypeId×Value->H)(W:World)(base:Nat)(args:Array Value)(ds gs:List (DataW H))(before:List MemPlace)
 (hval:∀(j:Nat) t v,Tryz.f7.params[j]? =some t->args[j]? =some v->Value.okWide Tryz.prog W .any base t v)(hW:DataW.Whole enc Tryz.prog Tryz.f7.params.toList Rows.shardsPlaysSpec.vars false W args.toList ds gs before)(hL:laidMetH Tryz.prog Rows.shardsPlaysRow.laid W):
 Calls Tryz.prog 7 args W λe W'=>∃v,e=.returned v/\Rows.shardsPlaysSpec.post enc Tryz.prog Tryz.f7 false true false false W args v W':=by
 have hW':=hW;obtain⟨p,q,hA0,hV,rfl,hfz,hnd⟩:=hW;have hA:DataW.TrodAll enc Tryz.prog W 0 (λ_=>true) true Tryz.f7.params.toList args.toList ds p:=hA0;rw[Tryz.params7]at hA hval;obtain⟨v0,v1,d0,d1,p0,p1,hargs,rfl,h0,h1⟩:=MV hA;obtain rfl:args=#[v0,v1]:=Array.toList_inj.1 hargs;have hl:=a5F K4 hL;obtain⟨σ1,W1,v,sv,o1,s1,l1,r1,a1⟩:=Ho.openVen (Ho.openG hl) (hval 0 24 v0 rfl rfl) h0;obtain⟨σ3,W3,xs,q,o3,s3,l3,r3,a3,b3⟩:=Ho.openCalls o1 (hval 1 54 v1 rfl rfl) h1;have o9:=o3;have hc:=Ho.open_calls aBR o9 (args:=[kR v sv,q]) (.cons (Ho.liftV s3 r1) (.cons r3 .nil)) (Ho.shardsPlays_om (a1.mono l3) a3 b3);refine hc.mono λe W' ⟨he,hq⟩=>⟨_,he,?_⟩
 exact a5C Ho.kidsT Ho.fullT (by rw[Tryz.params7];intro t ht;revert t;exact of_decide_eq_true (by kernel_rfl)) hW' hq rfl rfl rfl Tryz.underlying4
set_option maxRecDepth 100000 in
theorem F8(os:Os)(started:os.Started)(H:Type)(enc:TypeId×Value->H)(F:Stop.Interp):
 ReturnsInHanded {} Tryz.checked os 7 .any ((OpenSpec.ofChange Rows.shardsPlaysSpec).preRow enc Tryz.prog Tryz.f7 Rows.shardsPlaysRow.domain false Rows.shardsPlaysRow.laid) (((OpenSpec.ofChange Rows.shardsPlaysSpec).at F).post enc Tryz.prog Tryz.f7 false true false false):=by
 obtain⟨lQ,hx⟩:=H8 os enc;refine returnsInHanded_of_row (C:=Tryz.checked) (s:=OpenSpec.ofChange Rows.shardsPlaysSpec) own started (by kernel_rfl) Tryz.func7
  (witness_row_at (enc:=enc) (C:=Tryz.checked) false (KL os) sU rfl (by kernel_rfl) (by kernel_rfl) (by kernel_rfl)
    (OpenSpec.preRow_of_cond 8 hx (by kernel_rfl) (λk hk=>by cases hk) (by kernel_rfl) (MZ os))) ?_
 intro W base args ds gs before hval hW _ _ _ hL _ _;exact zU H enc W base args ds gs before hval hW hL
theorem KZ:Rows.ShardsPlaysSaid:=
 OpenClaim.holds_of_cond 7 Tryz.f7 rfl rfl rfl rfl rfl rfl rfl ⟨rfl,rfl,rfl,rfl,rfl⟩ rfl rfl rfl rfl rfl (by kernel_rfl) Tryz.func7 F5
  (of_decide_eq_true (by kernel_rfl)) (by unfold Func.isWrapper;first|(rw[if_pos (by decide+kernel)];kernel_rfl)|(rw[if_neg (by decide+kernel)];exact⟨rfl,rfl⟩))
  (λos started H enc _ F=>by rw[OpenClaim.pre_eq_preRow];exact F8 os started H enc F)
theorem JD(f:FuncId)(fn:Func)(hf:Tryz.pinned.checked.prog.funcNamed "groundling/groundlinglaw18.ShardsPlays" =some f)(hfn:Tryz.pinned.checked.prog.funcs[f]? =some fn):
 true=Tryz.pinned.checked.prog.looks []/\∀(j:Nat) t,fn.params[j]? =some t->Tryz.pinned.checked.prog.wantsStandIn t=false:=by
 obtain rfl:f=7:=Option.some.inj ((show Tryz.prog.funcNamed "groundling/groundlinglaw18.ShardsPlays" =some 7 by kernel_rfl).symm.trans hf)|>.symm;obtain rfl:fn=Tryz.f7:=(Option.some.inj (Tryz.func7.symm.trans hfn)).symm;refine⟨aBd,λj t ht=>?_⟩;rw[Tryz.params7]at ht;have hm:=Array.mem_of_getElem? ht;simp only[List.mem_toArray,List.mem_cons,List.not_mem_nil,or_false]at hm;rcases hm with rfl|rfl
 ·exact(show Tryz.prog.wantsStandIn 24=false by kernel_rfl)
 ·exact(show Tryz.prog.wantsStandIn 54=false by kernel_rfl)
theorem shardsPlays_card:Rows.ShardsPlaysCardSaid:=
 Claim7.holds_tied_plain_at .later [] _ _ _ _ KZ (λ_ h=>by cases h) (by kernel_rfl) (λ_ h=>by cases h) shardsPlays_row_tie rfl ⟨rfl,rfl⟩ (by kernel_rfl) rfl JD JK
end Go.Proofs.YtnigceddndemkaaGreatDoor
