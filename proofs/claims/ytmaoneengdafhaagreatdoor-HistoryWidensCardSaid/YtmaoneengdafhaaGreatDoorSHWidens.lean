/- HistoryWidens answers true at every history, order and list of places. -/
import Derived.Test.YtmaoneengdafhaaGreatDoorSLaid
import Derived.Test.YtmaoneengdafhaaGreatDoorSHWidensF
set_option linter.unusedVariables false
set_option linter.unusedSimpArgs false
set_option linter.unusedSectionVars false
set_option linter.defProp false
open Go renaming TypeId->ae,Value->ad
namespace Go.Proofs.YtmaoneengdafhaaGreatDoor
open Go Go.Eng Go.ChangeShapes Go.WideShapes Go.ChangeAt Go.RowKit
def lR:Array ad:=#[als,.slice none 0 0,.slice none 0 0]
def zg(os:Os):laidMet Tryz.prog Rows.historyWidensRow.laid ((Bj os).forCall (λ_ _=>0) ⟨#[],lR,[]⟩).memory:=
 laidMet_of_run' 8 (by kernel_rfl) (by kernel_rfl)
def w8(os:Os){H:Type}(enc:ae×ad->H):∃pu,DataW.whole enc Tryz.prog ((Bj os).forCall (λ_ _=>0) ⟨#[],lR,[]⟩).memory Tryz.f4.params.toList Rows.historyWidensSpec.vars false (lR:Array ad).toList 8=some ([ams,.nil,.nil],[],pu):=
 ⟨[],by kernel_rfl⟩
def yT{H:Type}{enc:ae×ad->H}{W:World}{args:List ad}{ds:List (DataW H)}{p:List MemPlace}(h:DataW.TrodAll enc Tryz.prog W 0 (λ_=>true) true [27,28,40] args ds p):
 ∃v0 v1 v2 d0 d1 d2 p0 p1 p2,args=[v0,v1,v2]/\ds=[d0,d1,d2]/\DataW.Trod enc Tryz.prog W 0 (λ_=>true) true 27 v0 d0 p0/\DataW.Trod enc Tryz.prog W 0 (λ_=>true) true 28 v1 d1 p1/\DataW.Trod enc Tryz.prog W 0 (λ_=>true) true 40 v2 d2 p2:=by
 obtain⟨v0,_,d0,_,_,_,rfl,rfl,rfl,h0,Ch⟩:=trodAll_cons h;obtain⟨v1,_,d1,_,_,_,rfl,rfl,rfl,h1,FB⟩:=trodAll_cons Ch;obtain⟨v2,_,d2,_,_,_,rfl,rfl,rfl,h2,h3'⟩:=trodAll_cons FB;obtain⟨rfl,rfl,rfl⟩:=trodAll_nil h3';exact⟨v0,v1,v2,d0,d1,d2,_,_,_,rfl,rfl,h0,h1,h2⟩
set_option maxRecDepth 100000 in
def rZ(H:Type)(enc:ae×ad->H)(W:World)(base:Nat)(args:Array ad)(ds gs:List (DataW H))(nz:List MemPlace)
 (K6:∀(j:Nat) t v,Tryz.f4.params[j]? =some t->args[j]? =some v->Value.okWide Tryz.prog W .any base t v)(hW:DataW.Whole enc Tryz.prog Tryz.f4.params.toList Rows.historyWidensSpec.vars false W args.toList ds gs nz)(hL:laidMetH Tryz.prog Rows.historyWidensRow.laid W):
 Calls Tryz.prog 4 args W λe W'=>∃v,e=.returned v/\Rows.historyWidensSpec.post enc Tryz.prog Tryz.f4 false true false false W args v W':=by
 have hW':=hW;obtain⟨p,q,hA0,hV,rfl,hfz,KD⟩:=hW;have hA:DataW.TrodAll enc Tryz.prog W 0 (λ_=>true) true Tryz.f4.params.toList args.toList ds p:=hA0;rw[Tryz.params4]at hA K6;obtain⟨v0,v1,v2,d0,d1,d2,p0,p1,p2,cq,rfl,h0,h1,h2⟩:=yT hA;obtain rfl:args=#[v0,v1,v2]:=mN.1 cq;have hl:=RT hL;obtain⟨σ1,W1,v,sv,ev,l,o1,s1,l1,r1,a1⟩:=Z2 (af8 hl) (K6 0 27 v0 rfl rfl) h0;obtain⟨σ2,W2,ov,os,o2,s2,l2,r2,a2⟩:=XJ o1 (K6 1 28 v1 rfl rfl) h1;obtain⟨σ3,W3,tv,ts,o3,s3,l3,r3,a3,b3⟩:=ZT o2 (K6 2 40 v2 rfl rfl) h2;have o9:=o3;have s9:=(s1.trans s2).trans s3;have hc:=N7 adi o9 s9 (args:=[CG v sv ev,ov,tv]) (.cons ((r1.mono s2).mono s3) (.cons (r2.mono s3) (.cons r3 .nil))) (DZ (agR ((l1.trans l2).trans l3)) (a1.mono (l2.trans l3)) (a2.mono l3) a3 b3);refine hc.mono λe W' ⟨he,hq⟩=>⟨_,he,?_⟩
 exact Rl af5 agz (by rw[Tryz.params4];intro t ht;revert t;exact C8 (by kernel_rfl)) hW' hq rfl rfl rfl Tryz.underlying4
set_option maxRecDepth 100000 in
def vG(os:Os)(IR:os.Started)(H:Type)(enc:ae×ad->H)(F:Stop.Interp):
 ReturnsInHanded {} Tryz.checked os 4 .any ((OpenSpec.ofChange Rows.historyWidensSpec).preRow enc Tryz.prog Tryz.f4 Rows.historyWidensRow.domain false Rows.historyWidensRow.laid) (((OpenSpec.ofChange Rows.historyWidensSpec).at F).post enc Tryz.prog Tryz.f4 false true false false):=by
 obtain⟨pu,hx⟩:=w8 os enc;refine returnsInHanded_of_row (C:=Tryz.checked) (s:=OpenSpec.ofChange Rows.historyWidensSpec) own IR (by kernel_rfl) Tryz.func4
  (witness_row_at (enc:=enc) (C:=Tryz.checked) false (Bj os) lR rfl (by kernel_rfl) (by kernel_rfl) (by kernel_rfl)
    (OpenSpec.preRow_of_cond 8 hx (by kernel_rfl) (λk hk=>by cases hk) (by kernel_rfl) (zg os))) ?_
 intro W base args ds gs nz K6 hW _ _ _ hL _ _;exact rZ H enc W base args ds gs nz K6 hW hL
def xL:Rows.HistoryWidensSaid:=
 OpenClaim.holds_of_cond 4 Tryz.f4 rfl rfl rfl rfl rfl rfl rfl ⟨rfl,rfl,rfl,rfl,rfl⟩ rfl rfl rfl rfl rfl (by kernel_rfl) Tryz.func4 vJ
  (C8 (by kernel_rfl)) (by unfold Func.isWrapper;first|(rw[aq (by decide+kernel)];kernel_rfl)|(rw[ap (by decide+kernel)];exact⟨rfl,rfl⟩))
  (λos IR H enc _ F=>by rw[OpenClaim.pre_eq_preRow];exact vG os IR H enc F)
def wZ(f:FuncId)(fn:Func)(hf:Tryz.pinned.checked.prog.funcNamed "groundling/groundlinglaw24.HistoryWidens" =some f)(Gj:Tryz.pinned.checked.prog.funcs[f]? =some fn):
 false=Tryz.pinned.checked.prog.looks []/\∀(j:Nat) t,fn.params[j]? =some t->Tryz.pinned.checked.prog.wantsStandIn t=false:=by
 obtain rfl:f=4:=y8 ((show Tryz.prog.funcNamed "groundling/groundlinglaw24.HistoryWidens" =some 4 by kernel_rfl).symm.trans hf)|>.symm;obtain rfl:fn=Tryz.f4:=(y8 (Tryz.func4.symm.trans Gj)).symm;refine⟨ac5,λj t ht=>?_⟩;rw[Tryz.params4]at ht;have hm:=Array.mem_of_getElem? ht;simp only[List.mem_toArray,dD,List.not_mem_nil,or_false]at hm;rcases hm with rfl|rfl|rfl
 ·exact(show Tryz.prog.wantsStandIn 27=false by kernel_rfl)
 ·exact(show Tryz.prog.wantsStandIn 28=false by kernel_rfl)
 ·exact(show Tryz.prog.wantsStandIn 40=false by kernel_rfl)
theorem historyWidens_card:Rows.HistoryWidensCardSaid:=
 Claim7.holds_tied_plain_at .later [] _ _ _ _ xL (λ_ h=>by cases h) (by kernel_rfl) (λ_ h=>by cases h) historyWidens_row_tie rfl ⟨rfl,rfl⟩ (by kernel_rfl) rfl wZ x8
end Go.Proofs.YtmaoneengdafhaaGreatDoor
