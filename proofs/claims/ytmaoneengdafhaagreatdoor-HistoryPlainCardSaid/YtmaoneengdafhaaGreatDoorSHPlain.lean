/- HistoryPlain answers true at every venue, list of operations, and place. -/
import Derived.Test.YtmaoneengdafhaaGreatDoorSLaid
import Derived.Test.YtmaoneengdafhaaGreatDoorSHPlainF
set_option linter.unusedVariables false
set_option linter.unusedSimpArgs false
set_option linter.unusedSectionVars false
set_option linter.defProp false
open Go renaming TypeId->af,Value->ad
namespace Go.Proofs.YtmaoneengdafhaaGreatDoor
open Go Go.Eng Go.ChangeShapes Go.WideShapes Go.ChangeAt Go.RowKit
def qD:Array ad:=#[avz,.slice none 0 0,.int .u16 0]
def F5(os:Os):laidMet Tryz.prog Rows.historyPlainRow.laid ((FT os).forCall (λ_ _=>0) ⟨#[],qD,[]⟩).memory:=
 laidMet_of_run' 8 (by kernel_rfl) (by kernel_rfl)
def CI(os:Os){H:Type}(enc:af×ad->H):∃jz,DataW.whole enc Tryz.prog ((FT os).forCall (λ_ _=>0) ⟨#[],qD,[]⟩).memory Tryz.f5.params.toList Rows.historyPlainSpec.vars false (qD:Array ad).toList 8=some ([auy,.nil,.lit (.int .u16 0)],[],jz):=
 ⟨[],by kernel_rfl⟩
def Fu{H:Type}{enc:af×ad->H}{W:World}{args:List ad}{ds:List (DataW H)}{p:List MemPlace}(h:DataW.TrodAll enc Tryz.prog W 0 (λ_=>true) true [24,54,42] args ds p):
 ∃v0 v1 v2 d0 d1 d2 p0 p1 p2,args=[v0,v1,v2]/\ds=[d0,d1,d2]/\DataW.Trod enc Tryz.prog W 0 (λ_=>true) true 24 v0 d0 p0/\DataW.Trod enc Tryz.prog W 0 (λ_=>true) true 54 v1 d1 p1/\DataW.Trod enc Tryz.prog W 0 (λ_=>true) true 42 v2 d2 p2:=by
 obtain⟨v0,_,d0,_,_,_,rfl,rfl,rfl,h0,HF⟩:=trodAll_cons h;obtain⟨v1,_,d1,_,_,_,rfl,rfl,rfl,h1,HN⟩:=trodAll_cons HF;obtain⟨v2,_,d2,_,_,_,rfl,rfl,rfl,h2,h3'⟩:=trodAll_cons HN;obtain⟨rfl,rfl,rfl⟩:=trodAll_nil h3';exact⟨v0,v1,v2,d0,d1,d2,_,_,_,rfl,rfl,h0,h1,h2⟩
set_option maxRecDepth 100000 in
def yG(H:Type)(enc:af×ad->H)(W:World)(base:Nat)(args:Array ad)(ds gs:List (DataW H))(rH:List MemPlace)
 (L7:∀(j:Nat) t v,Tryz.f5.params[j]? =some t->args[j]? =some v->Value.okWide Tryz.prog W .any base t v)(hW:DataW.Whole enc Tryz.prog Tryz.f5.params.toList Rows.historyPlainSpec.vars false W args.toList ds gs rH)(hL:laidMetH Tryz.prog Rows.historyPlainRow.laid W):
 Calls Tryz.prog 5 args W λe W'=>∃v,e=.returned v/\Rows.historyPlainSpec.post enc Tryz.prog Tryz.f5 false true false false W args v W':=by
 have hW':=hW;obtain⟨p,q,hA0,hV,rfl,hfz,GN⟩:=hW;have hA:DataW.TrodAll enc Tryz.prog W 0 (λ_=>true) true Tryz.f5.params.toList args.toList ds p:=hA0;rw[Tryz.params5]at hA L7;obtain⟨v0,v1,v2,d0,d1,d2,p0,p1,p2,da,rfl,h0,h1,h2⟩:=Fu hA;obtain rfl:args=#[v0,v1,v2]:=qn.1 da;have hl:=YY hL;obtain⟨σ1,W1,v,sv,o1,s1,l1,r1,a1⟩:=ahZ (aoH hl) (L7 0 24 v0 rfl rfl) h0;obtain⟨σ2,W2,lv,l,o2,s2,l2,r2,a2,b2⟩:=afW o1 (L7 1 54 v1 rfl rfl) h1;obtain⟨n,rfl,b3,b4⟩:=amq Tryz.underlying42 (L7 2 42 v2 rfl rfl);have o9:=o2;have s9:=s1.trans s2;have hc:=T1 akR o9 s9 (args:=[eQ v sv,lv,.int .u16 n]) (.cons (r1.mono s2) (.cons r2 (.cons (.int _ _) .nil))) (Lu (aqt (l1.trans l2)) (a1.mono l2) a2 b2 b3 b4);refine hc.mono λe W' ⟨he,hq⟩=>⟨_,he,?_⟩
 exact XX anW apT (by rw[Tryz.params5];intro t ht;revert t;exact DI (by kernel_rfl)) hW' hq rfl rfl rfl Tryz.underlying4
set_option maxRecDepth 100000 in
def BI(os:Os)(NE:os.Started)(H:Type)(enc:af×ad->H)(F:Stop.Interp):
 ReturnsInHanded {} Tryz.checked os 5 .any ((OpenSpec.ofChange Rows.historyPlainSpec).preRow enc Tryz.prog Tryz.f5 Rows.historyPlainRow.domain false Rows.historyPlainRow.laid) (((OpenSpec.ofChange Rows.historyPlainSpec).at F).post enc Tryz.prog Tryz.f5 false true false false):=by
 obtain⟨jz,hx⟩:=CI os enc;refine returnsInHanded_of_row (C:=Tryz.checked) (s:=OpenSpec.ofChange Rows.historyPlainSpec) own NE (by kernel_rfl) Tryz.func5
  (witness_row_at (enc:=enc) (C:=Tryz.checked) false (FT os) qD rfl (by kernel_rfl) (by kernel_rfl) (by kernel_rfl)
    (OpenSpec.preRow_of_cond 8 hx (by kernel_rfl) (λk hk=>by cases hk) (by kernel_rfl) (F5 os))) ?_
 intro W base args ds gs rH L7 hW _ _ _ hL _ _;exact yG H enc W base args ds gs rH L7 hW hL
def Dz:Rows.HistoryPlainSaid:=
 OpenClaim.holds_of_cond 5 Tryz.f5 rfl rfl rfl rfl rfl rfl rfl ⟨rfl,rfl,rfl,rfl,rfl⟩ rfl rfl rfl rfl rfl (by kernel_rfl) Tryz.func5 Bq
  (DI (by kernel_rfl)) (by unfold Func.isWrapper;first|(rw[an (by decide+kernel)];kernel_rfl)|(rw[ap (by decide+kernel)];exact⟨rfl,rfl⟩))
  (λos NE H enc _ F=>by rw[OpenClaim.pre_eq_preRow];exact BI os NE H enc F)
def CC(f:FuncId)(fn:Func)(hf:Tryz.pinned.checked.prog.funcNamed "groundling/groundlinglaw24.HistoryPlain" =some f)(LK:Tryz.pinned.checked.prog.funcs[f]? =some fn):
 false=Tryz.pinned.checked.prog.looks []/\∀(j:Nat) t,fn.params[j]? =some t->Tryz.pinned.checked.prog.wantsStandIn t=false:=by
 obtain rfl:f=5:=AQ ((show Tryz.prog.funcNamed "groundling/groundlinglaw24.HistoryPlain" =some 5 by kernel_rfl).symm.trans hf)|>.symm;obtain rfl:fn=Tryz.f5:=(AQ (Tryz.func5.symm.trans LK)).symm;refine⟨alS,λj t ht=>?_⟩;rw[Tryz.params5]at ht;have hm:=Array.mem_of_getElem? ht;simp only[List.mem_toArray,eI,List.not_mem_nil,or_false]at hm;rcases hm with rfl|rfl|rfl
 ·exact(show Tryz.prog.wantsStandIn 24=false by kernel_rfl)
 ·exact(show Tryz.prog.wantsStandIn 54=false by kernel_rfl)
 ·exact(show Tryz.prog.wantsStandIn 42=false by kernel_rfl)
theorem historyPlain_card:Rows.HistoryPlainCardSaid:=
 Claim7.holds_tied_plain_at .later [] _ _ _ _ Dz (λ_ h=>by cases h) (by kernel_rfl) (λ_ h=>by cases h) historyPlain_row_tie rfl ⟨rfl,rfl⟩ (by kernel_rfl) rfl CC C7
end Go.Proofs.YtmaoneengdafhaaGreatDoor
