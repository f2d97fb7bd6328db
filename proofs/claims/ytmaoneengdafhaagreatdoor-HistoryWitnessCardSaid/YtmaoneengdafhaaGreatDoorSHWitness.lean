/- HistoryWitness answers true at every history and order. -/
import Derived.Test.YtmaoneengdafhaaGreatDoorSLaid
import Derived.Test.YtmaoneengdafhaaGreatDoorSHWitnessF
set_option linter.unusedVariables false
set_option linter.defProp false
open Go renaming TypeId->ag,Value->ad
namespace Go.Proofs.YtmaoneengdafhaaGreatDoor
open Go Go.Eng Go.ChangeShapes Go.WideShapes Go.ChangeAt Go.RowKit
def mW:Array ad:=#[asv,.slice none 0 0]
def CC(os:Os):laidMet Tryz.prog Rows.historyWitnessRow.laid ((Gm os).forCall (λ_ _=>0) ⟨#[],mW,[]⟩).memory:=
 laidMet_of_run' 8 (by kernel_rfl) (by kernel_rfl)
def AH(os:Os){H:Type}(enc:ag×ad->H):∃jb,DataW.whole enc Tryz.prog ((Gm os).forCall (λ_ _=>0) ⟨#[],mW,[]⟩).memory Tryz.f3.params.toList Rows.historyWitnessSpec.vars false (mW:Array ad).toList 8=some ([atd,.nil],[],jb):=
 ⟨[],by kernel_rfl⟩
def C3{H:Type}{enc:ag×ad->H}{W:World}{args:List ad}{ds:List (DataW H)}{p:List MemPlace}(h:DataW.TrodAll enc Tryz.prog W 0 (λ_=>true) true [27,28] args ds p):
 ∃v0 v1 d0 d1 p0 p1,args=[v0,v1]/\ds=[d0,d1]/\DataW.Trod enc Tryz.prog W 0 (λ_=>true) true 27 v0 d0 p0/\DataW.Trod enc Tryz.prog W 0 (λ_=>true) true 28 v1 d1 p1:=by
 obtain⟨v0,_,d0,_,_,_,rfl,rfl,rfl,h0,Gb⟩:=trodAll_cons h;obtain⟨v1,_,d1,_,_,_,rfl,rfl,rfl,h1,Ft⟩:=trodAll_cons Gb;obtain⟨rfl,rfl,rfl⟩:=trodAll_nil Ft;exact⟨v0,v1,d0,d1,_,_,rfl,rfl,h0,h1⟩
set_option maxRecDepth 100000 in
def wa(H:Type)(enc:ag×ad->H)(W:World)(base:Nat)(args:Array ad)(ds gs:List (DataW H))(rt:List MemPlace)
 (Pt:∀(j:Nat) t v,Tryz.f3.params[j]? =some t->args[j]? =some v->Value.okWide Tryz.prog W .any base t v)(hW:DataW.Whole enc Tryz.prog Tryz.f3.params.toList Rows.historyWitnessSpec.vars false W args.toList ds gs rt)(hL:laidMetH Tryz.prog Rows.historyWitnessRow.laid W):
 Calls Tryz.prog 3 args W λe W'=>∃v,e=.returned v/\Rows.historyWitnessSpec.post enc Tryz.prog Tryz.f3 false true false false W args v W':=by
 have hW':=hW;obtain⟨p,q,hA0,hV,rfl,hfz,G8⟩:=hW;have hA:DataW.TrodAll enc Tryz.prog W 0 (λ_=>true) true Tryz.f3.params.toList args.toList ds p:=hA0;rw[Tryz.params3]at hA Pt;obtain⟨v0,v1,d0,d1,p0,p1,db,rfl,h0,h1⟩:=C3 hA;obtain rfl:args=#[v0,v1]:=qk.1 db;have hl:=Yw hL;obtain⟨σ1,W1,v,sv,ev,l,o1,s1,l1,r1,a1⟩:=agR (aoi hl) (Pt 0 27 v0 rfl rfl) h0;obtain⟨σ2,W2,ov,os,o2,s2,l2,r2,a2⟩:=ahN o1 (Pt 1 28 v1 rfl rfl) h1;have o9:=o2;have s9:=s1.trans s2;have hc:=Up alA o9 s9 (args:=[KY v sv ev,ov]) (.cons (r1.mono s2) (.cons r2 .nil)) (Ir (anQ (l1.trans l2)) (a1.mono l2) a2);refine hc.mono λe W' ⟨he,hq⟩=>⟨_,he,?_⟩
 exact YJ anU aqx (by rw[Tryz.params3];intro t ht;revert t;exact DS (by kernel_rfl)) hW' hq rfl rfl rfl Tryz.underlying4
set_option maxRecDepth 100000 in
def yH(os:Os)(Pm:os.Started)(H:Type)(enc:ag×ad->H)(F:Stop.Interp):
 ReturnsInHanded {} Tryz.checked os 3 .any ((OpenSpec.ofChange Rows.historyWitnessSpec).preRow enc Tryz.prog Tryz.f3 Rows.historyWitnessRow.domain false Rows.historyWitnessRow.laid) (((OpenSpec.ofChange Rows.historyWitnessSpec).at F).post enc Tryz.prog Tryz.f3 false true false false):=by
 obtain⟨jb,hx⟩:=AH os enc;refine returnsInHanded_of_row (C:=Tryz.checked) (s:=OpenSpec.ofChange Rows.historyWitnessSpec) own Pm (by kernel_rfl) Tryz.func3
  (witness_row_at (enc:=enc) (C:=Tryz.checked) false (Gm os) mW rfl (by kernel_rfl) (by kernel_rfl) (by kernel_rfl)
    (OpenSpec.preRow_of_cond 8 hx (by kernel_rfl) (λk hk=>by cases hk) (by kernel_rfl) (CC os))) ?_
 intro W base args ds gs rt Pt hW _ _ _ hL _ _;exact wa H enc W base args ds gs rt Pt hW hL
def BR:Rows.HistoryWitnessSaid:=
 OpenClaim.holds_of_cond 3 Tryz.f3 rfl rfl rfl rfl rfl rfl rfl ⟨rfl,rfl,rfl,rfl,rfl⟩ rfl rfl rfl rfl rfl (by kernel_rfl) Tryz.func3 yQ
  (DS (by kernel_rfl)) (by unfold Func.isWrapper;first|(rw[an (by decide+kernel)];kernel_rfl)|(rw[aq (by decide+kernel)];exact⟨rfl,rfl⟩))
  (λos Pm H enc _ F=>by rw[OpenClaim.pre_eq_preRow];exact yH os Pm H enc F)
def zt(f:FuncId)(fn:Func)(hf:Tryz.pinned.checked.prog.funcNamed "groundling/groundlinglaw24.HistoryWitness" =some f)(Mn:Tryz.pinned.checked.prog.funcs[f]? =some fn):
 false=Tryz.pinned.checked.prog.looks []/\∀(j:Nat) t,fn.params[j]? =some t->Tryz.pinned.checked.prog.wantsStandIn t=false:=by
 obtain rfl:f=3:=AO ((show Tryz.prog.funcNamed "groundling/groundlinglaw24.HistoryWitness" =some 3 by kernel_rfl).symm.trans hf)|>.symm;obtain rfl:fn=Tryz.f3:=(AO (Tryz.func3.symm.trans Mn)).symm;refine⟨al0,λj t ht=>?_⟩;rw[Tryz.params3]at ht;have hm:=Array.mem_of_getElem? ht;simp only[List.mem_toArray,eU,List.not_mem_nil,or_false]at hm;rcases hm with rfl|rfl
 ·exact(show Tryz.prog.wantsStandIn 27=false by kernel_rfl)
 ·exact(show Tryz.prog.wantsStandIn 28=false by kernel_rfl)
theorem historyWitness_card:Rows.HistoryWitnessCardSaid:=
 Claim7.holds_tied_plain_at .later [] _ _ _ _ BR (λ_ h=>by cases h) (by kernel_rfl) (λ_ h=>by cases h) historyWitness_row_tie rfl ⟨rfl,rfl⟩ (by kernel_rfl) rfl zt BY
end Go.Proofs.YtmaoneengdafhaaGreatDoor
