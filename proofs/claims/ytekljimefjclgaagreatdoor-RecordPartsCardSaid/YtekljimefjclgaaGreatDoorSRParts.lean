/- RecordParts answers true at every record, lock and number. -/
import Derived.Test.YtekljimefjclgaaGreatDoorSLaid
import Derived.Test.YtekljimefjclgaaGreatDoorSRPartsF
set_option linter.unusedVariables false
set_option linter.unusedSimpArgs false
set_option linter.unusedSectionVars false
set_option linter.defProp false
open Go renaming TypeId->ai,Value->ae
namespace Go.Proofs.YtekljimefjclgaaGreatDoor
open Go Go.Eng Go.ChangeShapes Go.WideShapes Go.ChangeAt Go.RowKit
def nC:Array ae:=#[alg,.af 0,.af 0]
def Bk(os:Os):laidMet Tryz.prog Rows.recordPartsRow.laid ((yT os).forCall (λ_ _=>0) ⟨#[],nC,[]⟩).memory:=
 laidMet_of_run' 8 (by kernel_rfl) (by kernel_rfl)
def yg(os:Os){H:Type}(enc:ai×ae->H):∃je,DataW.whole enc Tryz.prog ((yT os).forCall (λ_ _=>0) ⟨#[],nC,[]⟩).memory Tryz.f5.params.toList Rows.recordPartsSpec.vars false (nC:Array ae).toList 8=some ([amd,.lit (.af 0),.lit (.af 0)],[],je):=
 ⟨[],by kernel_rfl⟩
def Bz{H:Type}{enc:ai×ae->H}{W:World}{args:List ae}{ds:List (DataW H)}{p:List MemPlace}(h:DataW.TrodAll enc Tryz.prog W 0 (λ_=>true) true [27,3,3] args ds p):
 ∃v0 v1 v2 d0 d1 d2 p0 p1 p2,args=[v0,v1,v2]/\ds=[d0,d1,d2]/\DataW.Trod enc Tryz.prog W 0 (λ_=>true) true 27 v0 d0 p0/\DataW.Trod enc Tryz.prog W 0 (λ_=>true) true 3 v1 d1 p1/\DataW.Trod enc Tryz.prog W 0 (λ_=>true) true 3 v2 d2 p2:=by
 obtain⟨v0,_,d0,_,_,_,rfl,rfl,rfl,h0,UB⟩:=trodAll_cons h;obtain⟨v1,_,d1,_,_,_,rfl,rfl,rfl,h1,h2'⟩:=trodAll_cons UB;obtain⟨v2,_,d2,_,_,_,rfl,rfl,rfl,h2,h3'⟩:=trodAll_cons h2';obtain⟨rfl,rfl,rfl⟩:=trodAll_nil h3';exact⟨v0,v1,v2,d0,d1,d2,_,_,_,rfl,rfl,h0,h1,h2⟩
set_option maxRecDepth 100000 in
def uz(H:Type)(enc:ai×ae->H)(W:World)(base:Nat)(args:Array ae)(ds gs:List (DataW H))(mK:List MemPlace)
 (Jd:∀(j:Nat) t v,Tryz.f5.params[j]? =some t->args[j]? =some v->Value.okWide Tryz.prog W .any base t v)(hW:DataW.Whole enc Tryz.prog Tryz.f5.params.toList Rows.recordPartsSpec.vars false W args.toList ds gs mK)(hL:laidMetH Tryz.prog Rows.recordPartsRow.laid W):
 Calls Tryz.prog 5 args W λe W'=>∃v,e=.returned v/\Rows.recordPartsSpec.post enc Tryz.prog Tryz.f5 false true false false W args v W':=by
 have hW':=hW;obtain⟨p,q,hA0,hV,rfl,hfz,hnd⟩:=hW;have hA:DataW.TrodAll enc Tryz.prog W 0 (λ_=>true) true Tryz.f5.params.toList args.toList ds p:=hA0;rw[Tryz.params5]at hA Jd;obtain⟨v0,v1,v2,d0,d1,d2,p0,p1,p2,db,rfl,h0,h1,h2⟩:=Bz hA;obtain rfl:args=#[v0,v1,v2]:=qv.1 db;have hl:=R7 hL;obtain⟨σ1,W1,v,sv,ev,l,o1,s1,l1,r1,a1,b1,k1⟩:=Up (aif hl) (Jd 0 27 v0 rfl rfl) h0;obtain⟨i,rfl⟩:=okWide_int Tryz.underlying3 (Jd 1 3 v1 rfl rfl);obtain⟨j,rfl⟩:=okWide_int Tryz.underlying3 (Jd 2 3 v2 rfl rfl);have o9:=o1;have s9:=s1;have hc:=Nb abX o9 s9 (args:=[pz v sv ev,.af i,.af j]) (.cons r1 (.cons (.int _ _) (.cons (.int _ _) .nil))) (Kt (aff l1) a1 b1 k1 i j);refine hc.mono λe W' ⟨he,hq⟩=>⟨_,he,?_⟩
 exact PN ajl afT (by rw[Tryz.params5];intro t ht;revert t;exact tz (by kernel_rfl)) hW' hq rfl rfl rfl Tryz.underlying4
set_option maxRecDepth 100000 in
def wq(os:Os)(Hb:os.Started)(H:Type)(enc:ai×ae->H)(F:Stop.Interp):
 ReturnsInHanded {} Tryz.checked os 5 .any ((OpenSpec.ofChange Rows.recordPartsSpec).preRow enc Tryz.prog Tryz.f5 Rows.recordPartsRow.domain false Rows.recordPartsRow.laid) (((OpenSpec.ofChange Rows.recordPartsSpec).at F).post enc Tryz.prog Tryz.f5 false true false false):=by
 obtain⟨je,hx⟩:=yg os enc;refine returnsInHanded_of_row (C:=Tryz.checked) (s:=OpenSpec.ofChange Rows.recordPartsSpec) own Hb (by kernel_rfl) Tryz.func5
  (witness_row_at (enc:=enc) (C:=Tryz.checked) false (yT os) nC rfl (by kernel_rfl) (by kernel_rfl) (by kernel_rfl)
    (OpenSpec.preRow_of_cond 8 hx (by kernel_rfl) (λk hk=>by cases hk) (by kernel_rfl) (Bk os))) ?_
 intro W base args ds gs mK Jd hW _ _ _ hL _ _;exact uz H enc W base args ds gs mK Jd hW hL
def Ac:Rows.RecordPartsSaid:=
 OpenClaim.holds_of_cond 5 Tryz.f5 rfl rfl rfl rfl rfl rfl rfl ⟨rfl,rfl,rfl,rfl,rfl⟩ rfl rfl rfl rfl rfl (by kernel_rfl) Tryz.func5 wd
  (tz (by kernel_rfl)) (by unfold Func.isWrapper;first|(rw[ax (by decide+kernel)];kernel_rfl)|(rw[ay (by decide+kernel)];exact⟨rfl,rfl⟩))
  (λos Hb H enc _ F=>by rw[OpenClaim.pre_eq_preRow];exact wq os Hb H enc F)
def xl(f:FuncId)(fn:Func)(hf:Tryz.pinned.checked.prog.funcNamed "groundling/groundlinglaw29.RecordParts" =some f)(Ki:Tryz.pinned.checked.prog.funcs[f]? =some fn):
 false=Tryz.pinned.checked.prog.looks []/\∀(j:Nat) t,fn.params[j]? =some t->Tryz.pinned.checked.prog.wantsStandIn t=false:=by
 obtain rfl:f=5:=wU ((show Tryz.prog.funcNamed "groundling/groundlinglaw29.RecordParts" =some 5 by kernel_rfl).symm.trans hf)|>.symm;obtain rfl:fn=Tryz.f5:=(wU (Tryz.func5.symm.trans Ki)).symm;refine⟨aaL,λj t ht=>?_⟩;rw[Tryz.params5]at ht;have hm:=Array.mem_of_getElem? ht;simp only[List.mem_toArray,dz,List.not_mem_nil,or_false]at hm;rcases hm with rfl|rfl|rfl
 ·exact(show Tryz.prog.wantsStandIn 27=false by kernel_rfl)
 ·exact(show Tryz.prog.wantsStandIn 3=false by kernel_rfl)
 ·exact(show Tryz.prog.wantsStandIn 3=false by kernel_rfl)
theorem recordParts_card:Rows.RecordPartsCardSaid:=
 Claim7.holds_tied_plain_at .later [] _ _ _ _ Ac (λ_ h=>by cases h) (by kernel_rfl) (λ_ h=>by cases h) recordParts_row_tie rfl ⟨rfl,rfl⟩ (by kernel_rfl) rfl xl zp
end Go.Proofs.YtekljimefjclgaaGreatDoor
