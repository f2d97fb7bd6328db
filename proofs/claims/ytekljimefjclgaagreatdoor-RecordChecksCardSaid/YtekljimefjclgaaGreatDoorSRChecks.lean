/- RecordChecks answers true at every record. -/
import Derived.Test.YtekljimefjclgaaGreatDoorSLaid
import Derived.Test.YtekljimefjclgaaGreatDoorSRChecksF
set_option linter.unusedVariables false
set_option linter.unusedSimpArgs false
set_option linter.unusedSectionVars false
set_option linter.defProp false
open Go renaming TypeId->ai,Value->ae
namespace Go.Proofs.YtekljimefjclgaaGreatDoor
open Go Go.Eng Go.ChangeShapes Go.WideShapes Go.ChangeAt Go.RowKit
def kL:Array ae:=#[ag1]
def ya(os:Os):laidMet Tryz.prog Rows.recordChecksRow.laid ((wY os).forCall (λ_ _=>0) ⟨#[],kL,[]⟩).memory:=
 laidMet_of_run' 8 (by kernel_rfl) (by kernel_rfl)
def tZ(os:Os){H:Type}(enc:ai×ae->H):∃iG,DataW.whole enc Tryz.prog ((wY os).forCall (λ_ _=>0) ⟨#[],kL,[]⟩).memory Tryz.f3.params.toList Rows.recordChecksSpec.vars false (kL:Array ae).toList 8=some ([ahV],[],iG):=
 ⟨[],by kernel_rfl⟩
def xD{H:Type}{enc:ai×ae->H}{W:World}{args:List ae}{ds:List (DataW H)}{p:List MemPlace}(h:DataW.TrodAll enc Tryz.prog W 0 (λ_=>true) true [27] args ds p):
 ∃v0 d0 p0,args=[v0]/\ds=[d0]/\DataW.Trod enc Tryz.prog W 0 (λ_=>true) true 27 v0 d0 p0:=by
 obtain⟨v0,_,d0,_,_,_,rfl,rfl,rfl,h0,PO⟩:=trodAll_cons h;obtain⟨rfl,rfl,rfl⟩:=trodAll_nil PO;exact⟨v0,d0,_,rfl,rfl,h0⟩
set_option maxRecDepth 100000 in
def qC(H:Type)(enc:ai×ae->H)(W:World)(base:Nat)(args:Array ae)(ds gs:List (DataW H))(lM:List MemPlace)
 (Md:∀(j:Nat) t v,Tryz.f3.params[j]? =some t->args[j]? =some v->Value.okWide Tryz.prog W .any base t v)(hW:DataW.Whole enc Tryz.prog Tryz.f3.params.toList Rows.recordChecksSpec.vars false W args.toList ds gs lM)(hL:laidMetH Tryz.prog Rows.recordChecksRow.laid W):
 Calls Tryz.prog 3 args W λe W'=>∃v,e=.returned v/\Rows.recordChecksSpec.post enc Tryz.prog Tryz.f3 false true false false W args v W':=by
 have WX:=hW;obtain⟨p,q,hA0,hV,rfl,hfz,hnd⟩:=hW;have hA:DataW.TrodAll enc Tryz.prog W 0 (λ_=>true) true Tryz.f3.params.toList args.toList ds p:=hA0;rw[Tryz.params3]at hA Md;obtain⟨v0,d0,p0,cM,rfl,h0⟩:=xD hA;obtain rfl:args=#[v0]:=oD.1 cM;have hl:=Mb hL;obtain⟨σ1,W1,v,sv,ev,l,o1,s1,l1,r1,a1,b1⟩:=T5 (ad5 hl) (Md 0 27 v0 rfl rfl) h0;have o9:=o1;have s9:=s1;have hc:=Iy Xa o9 s9 (args:=[BS v sv ev]) (.cons r1 .nil) (EY (aef l1) a1 b1);refine hc.mono λe W' ⟨he,hq⟩=>⟨_,he,?_⟩
 exact Nw adl ae5 (by rw[Tryz.params3];intro t ht;revert t;exact si (by kernel_rfl)) WX hq rfl rfl rfl Tryz.underlying4
set_option maxRecDepth 100000 in
def tg(os:Os)(E8:os.Started)(H:Type)(enc:ai×ae->H)(F:Stop.Interp):
 ReturnsInHanded {} Tryz.checked os 3 .any ((OpenSpec.ofChange Rows.recordChecksSpec).preRow enc Tryz.prog Tryz.f3 Rows.recordChecksRow.domain false Rows.recordChecksRow.laid) (((OpenSpec.ofChange Rows.recordChecksSpec).at F).post enc Tryz.prog Tryz.f3 false true false false):=by
 obtain⟨iG,hx⟩:=tZ os enc;refine returnsInHanded_of_row (C:=Tryz.checked) (s:=OpenSpec.ofChange Rows.recordChecksSpec) own E8 (by kernel_rfl) Tryz.func3
  (witness_row_at (enc:=enc) (C:=Tryz.checked) false (wY os) kL rfl (by kernel_rfl) (by kernel_rfl) (by kernel_rfl)
    (OpenSpec.preRow_of_cond 8 hx (by kernel_rfl) (λk hk=>by cases hk) (by kernel_rfl) (ya os))) ?_
 intro W base args ds gs lM Md hW _ _ _ hL _ _;exact qC H enc W base args ds gs lM Md hW hL
def vZ:Rows.RecordChecksSaid:=
 OpenClaim.holds_of_cond 3 Tryz.f3 rfl rfl rfl rfl rfl rfl rfl ⟨rfl,rfl,rfl,rfl,rfl⟩ rfl rfl rfl rfl rfl (by kernel_rfl) Tryz.func3 tr
  (si (by kernel_rfl)) (by unfold Func.isWrapper;first|(rw[ax (by decide+kernel)];kernel_rfl)|(rw[ay (by decide+kernel)];exact⟨rfl,rfl⟩))
  (λos E8 H enc _ F=>by rw[OpenClaim.pre_eq_preRow];exact tg os E8 H enc F)
def tX(f:FuncId)(fn:Func)(hf:Tryz.pinned.checked.prog.funcNamed "groundling/groundlinglaw29.RecordChecks" =some f)(F6:Tryz.pinned.checked.prog.funcs[f]? =some fn):
 false=Tryz.pinned.checked.prog.looks []/\∀(j:Nat) t,fn.params[j]? =some t->Tryz.pinned.checked.prog.wantsStandIn t=false:=by
 obtain rfl:f=3:=wy ((show Tryz.prog.funcNamed "groundling/groundlinglaw29.RecordChecks" =some 3 by kernel_rfl).symm.trans hf)|>.symm;obtain rfl:fn=Tryz.f3:=(wy (Tryz.func3.symm.trans F6)).symm;refine⟨WT,λj t ht=>?_⟩;rw[Tryz.params3]at ht;have hm:=Array.mem_of_getElem? ht;simp only[List.mem_toArray,df,List.not_mem_nil,or_false]at hm;rcases hm with rfl
 ·exact(show Tryz.prog.wantsStandIn 27=false by kernel_rfl)
theorem recordChecks_card:Rows.RecordChecksCardSaid:=
 Claim7.holds_tied_plain_at .later [] _ _ _ _ vZ (λ_ h=>by cases h) (by kernel_rfl) (λ_ h=>by cases h) recordChecks_row_tie rfl ⟨rfl,rfl⟩ (by kernel_rfl) rfl tX we
end Go.Proofs.YtekljimefjclgaaGreatDoor
