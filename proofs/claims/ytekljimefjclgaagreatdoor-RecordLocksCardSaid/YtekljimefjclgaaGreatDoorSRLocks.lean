/- RecordLocks answers true at every record and beginning. -/
import Derived.Test.YtekljimefjclgaaGreatDoorSLaid
import Derived.Test.YtekljimefjclgaaGreatDoorSRLocksF
set_option linter.unusedVariables false
set_option linter.unusedSimpArgs false
set_option linter.unusedSectionVars false
set_option linter.defProp false
open Go renaming TypeId->ah,Value->ae
namespace Go.Proofs.YtekljimefjclgaaGreatDoor
open Go Go.Eng Go.ChangeShapes Go.WideShapes Go.ChangeAt Go.RowKit
def kq:Array ae:=#[afd,.int .u8 0]
def wL(os:Os):laidMet Tryz.prog Rows.recordLocksRow.laid ((uj os).forCall (λ_ _=>0) ⟨#[],kq,[]⟩).memory:=
 laidMet_of_run' 8 (by kernel_rfl) (by kernel_rfl)
def sT(os:Os){H:Type}(enc:ah×ae->H):∃MD,DataW.whole enc Tryz.prog ((uj os).forCall (λ_ _=>0) ⟨#[],kq,[]⟩).memory Tryz.f4.params.toList Rows.recordLocksSpec.vars false (kq:Array ae).toList 8=some ([aeB,.lit (.int .u8 0)],[],MD):=
 ⟨[],by kernel_rfl⟩
def wD{H:Type}{enc:ah×ae->H}{W:World}{args:List ae}{ds:List (DataW H)}{p:List MemPlace}(h:DataW.TrodAll enc Tryz.prog W 0 (λ_=>true) true [27,5] args ds p):
 ∃v0 v1 d0 d1 p0 p1,args=[v0,v1]/\ds=[d0,d1]/\DataW.Trod enc Tryz.prog W 0 (λ_=>true) true 27 v0 d0 p0/\DataW.Trod enc Tryz.prog W 0 (λ_=>true) true 5 v1 d1 p1:=by
 obtain⟨v0,_,d0,_,_,_,rfl,rfl,rfl,h0,Nf⟩:=trodAll_cons h;obtain⟨v1,_,d1,_,_,_,rfl,rfl,rfl,h1,h2'⟩:=trodAll_cons Nf;obtain⟨rfl,rfl,rfl⟩:=trodAll_nil h2';exact⟨v0,v1,d0,d1,_,_,rfl,rfl,h0,h1⟩
set_option maxRecDepth 100000 in
def o8(H:Type)(enc:ah×ae->H)(W:World)(base:Nat)(args:Array ae)(ds gs:List (DataW H))(jO:List MemPlace)
 (Gf:∀(j:Nat) t v,Tryz.f4.params[j]? =some t->args[j]? =some v->Value.okWide Tryz.prog W .any base t v)(hW:DataW.Whole enc Tryz.prog Tryz.f4.params.toList Rows.recordLocksSpec.vars false W args.toList ds gs jO)(hL:laidMetH Tryz.prog Rows.recordLocksRow.laid W):
 Calls Tryz.prog 4 args W λe W'=>∃v,e=.returned v/\Rows.recordLocksSpec.post enc Tryz.prog Tryz.f4 false true false false W args v W':=by
 have T7:=hW;obtain⟨p,q,hA0,hV,rfl,hfz,VM⟩:=hW;have hA:DataW.TrodAll enc Tryz.prog W 0 (λ_=>true) true Tryz.f4.params.toList args.toList ds p:=hA0;rw[Tryz.params4]at hA Gf;obtain⟨v0,v1,d0,d1,p0,p1,bY,rfl,h0,h1⟩:=wD hA;obtain rfl:args=#[v0,v1]:=mA.1 bY;have hl:=Jx hL;obtain⟨σ1,W1,v,sv,ev,l,o1,s1,l1,r1,a1,b1,k1⟩:=MW (Wr hl) (Gf 0 27 v0 rfl rfl) h0;obtain⟨n,rfl,hn⟩:=Xo Tryz.underlying5 (Gf 1 5 v1 rfl rfl);have o9:=o1;have s9:=s1;have hc:=FJ Ve o9 s9 (args:=[tU v sv ev,.int .u8 (n:Int)]) (.cons r1 (.cons (.int _ _) .nil)) (Dg (abo l1) a1 b1 k1 hn);refine hc.mono λe W' ⟨he,hq⟩=>⟨_,he,?_⟩
 exact Jf aba Yv (by rw[Tryz.params4];intro t ht;revert t;exact jn (by kernel_rfl)) T7 hq rfl rfl rfl Tryz.underlying4
set_option maxRecDepth 100000 in
def sn(os:Os)(Bm:os.Started)(H:Type)(enc:ah×ae->H)(F:Stop.Interp):
 ReturnsInHanded {} Tryz.checked os 4 .any ((OpenSpec.ofChange Rows.recordLocksSpec).preRow enc Tryz.prog Tryz.f4 Rows.recordLocksRow.domain false Rows.recordLocksRow.laid) (((OpenSpec.ofChange Rows.recordLocksSpec).at F).post enc Tryz.prog Tryz.f4 false true false false):=by
 obtain⟨MD,hx⟩:=sT os enc;refine returnsInHanded_of_row (C:=Tryz.checked) (s:=OpenSpec.ofChange Rows.recordLocksSpec) own Bm (by kernel_rfl) Tryz.func4
  (witness_row_at (enc:=enc) (C:=Tryz.checked) false (uj os) kq rfl (by kernel_rfl) (by kernel_rfl) (by kernel_rfl)
    (OpenSpec.preRow_of_cond 8 hx (by kernel_rfl) (λk hk=>by cases hk) (by kernel_rfl) (wL os))) ?_
 intro W base args ds gs jO Gf hW _ _ _ hL _ _;exact o8 H enc W base args ds gs jO Gf hW hL
def uJ:Rows.RecordLocksSaid:=
 OpenClaim.holds_of_cond 4 Tryz.f4 rfl rfl rfl rfl rfl rfl rfl ⟨rfl,rfl,rfl,rfl,rfl⟩ rfl rfl rfl rfl rfl (by kernel_rfl) Tryz.func4 sq
  (jn (by kernel_rfl)) (by unfold Func.isWrapper;first|(rw[ax (by decide+kernel)];kernel_rfl)|(rw[ay (by decide+kernel)];exact⟨rfl,rfl⟩))
  (λos Bm H enc _ F=>by rw[OpenClaim.pre_eq_preRow];exact sn os Bm H enc F)
def sJ(f:FuncId)(fn:Func)(hf:Tryz.pinned.checked.prog.funcNamed "groundling/groundlinglaw29.RecordLocks" =some f)(Ee:Tryz.pinned.checked.prog.funcs[f]? =some fn):
 false=Tryz.pinned.checked.prog.looks []/\∀(j:Nat) t,fn.params[j]? =some t->Tryz.pinned.checked.prog.wantsStandIn t=false:=by
 obtain rfl:f=4:=sU ((show Tryz.prog.funcNamed "groundling/groundlinglaw29.RecordLocks" =some 4 by kernel_rfl).symm.trans hf)|>.symm;obtain rfl:fn=Tryz.f4:=(sU (Tryz.func4.symm.trans Ee)).symm;refine⟨TW,λj t ht=>?_⟩;rw[Tryz.params4]at ht;have hm:=Array.mem_of_getElem? ht;simp only[List.mem_toArray,cP,List.not_mem_nil,or_false]at hm;rcases hm with rfl|rfl
 ·exact(show Tryz.prog.wantsStandIn 27=false by kernel_rfl)
 ·exact(show Tryz.prog.wantsStandIn 5=false by kernel_rfl)
theorem recordLocks_card:Rows.RecordLocksCardSaid:=
 Claim7.holds_tied_plain_at .later [] _ _ _ _ uJ (λ_ h=>by cases h) (by kernel_rfl) (λ_ h=>by cases h) recordLocks_row_tie rfl ⟨rfl,rfl⟩ (by kernel_rfl) rfl sJ ux
end Go.Proofs.YtekljimefjclgaaGreatDoor
