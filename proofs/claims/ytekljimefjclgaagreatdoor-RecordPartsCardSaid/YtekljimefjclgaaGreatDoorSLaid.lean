/- The package variables as the text lays them, and a world in which they lie so. -/
import Derived.Test.YtekljimefjclgaaGreatDoorPartE
import Derived.Test.YtekljimefjclgaaGreatDoorSOk
import Derived.Test.YtekljimefjclgaaGreatDoorCards
import Derived.Test.YtekljimefjclgaaGreatDoorTie
import Derived.Deep.DeepHandedRow
import Derived.Lib.LaidTab
set_option linter.unusedVariables false
set_option linter.unusedSimpArgs false
set_option linter.unusedSectionVars false
set_option linter.defProp false
open Go renaming Value->ae
namespace Go.Proofs.YtekljimefjclgaaGreatDoor
open Go Go.Eng Go.ChangeShapes Go.WideShapes Go.ChangeAt Go.RowKit
noncomputable def firstCells:List ae:=match Go.Pinned.utf8First with
 |.agg l=>l.map λd=>match d with
  |.lit (.int k n)=>Value.int k n
  |_=>.nilFunc
 |_=>[]
noncomputable def MK:List ae:=(([128,191,160,191,128,159,144,191,128,143]++List.replicate 22 0:List Int)).map (Value.int .u8)
noncomputable def DW(cs:List ae):Obj->Obj
 |.cells _ t frozen=>.cells cs.toArray t frozen
 |o=>o
noncomputable def yT(os:Os):World:=
 {World.holding Tryz.prog os ⟨#[],#[],[]⟩with heap:=(((World.holding Tryz.prog os ⟨#[],#[],[]⟩).heap.modify 1 (DW firstCells)).modify 2 (DW MK)).modify 0 (DW rz)}
def own:ownKnob Tryz.prog.godebug=none:=by kernel_rfl
def ZH:Tryz.prog.globalNamed "groundling/plans.uses" =some 0:=by kernel_rfl
def ae7:(Tryz.prog.globals[0]?).map (·.type)=some 172:=by kernel_rfl
def agL:Tryz.prog.cellsOf 172=13:=by kernel_rfl
def akx:Tryz.prog.cellsOf 3=1:=by kernel_rfl
def R7{W:World}(h:laidMetH Tryz.prog Rows.recordChecksRow.laid W):vI kT W.heap:=by
 rw[MakeChecks.laidMetH_plain _ _ _ (by kernel_rfl)]at h;obtain⟨ps,⟨_,_,_,_,_,_,_,_,_,_,⟨g,t,cs,wm,p,q,hg,ht,alT,hd,_,_⟩,_⟩,_⟩:=h;obtain rfl:=wU (ZH.symm.trans hg);obtain rfl:=wU (ae7.symm.trans ht);have ie:DataW.trod (λ_=>()) Tryz.prog W 0 (λ_=>true) false wm 172 cs.toList=some (Lib.tabData .i64 Nd,p):=hd;have pw:=Lib.cells_of_tab Tryz.underlying172 Tryz.underlying3 akx agL ie;have hc:∀(i:Nat) (v:ae),rz[i]? =some v->W.cell? ⟨0,i,none⟩=some v:=λi v hv=>by have:=World.var?_cell ZH alT i;rw[this,<-ug,pw];exact hv
 have h0:=hc 0 (.af 0) rfl;unfold World.cell? at h0;split at h0
 ·rename_i c t fr hh;intro x hx;obtain rfl:x=(0,rz):=by simpa[kT]using hx
  refine⟨c,t,fr,hh,λi v hv=>⟨?_,?_⟩⟩
  ·have h1:=hc i v hv;unfold World.cell? at h1;simp only[hh]at h1;exact h1
  ·obtain⟨n,_,rfl⟩:=kq.1 (qw hv);rfl
 ·cases h0
abbrev alg:ae:=.agg #[.af 0,.af 0,.af 0,.slice none 0 0,.slice none 0 0]
def amd{H:Type}:DataW H:=.agg [.agg [.lit (.af 0),.lit (.af 0),.lit (.af 0),.nil],.nil]
end Go.Proofs.YtekljimefjclgaaGreatDoor
