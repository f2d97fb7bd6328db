/- The package variables as the text lays them, and a world in which they lie so. -/
import Derived.Test.YtekljimefjclgaaGreatDoorPartE
import Derived.Test.YtekljimefjclgaaGreatDoorSOk
import Derived.Test.YtekljimefjclgaaGreatDoorCards
import Derived.Test.YtekljimefjclgaaGreatDoorTie
import Derived.Deep.DeepHandedRow
import Derived.Lib.LaidTab
set_option linter.unusedVariables false
set_option linter.unusedSimpArgs false
set_option linter.unusedSectionVars false
set_option linter.defProp false
open Go renaming Value->ae
namespace Go.Proofs.YtekljimefjclgaaGreatDoor
open Go Go.Eng Go.ChangeShapes Go.WideShapes Go.ChangeAt Go.RowKit
noncomputable def firstCells:List ae:=match Go.Pinned.utf8First with
 |.agg l=>l.map λd=>match d with
  |.lit (.int k n)=>Value.int k n
  |_=>.nilFunc
 |_=>[]
noncomputable def Ji:List ae:=(([128,191,160,191,128,159,144,191,128,143]++List.replicate 22 0:List Int)).map (Value.int .u8)
noncomputable def Bd(cs:List ae):Obj->Obj
 |.cells _ t frozen=>.cells cs.toArray t frozen
 |o=>o
noncomputable def wY(os:Os):World:=
 {World.holding Tryz.prog os ⟨#[],#[],[]⟩with heap:=(((World.holding Tryz.prog os ⟨#[],#[],[]⟩).heap.modify 1 (Bd firstCells)).modify 2 (Bd Ji)).modify 0 (Bd pp)}
def own:ownKnob Tryz.prog.godebug=none:=by kernel_rfl
def Wk:Tryz.prog.globalNamed "groundling/plans.uses" =some 0:=by kernel_rfl
def aen:(Tryz.prog.globals[0]?).map (·.type)=some 172:=by kernel_rfl
def abD:Tryz.prog.cellsOf 172=13:=by kernel_rfl
def ait:Tryz.prog.cellsOf 3=1:=by kernel_rfl
def Mb{W:World}(h:laidMetH Tryz.prog Rows.recordChecksRow.laid W):tI jF W.heap:=by
 rw[MakeChecks.laidMetH_plain _ _ _ (by kernel_rfl)]at h;obtain⟨ps,⟨_,_,_,_,_,_,_,_,_,_,⟨g,t,cs,uH,p,q,hg,ht,agL,hd,_,_⟩,_⟩,_⟩:=h;obtain rfl:=wy (Wk.symm.trans hg);obtain rfl:=wy (aen.symm.trans ht);have gq:DataW.trod (λ_=>()) Tryz.prog W 0 (λ_=>true) false uH 172 cs.toList=some (Lib.tabData .i64 I5,p):=hd;have nK:=Lib.cells_of_tab Tryz.underlying172 Tryz.underlying3 ait abD gq;have hc:∀(i:Nat) (v:ae),pp[i]? =some v->W.cell? ⟨0,i,none⟩=some v:=λi v hv=>by have:=World.var?_cell Wk agL i;rw[this,<-rn,nK];exact hv
 have h0:=hc 0 (.af 0) rfl;unfold World.cell? at h0;split at h0
 ·rename_i c t fr hh;intro x hx;obtain rfl:x=(0,pp):=by simpa[jF]using hx
  refine⟨c,t,fr,hh,λi v hv=>⟨?_,?_⟩⟩
  ·have h1:=hc i v hv;unfold World.cell? at h1;simp only[hh]at h1;exact h1
  ·obtain⟨n,_,rfl⟩:=mC.1 (oA hv);rfl
 ·cases h0
abbrev ag1:ae:=.agg #[.af 0,.af 0,.af 0,.slice none 0 0,.slice none 0 0]
def ahV{H:Type}:DataW H:=.agg [.agg [.lit (.af 0),.lit (.af 0),.lit (.af 0),.nil],.nil]
end Go.Proofs.YtekljimefjclgaaGreatDoor
