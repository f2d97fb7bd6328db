/- The package variables as the text lays them, and a world in which they lie so. -/
import Derived.Test.YtekljimefjclgaaGreatDoorPartD
import Derived.Test.YtekljimefjclgaaGreatDoorSOk
import Derived.Test.YtekljimefjclgaaGreatDoorCards
import Derived.Test.YtekljimefjclgaaGreatDoorTie
import Derived.Deep.DeepHandedRow
import Derived.Lib.LaidTab
set_option linter.unusedVariables false
set_option linter.unusedSimpArgs false
set_option linter.unusedSectionVars false
set_option linter.defProp false
open Go renaming Value->ae
namespace Go.Proofs.YtekljimefjclgaaGreatDoor
open Go Go.Eng Go.ChangeShapes Go.WideShapes Go.ChangeAt Go.RowKit
noncomputable def firstCells:List ae:=match Go.Pinned.utf8First with
 |.agg l=>l.map λd=>match d with
  |.lit (.int k n)=>Value.int k n
  |_=>.nilFunc
 |_=>[]
noncomputable def Hd:List ae:=(([128,191,160,191,128,159,144,191,128,143]++List.replicate 22 0:List Int)).map (Value.int .u8)
noncomputable def zg(cs:List ae):Obj->Obj
 |.cells _ t frozen=>.cells cs.toArray t frozen
 |o=>o
noncomputable def uj(os:Os):World:=
 {World.holding Tryz.prog os ⟨#[],#[],[]⟩with heap:=(((World.holding Tryz.prog os ⟨#[],#[],[]⟩).heap.modify 1 (zg firstCells)).modify 2 (zg Hd)).modify 0 (zg mZ)}
def own:ownKnob Tryz.prog.godebug=none:=by kernel_rfl
def RA:Tryz.prog.globalNamed "groundling/plans.uses" =some 0:=by kernel_rfl
def Zx:(Tryz.prog.globals[0]?).map (·.type)=some 172:=by kernel_rfl
def aac:Tryz.prog.cellsOf 172=13:=by kernel_rfl
def aew:Tryz.prog.cellsOf 3=1:=by kernel_rfl
def Jx{W:World}(h:laidMetH Tryz.prog Rows.recordChecksRow.laid W):rl iO W.heap:=by
 rw[MakeChecks.laidMetH_plain _ _ _ (by kernel_rfl)]at h;obtain⟨ps,⟨_,_,_,_,_,_,_,_,_,_,⟨g,t,cs,rW,p,q,hg,ht,aeP,hd,_,_⟩,_⟩,_⟩:=h;obtain rfl:=sU (RA.symm.trans hg);obtain rfl:=sU (Zx.symm.trans ht);have fx:DataW.trod (λ_=>()) Tryz.prog W 0 (λ_=>true) false rW 172 cs.toList=some (Lib.tabData .i64 Kv,p):=hd;have mI:=Lib.cells_of_tab Tryz.underlying172 Tryz.underlying3 aew aac fx;have hc:∀(i:Nat) (v:ae),mZ[i]? =some v->W.cell? ⟨0,i,none⟩=some v:=λi v hv=>by have:=World.var?_cell RA aeP i;rw[this,<-pm,mI];exact hv
 have h0:=hc 0 (.af 0) rfl;unfold World.cell? at h0;split at h0
 ·rename_i c t fr hh;intro x hx;obtain rfl:x=(0,mZ):=by simpa[iO]using hx
  refine⟨c,t,fr,hh,λi v hv=>⟨?_,?_⟩⟩
  ·have h1:=hc i v hv;unfold World.cell? at h1;simp only[hh]at h1;exact h1
  ·obtain⟨n,_,rfl⟩:=qg.1 (mD hv);rfl
 ·cases h0
abbrev afd:ae:=.agg #[.af 0,.af 0,.af 0,.slice none 0 0,.slice none 0 0]
def aeB{H:Type}:DataW H:=.agg [.agg [.lit (.af 0),.lit (.af 0),.lit (.af 0),.nil],.nil]
end Go.Proofs.YtekljimefjclgaaGreatDoor
