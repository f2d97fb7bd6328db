/- The package variables as the text lays them, and a world in which they lie so. -/
import Derived.Test.YtnigceddndemkaaGreatDoorPlainC
import Derived.Test.YtnigceddndemkaaGreatDoorSOk
import Derived.Test.YtnigceddndemkaaGreatDoorCards
import Derived.Test.YtnigceddndemkaaGreatDoorTie
import Derived.WalkKit
import Derived.ProofKit
import Derived.Deep.DeepHandedRow
import Derived.Lib.LaidTab
set_option linter.unusedVariables false
namespace Go.Proofs.YtnigceddndemkaaGreatDoor
open Go Go.Eng Go.ChangeShapes Go.WideShapes Go.ChangeAt Go.RowKit
noncomputable def firstCells:List Value:=match Go.Pinned.utf8First with
 |.agg l=>l.map λd=>match d with
  |.lit (.int k n)=>Value.int k n
  |_=>.nilFunc
 |_=>[]
noncomputable def Z0:List Value:=(([128,191,160,191,128,159,144,191,128,143]++List.replicate 22 0:List Int)).map (Value.int .u8)
noncomputable def VI(cs:List Value):Obj->Obj
 |.cells _ t frozen=>.cells cs.toArray t frozen
 |o=>o
noncomputable def GJ(os:Os):World:=
 {World.holding Tryz.prog os ⟨#[],#[],[]⟩with heap:=((World.holding Tryz.prog os ⟨#[],#[],[]⟩).heap.modify 5 (VI firstCells)).modify 6 (VI Z0)}
theorem own:ownKnob Tryz.prog.godebug=none:=by kernel_rfl
theorem a9P:Tryz.prog.globalNamed "unicode/utf8.first" =some 5:=by kernel_rfl
theorem a2r{W:World}{tabs:List (String×DataW Unit)}(ht:tabs=Rows.shardsLoadsRow.laid)(h:laidMetH Tryz.prog tabs W):OP Ho.globW W.heap:=by
 subst ht;rw[MakeChecks.laidMetH_plain _ _ _ (by kernel_rfl)]at h;obtain⟨ps,h,_⟩:=h;obtain⟨_,_,_,_,_,_,_,_,_,_,h2,_⟩:=h;obtain⟨g',t',cs,fuel,p,q,hg',ht',hvar,hd,hr,_⟩:=h2;intro x hx;have hx2:x=(5,[]):=by simpa[Ho.globW]using hx
 subst hx2;unfold World.var? at hvar;rw[a9P,Option.bind_some]at hvar;split at hvar
 ·rename_i cs' t fr hh;exact⟨_,t,fr,hh,λi v hv=>by simp at hv⟩
 ·cases hvar
abbrev aBT:Value:=.agg #[.int .i64 0,.int .i64 0,.int .i64 0,.slice none 0 0]
def aCA{H:Type}:DataW H:=.agg [.lit (.int .i64 0),.lit (.int .i64 0),.lit (.int .i64 0),.nil]
end Go.Proofs.YtnigceddndemkaaGreatDoor
