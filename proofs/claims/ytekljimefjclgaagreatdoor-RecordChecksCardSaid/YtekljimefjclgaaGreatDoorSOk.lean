/- The engine's answers are those of the model, in this seat. -/
import Derived.Test.YtekljimefjclgaaGreatDoorSShown
import Derived.Test.YtekljimefjclgaaGreatDoorPartC
set_option linter.unusedVariables false
set_option linter.unusedSimpArgs false
set_option linter.unusedSectionVars false
set_option linter.defProp false
set_option maxRecDepth 100000
namespace Go.Proofs.YtekljimefjclgaaGreatDoor
open Go Go.Eng Go.RowKit
def Q5:Tryz.prog.follows .mixedOrders=true:=by kernel_rfl
def UJ:ky (opens.ng) QX 0 Tryz.prog.funcs.toList=true:=by kernel_rfl
def P1: @bV opens Tryz.prog opens.ng specs:=by
 refine @Gu opens _ _ _ ?_;intro x hx;have h2:x=(7,@BB opens 7 jF Fo)\/x=(75,@WK opens 75)\/x=(165,@Ao opens 165):=by simpa using hx
 rcases h2 with rfl|rfl|rfl
 ·refine @Ss opens _ _ 7 _ _ Tryz.func7 (by kernel_rfl) rfl _ (by kernel_rfl) _ ?_;intro args v hv w hl;match args,hv with
  |[],hv=>simp only[Fo,fI]at hv;subst hv;exact Gb w hl
 ·exact @Ri opens _ _ (by decide) 75 _ _ Tryz.func75 (by kernel_rfl) rfl Gy Da
 ·exact @PY opens _ _ 165 _ _ Tryz.func165 (by kernel_rfl) rfl λblk off cap zs w hH hb hl=>Any.slices_Sort_int ado blk off cap zs w hH hb hl
def Xa: @bV opens Tryz.prog opens.ng bl:= @aco opens _ _ _ Q5 UJ P1
end Go.Proofs.YtekljimefjclgaaGreatDoor
