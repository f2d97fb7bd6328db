/- The engine's answers are those of the model, in this seat. -/
import Derived.Test.YtekljimefjclgaaGreatDoorSShown
import Derived.Test.YtekljimefjclgaaGreatDoorPartC
set_option linter.unusedVariables false
set_option linter.unusedSimpArgs false
set_option linter.unusedSectionVars false
set_option linter.defProp false
set_option maxRecDepth 100000
namespace Go.Proofs.YtekljimefjclgaaGreatDoor
open Go Go.Eng Go.RowKit
def Mn:Tryz.prog.follows .mixedOrders=true:=by kernel_rfl
def PF:i9 (opens.ng) Nn 0 Tryz.prog.funcs.toList=true:=by kernel_rfl
def Oa: @bB opens Tryz.prog opens.ng specs:=by
 refine @EE opens _ _ _ ?_;intro x hx;have h2:x=(7,@xS opens 7 iO Cz)\/x=(75,@Rk opens 75)\/x=(165,@yG opens 165):=by simpa using hx
 rcases h2 with rfl|rfl|rfl
 ·refine @My opens _ _ 7 _ _ Tryz.func7 (by kernel_rfl) rfl _ (by kernel_rfl) _ ?_;intro args v hv w hl;match args,hv with
  |[],hv=>simp only[Cz,fb]at hv;subst hv;exact C8 w hl
 ·exact @LX opens _ _ (by decide) 75 _ _ Tryz.func75 (by kernel_rfl) rfl DW As
 ·exact @MF opens _ _ 165 _ _ Tryz.func165 (by kernel_rfl) rfl λVV off cap zs w hH hb hl=>Any.slices_Sort_int Wl VV off cap zs w hH hb hl
def Ve: @bB opens Tryz.prog opens.ng bD:= @aaz opens _ _ _ Mn PF Oa
end Go.Proofs.YtekljimefjclgaaGreatDoor
