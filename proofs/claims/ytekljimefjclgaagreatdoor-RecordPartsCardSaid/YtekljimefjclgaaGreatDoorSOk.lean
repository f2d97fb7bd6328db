/- The engine's answers are those of the model, in this seat. -/
import Derived.Test.YtekljimefjclgaaGreatDoorSShown
import Derived.Test.YtekljimefjclgaaGreatDoorPartC
set_option linter.unusedVariables false
set_option linter.unusedSimpArgs false
set_option linter.unusedSectionVars false
set_option linter.defProp false
set_option maxRecDepth 100000
namespace Go.Proofs.YtekljimefjclgaaGreatDoor
open Go Go.Eng Go.RowKit
def UK:Tryz.prog.follows .mixedOrders=true:=by kernel_rfl
def Y4:lG (opens.ng) Us 0 Tryz.prog.funcs.toList=true:=by kernel_rfl
def SE: @cw opens Tryz.prog opens.ng specs:=by
 refine @Jl opens _ _ _ ?_;intro x hx;have h2:x=(7,@Cz opens 7 kT G4)\/x=(75,@chk opens 75)\/x=(165,@Eb opens 165):=by simpa using hx
 rcases h2 with rfl|rfl|rfl
 ·refine @U0 opens _ _ 7 _ _ Tryz.func7 (by kernel_rfl) rfl _ (by kernel_rfl) _ ?_;intro args v hv w hl;match args,hv with
  |[],hv=>simp only[G4,gJ]at hv;subst hv;exact Kb w hl
 ·exact @Wi opens _ _ (by decide) 75 _ _ Tryz.func75 (by kernel_rfl) rfl Io Fo
 ·exact @Ws opens _ _ 165 _ _ Tryz.func165 (by kernel_rfl) rfl λblk off cap zs w hH hb hl=>Any.slices_Sort_int aiI blk off cap zs w hH hb hl
def abX: @cw opens Tryz.prog opens.ng bm:= @ah3 opens _ _ _ UK Y4 SE
end Go.Proofs.YtekljimefjclgaaGreatDoor
