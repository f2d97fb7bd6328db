/- Facts of ShardsPlays. -/
import Derived.Test.YtnigceddndemkaaGreatDoorSFacts
namespace Go.Proofs.YtnigceddndemkaaGreatDoor
open Go Go.ChangeShapes Go.WideShapes
set_option maxRecDepth 100000
theorem JK:false=Rows.shardsPlaysRow.goesBy Tryz.pinned.checked.prog:=by kernel_rfl
theorem DN:(Rows.shardsPlaysRow.inPlace==Tryz.pinned.checked.prog.inPlace 7)=true:=by kernel_rfl
theorem xM:(Rows.shardsPlaysRow.unfollowed==Tryz.pinned.checked.prog.unfollowed 7)=true:=by kernel_rfl
theorem AX:(Rows.shardsPlaysRow.recurses==Tryz.pinned.checked.prog.recurses 7)=true:=by kernel_rfl
theorem IG:(Rows.shardsPlaysRow.named==Tryz.pinned.checked.prog.varsNamed 7)=true:=by kernel_rfl
theorem F5:joinedFacts Tryz.pinned.checked.prog 7 Tryz.f7 (OpenSpec.ofChange Rows.shardsPlaysSpec).bare Rows.shardsPlaysRow=true:=by unfold joinedFacts;rw[DN,xM,AX,IG,a8v,a2F,aBn,aBi,a3c,a1e,a5l,aB5,aDY];kernel_rfl
end Go.Proofs.YtnigceddndemkaaGreatDoor
