/- Facts of ShardsLoads. -/
import Derived.Test.YtnigceddndemkaaGreatDoorSFacts
namespace Go.Proofs.YtnigceddndemkaaGreatDoor
open Go Go.ChangeShapes Go.WideShapes
set_option maxRecDepth 100000
theorem JJ:false=Rows.shardsLoadsRow.goesBy Tryz.pinned.checked.prog:=by kernel_rfl
theorem CZ:(Rows.shardsLoadsRow.inPlace==Tryz.pinned.checked.prog.inPlace 5)=true:=by kernel_rfl
theorem yG:(Rows.shardsLoadsRow.unfollowed==Tryz.pinned.checked.prog.unfollowed 5)=true:=by kernel_rfl
theorem zQ:(Rows.shardsLoadsRow.recurses==Tryz.pinned.checked.prog.recurses 5)=true:=by kernel_rfl
theorem FV:(Rows.shardsLoadsRow.named==Tryz.pinned.checked.prog.varsNamed 5)=true:=by kernel_rfl
theorem EH:joinedFacts Tryz.pinned.checked.prog 5 Tryz.f5 (OpenSpec.ofChange Rows.shardsLoadsSpec).bare Rows.shardsLoadsRow=true:=by unfold joinedFacts;rw[CZ,yG,zQ,FV,a6y,a1G,aBI,aA1,a1X,ZY,a5D,aCd,aCH];kernel_rfl
end Go.Proofs.YtnigceddndemkaaGreatDoor
