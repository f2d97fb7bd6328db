/- Facts of ShardsParts. -/
import Derived.Test.YtnigceddndemkaaGreatDoorSFacts
namespace Go.Proofs.YtnigceddndemkaaGreatDoor
open Go Go.ChangeShapes Go.WideShapes
set_option maxRecDepth 100000
theorem zX:false=Rows.shardsPartsRow.goesBy Tryz.pinned.checked.prog:=by kernel_rfl
theorem wD:(Rows.shardsPartsRow.inPlace==Tryz.pinned.checked.prog.inPlace 3)=true:=by kernel_rfl
theorem sP:(Rows.shardsPartsRow.unfollowed==Tryz.pinned.checked.prog.unfollowed 3)=true:=by kernel_rfl
theorem uQ:(Rows.shardsPartsRow.recurses==Tryz.pinned.checked.prog.recurses 3)=true:=by kernel_rfl
theorem y9:(Rows.shardsPartsRow.named==Tryz.pinned.checked.prog.varsNamed 3)=true:=by kernel_rfl
theorem wV:joinedFacts Tryz.pinned.checked.prog 3 Tryz.f3 (OpenSpec.ofChange Rows.shardsPartsSpec).bare Rows.shardsPartsRow=true:=by unfold joinedFacts;rw[wD,sP,uQ,y9,Z8,U4,a5a,a4u,UR,QC,Y3,a3R,a5S];kernel_rfl
end Go.Proofs.YtnigceddndemkaaGreatDoor
