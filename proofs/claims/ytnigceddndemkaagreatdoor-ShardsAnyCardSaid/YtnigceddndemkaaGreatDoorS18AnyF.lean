/- Facts of ShardsAny. -/
import Derived.Test.YtnigceddndemkaaGreatDoorSFacts
namespace Go.Proofs.YtnigceddndemkaaGreatDoor
open Go Go.ChangeShapes Go.WideShapes
set_option maxRecDepth 100000
theorem NC:false=Rows.shardsAnyRow.goesBy Tryz.pinned.checked.prog:=by kernel_rfl
theorem F4:(Rows.shardsAnyRow.inPlace==Tryz.pinned.checked.prog.inPlace 6)=true:=by kernel_rfl
theorem xI:(Rows.shardsAnyRow.unfollowed==Tryz.pinned.checked.prog.unfollowed 6)=true:=by kernel_rfl
theorem BJ:(Rows.shardsAnyRow.recurses==Tryz.pinned.checked.prog.recurses 6)=true:=by kernel_rfl
theorem JH:(Rows.shardsAnyRow.named==Tryz.pinned.checked.prog.varsNamed 6)=true:=by kernel_rfl
theorem G5:joinedFacts Tryz.pinned.checked.prog 6 Tryz.f6 (OpenSpec.ofChange Rows.shardsAnySpec).bare Rows.shardsAnyRow=true:=by unfold joinedFacts;rw[F4,xI,BJ,JH,a4i,a0t,a9b,a9N,Z9,XF,a1K,a8P,aBc];kernel_rfl
end Go.Proofs.YtnigceddndemkaaGreatDoor
