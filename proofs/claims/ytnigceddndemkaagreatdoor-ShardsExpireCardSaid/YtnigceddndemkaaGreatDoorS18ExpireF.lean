/- Facts of ShardsExpire. -/
import Derived.Test.YtnigceddndemkaaGreatDoorSFacts
namespace Go.Proofs.YtnigceddndemkaaGreatDoor
open Go Go.ChangeShapes Go.WideShapes
set_option maxRecDepth 100000
theorem uT:false=Rows.shardsExpireRow.goesBy Tryz.pinned.checked.prog:=by kernel_rfl
theorem rC:(Rows.shardsExpireRow.inPlace==Tryz.pinned.checked.prog.inPlace 4)=true:=by kernel_rfl
theorem oT:(Rows.shardsExpireRow.unfollowed==Tryz.pinned.checked.prog.unfollowed 4)=true:=by kernel_rfl
theorem qR:(Rows.shardsExpireRow.recurses==Tryz.pinned.checked.prog.recurses 4)=true:=by kernel_rfl
theorem uR:(Rows.shardsExpireRow.named==Tryz.pinned.checked.prog.varsNamed 4)=true:=by kernel_rfl
theorem sU:joinedFacts Tryz.pinned.checked.prog 4 Tryz.f4 (OpenSpec.ofChange Rows.shardsExpireSpec).bare Rows.shardsExpireRow=true:=by unfold joinedFacts;rw[rC,oT,qR,uR,UA,L6,ZN,a0g,LF,K5,P3,a0B,a2s];kernel_rfl
end Go.Proofs.YtnigceddndemkaaGreatDoor
