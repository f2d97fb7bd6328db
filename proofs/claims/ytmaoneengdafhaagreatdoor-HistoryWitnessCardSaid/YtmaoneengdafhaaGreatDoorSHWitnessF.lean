/- Facts of HistoryWitness. -/
import Derived.Test.YtmaoneengdafhaaGreatDoorSFacts
set_option linter.defProp false
set_option maxRecDepth 100000
namespace Go.Proofs.YtmaoneengdafhaaGreatDoor
open Go Go.ChangeShapes Go.WideShapes
def BY:false=Rows.historyWitnessRow.goesBy Tryz.pinned.checked.prog:=by kernel_rfl
def xg:(Rows.historyWitnessRow.inPlace==Tryz.pinned.checked.prog.inPlace 3)=true:=by kernel_rfl
def t6:(Rows.historyWitnessRow.unfollowed==Tryz.pinned.checked.prog.unfollowed 3)=true:=by kernel_rfl
def wL:(Rows.historyWitnessRow.recurses==Tryz.pinned.checked.prog.recurses 3)=true:=by kernel_rfl
def Ao:(Rows.historyWitnessRow.named==Tryz.pinned.checked.prog.varsNamed 3)=true:=by kernel_rfl
def yQ:joinedFacts Tryz.pinned.checked.prog 3 Tryz.f3 (OpenSpec.ofChange Rows.historyWitnessSpec).bare Rows.historyWitnessRow=true:=by unfold joinedFacts;rw[xg,t6,wL,Ao,aeP,VG,akg,ajz,UQ,QB,Y2,aj6,apW];kernel_rfl
end Go.Proofs.YtmaoneengdafhaaGreatDoor
