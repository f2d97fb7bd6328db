/- What the seat's reckoned calls of the venue rest on. -/
import Derived.Test.YtmaoneengdafhaaGreatDoorPartB
import Derived.Test.YtmaoneengdafhaaGreatDoorChecked
set_option linter.unusedVariables false
set_option linter.unusedSimpArgs false
set_option linter.unusedSectionVars false
set_option linter.defProp false
namespace Go.Proofs.YtmaoneengdafhaaGreatDoor
open Go Go.Eng
@[reducible] noncomputable def AC:ah:=Pj (λid ops=>T.get (path (H9 id ops)) tab) []
noncomputable instance(priority:=low) an2:ah:=Pj (λid ops=>T.get (path (H9 id ops)) tab) [0,1,3,4] (λt=>Nat.beq t 105)
def UL:List ByteArray:=[⟨#[115]⟩,⟨#[104,97,108,108]⟩,⟨#[98,111,120]⟩]
noncomputable def H5(args:List Value)(_:AW):Option Value:=match args with
 |[.string b]=>(match UL.any (zZ b)with
  |true=>some (.bool true)
  |false=>none)
 |_=>none
noncomputable def agI:Eng.Callee:=Ld [(81,Bi 81 yA),(84,PD 84 105),(116,Bi 116 H5),(51,Xv 51)]
def agH:List Nat:=[2,3,4,5,6,9,10,11,12,13,27,28,29,30,31,32,33,34,35,36,37,38,39,51,58,59,60,63,64,65,66,67,68,69,70,71,72,73,74,75,76,77,78,79,102,103,104,105,106,107,108,109,110,136,137,138,139,140,171,201,216,217,254]
def an5:List Nat:=[2,3,4,5,6,7,8,9,10,11,12,13,14,15,16,17,18,19,20,21,22,23,24,25,26,27,28,29,30,31,32,33,34,35,36,37,38,39,40,41,42,43,44,45,46,47,48,49,50,51,52,53,54,55,56,57,58,59,60,61,62,63,64,65,66,67,68,69,70,71,72,73,74,75,76,77,78,79,80,81,82,83,84,85,86,87,88,89,90,91,92,93,94,95,96,97,98,99,100,101,102,103,104,105,106,107,108,109,110,111,112,113,115,117,118,119,120,121,122,123,124,125,126,127,128,129,130,131,132,133,134,135,136,137,138,139,140,141,142,143,144,145,146,147,149,150,151,152,153,154,155,156,157,158,159,160,161,162,163,164,165,166,167,168,169,170,171,173,174,175,176,177,185,186,187,188,189,190,191,192,193,194,195,196,197,198,199,200,201,202,203,208,209,210,211,212,213,214,215,216,217,220,221,226,254]
def zi:Tryz.prog.follows .mixedOrders=true:=by kernel_rfl
def YA:km [0,1,3,4] agH 0 Tryz.prog.funcs.toList=true:=by kernel_rfl
def Je:km [] an5 0 Tryz.prog.funcs.toList=true:=by kernel_rfl
end Go.Proofs.YtmaoneengdafhaaGreatDoor
