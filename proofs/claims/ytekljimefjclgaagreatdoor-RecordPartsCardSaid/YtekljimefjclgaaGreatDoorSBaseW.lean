/- What the seat's reckoned calls rest on. -/
import Derived.Test.YtekljimefjclgaaGreatDoorPartB
set_option linter.unusedVariables false
set_option linter.unusedSimpArgs false
set_option linter.unusedSectionVars false
set_option linter.defProp false
namespace Go.Proofs.YtekljimefjclgaaGreatDoor
open Go Go.Eng
@[reducible] noncomputable def anB:ak:=Ou (λid ops=>T.get (path (Hq id ops)) tab) []
noncomputable instance(priority:=low) alk:ak:=Ou (λid ops=>T.get (path (Hq id ops)) tab) [0]
def SJ:List ByteArray:=[⟨#[115]⟩]
def anb:List Nat:=[2,3,4,5,6,9,10,11,12,14,16,17,18,19,20,25,27,28,29,36,37,38,41,54,55,56,57,58,59,60,61,75,78,79,80,102,103,104,105,106,107,108,142,143,167,174,227]
def IX:Tryz.prog.follows .mixedOrders=true:=by kernel_rfl
def Oh:lG [0] anb 0 Tryz.prog.funcs.toList=true:=by kernel_rfl
end Go.Proofs.YtekljimefjclgaaGreatDoor
