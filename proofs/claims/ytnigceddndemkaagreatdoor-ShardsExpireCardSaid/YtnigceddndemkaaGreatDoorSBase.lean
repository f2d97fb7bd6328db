/- What this seat's open texts rest on: the orders, the program's texts, and the callees that are answered for. -/
import Derived.Test.YtnigceddndemkaaGreatDoorOpnA
import Derived.Test.YtnigceddndemkaaGreatDoorOpzA
import Derived.Test.YtnigceddndemkaaGreatDoorSTab
import Derived.Test.YtnigceddndemkaaGreatDoorEngB
import Derived.Test.YtnigceddndemkaaGreatDoorChecked
namespace Go.Proofs.YtnigceddndemkaaGreatDoor
open Go Go.Eng
noncomputable instance opens:PlanTab:=funTab (λid ops=>T.get (path (H8 id ops)) tab) []
noncomputable def Z5(i:Nat):Code:=MG Tryz.prog i
noncomputable def rss(i:Nat):Array ResultVar:=TP Tryz.prog i
def OE(c:UInt8):Bool:=decide (97<=c.toNat)&&decide (c.toNat<=122)||decide (48<=c.toNat)&&decide (c.toNat<=57)||c.toNat==45
def zJ(l:List UInt8):Bool:=match l with
 |[]=>false
 |c::_=>decide (97<=c.toNat)&&decide (c.toNat<=122)&&decide (l.length<=16)&&l.all OE
def s0:List Value->Option Value
 |[]=>some (.bool true)
 |_=>none
def QG:List Nat:=[2,16,78,162,224,274,281,339,340,347,399]
noncomputable def GG:Eng.Callee:=qH [(16,rV 16 [] s0)]
noncomputable def jW:Eng.Callee:=om Tryz.prog QG GG
noncomputable def vV:Eng.Callee:=qH [(16,rV 16 [] s0),(78,pM Tryz.prog (B1 jW) [] true 2 78),(274,pM Tryz.prog (rH jW 275 276) [] false 1 274)]
noncomputable def aK:Eng.Callee:=om Tryz.prog QG vV
theorem UP:CLe GG vV:=by
 have key:∀(F:Nat) (c:Eng.Callee) (l l':List (Nat×Eng.Callee)),CLe (qH l) (qH l')->CLe (qH ((F,c)::l)) (qH ((F,c)::l')):=by
  intro F c l l' hl f a W r h;unfold qH at h|-;split at h
  ·split at h
   ·exact h
   ·exact hl _ _ _ _ h
  ·cases h
 unfold GG vV;refine key _ _ _ _ ?_;intro f a W r h;unfold qH at h;cases h
theorem a0b:CLe jW aK:=M1 UP
theorem tN(W:AW):aK (.func (.func 16) #[] #[]) [] W=some (.bool true,W):=by have h0:rV 16 [] s0 (.func (.func 16) #[] #[]) [] W=some (.bool true,W):=RK (λ_ h=>by cases h) rfl rfl rfl;have h1:vV (.func (.func 16) #[] #[]) [] W=some (.bool true,W):=h0;have h2:=O7 (P:=Tryz.prog) (bad:=QG) (spec:=vV) (i:=16) (by decide) h1;rw[FX (.refl _)]at h2;exact h2
theorem O4{F k:Nat}{ag:Bool}{ans:C9}(hb:G7 F QG=true)(hs:∀fs args W,vV (.func (.func F) fs #[]) args W=pM Tryz.prog ans [] ag k F (.func (.func F) fs #[]) args W){W W':AW}{args:List Value}(h:SortFA Tryz.prog ans [] ag k W args W'):aK (.func (.func F) #[] #[]) args W=some (.tuple #[],W'):=by have h1:vV (.func (.func F) #[] #[]) args W=some (.tuple #[],W'):=(hs _ _ _).trans (QJ h);have h2:=O7 (P:=Tryz.prog) (bad:=QG) (spec:=vV) (i:=F) hb h1;rw[cZ rfl]at h2;exact h2
theorem sN{W W':AW}{args:List Value}(h:SortFA Tryz.prog (B1 jW) [] true 2 W args W'):aK (.func (.func 78) #[] #[]) args W=some (.tuple #[],W'):=O4 (by decide) (λ_ _ _=>rfl) h
theorem CZ{W W':AW}{args:List Value}(h:SortFA Tryz.prog (rH jW 275 276) [] false 1 W args W'):aK (.func (.func 274) #[] #[]) args W=some (.tuple #[],W'):=O4 (by decide) (λ_ _ _=>rfl) h
end Go.Proofs.YtnigceddndemkaaGreatDoor
