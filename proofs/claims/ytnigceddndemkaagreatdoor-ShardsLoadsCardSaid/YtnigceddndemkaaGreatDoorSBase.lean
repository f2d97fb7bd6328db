/- What this seat's open texts rest on: the orders, the program's texts, and the callees that are answered for. -/
import Derived.Test.YtnigceddndemkaaGreatDoorOpnA
import Derived.Test.YtnigceddndemkaaGreatDoorOpzA
import Derived.Test.YtnigceddndemkaaGreatDoorSTab
import Derived.Test.YtnigceddndemkaaGreatDoorEngB
import Derived.Test.YtnigceddndemkaaGreatDoorChecked
namespace Go.Proofs.YtnigceddndemkaaGreatDoor
open Go Go.Eng
noncomputable instance opens:PlanTab:=funTab (λid ops=>T.get (path (WU id ops)) tab) []
noncomputable def cod(i:Nat):Code:=a2U Tryz.prog i
noncomputable def rss(i:Nat):Array ResultVar:=a8c Tryz.prog i
def vG(c:UInt8):Bool:=decide (97<=c.toNat)&&decide (c.toNat<=122)||decide (48<=c.toNat)&&decide (c.toNat<=57)||c.toNat==45
def vC(l:List UInt8):Bool:=match l with
 |[]=>false
 |c::_=>decide (97<=c.toNat)&&decide (c.toNat<=122)&&decide (l.length<=16)&&l.all vG
def zT:List Value->Option Value
 |[]=>some (.bool true)
 |_=>none
def a4O:List Nat:=[2,16,78,162,224,274,281,339,340,347,399]
noncomputable def XA:Eng.Callee:=yP [(16,zL 16 [] zT)]
noncomputable def oZ:Eng.Callee:=om Tryz.prog a4O XA
noncomputable def IR:Eng.Callee:=yP [(16,zL 16 [] zT),(78,xZ Tryz.prog (RZ oZ) [] true 2 78),(274,xZ Tryz.prog (BM oZ 275 276) [] false 1 274)]
noncomputable def aK:Eng.Callee:=om Tryz.prog a4O IR
theorem a6n:CLe XA IR:=by
 have key:∀(F:Nat) (c:Eng.Callee) (l l':List (Nat×Eng.Callee)),CLe (yP l) (yP l')->CLe (yP ((F,c)::l)) (yP ((F,c)::l')):=by
  intro F c l l' hl f a W r h;unfold yP at h|-;split at h
  ·split at h
   ·exact h
   ·exact hl _ _ _ _ h
  ·cases h
 unfold XA IR;refine key _ _ _ _ ?_;intro f a W r h;unfold yP at h;cases h
theorem aBu:CLe oZ aK:=a2R a6n
theorem xX(W:AW):aK (.func (.func 16) #[] #[]) [] W=some (.bool true,W):=by have h0:zL 16 [] zT (.func (.func 16) #[] #[]) [] W=some (.bool true,W):=a6b (λ_ h=>by cases h) rfl rfl rfl;have h1:IR (.func (.func 16) #[] #[]) [] W=some (.bool true,W):=h0;have h2:=a3H (P:=Tryz.prog) (bad:=a4O) (spec:=IR) (i:=16) (by decide) h1;rw[NQ (.refl _)]at h2;exact h2
theorem a4f{F k:Nat}{ag:Bool}{ans:OB}(hb:XW F a4O=true)(hs:∀fs args W,IR (.func (.func F) fs #[]) args W=xZ Tryz.prog ans [] ag k F (.func (.func F) fs #[]) args W){W W':AW}{args:List Value}(h:SortFA Tryz.prog ans [] ag k W args W'):aK (.func (.func F) #[] #[]) args W=some (.tuple #[],W'):=by have h1:IR (.func (.func F) #[] #[]) args W=some (.tuple #[],W'):=(hs _ _ _).trans (a4P h);have h2:=a3H (P:=Tryz.prog) (bad:=a4O) (spec:=IR) (i:=F) hb h1;rw[eG rfl]at h2;exact h2
theorem CG{W W':AW}{args:List Value}(h:SortFA Tryz.prog (RZ oZ) [] true 2 W args W'):aK (.func (.func 78) #[] #[]) args W=some (.tuple #[],W'):=a4f (by decide) (λ_ _ _=>rfl) h
theorem OC{W W':AW}{args:List Value}(h:SortFA Tryz.prog (BM oZ 275 276) [] false 1 W args W'):aK (.func (.func 274) #[] #[]) args W=some (.tuple #[],W'):=a4f (by decide) (λ_ _ _=>rfl) h
end Go.Proofs.YtnigceddndemkaaGreatDoor
