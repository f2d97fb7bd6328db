/- What this seat's open texts rest on: the orders, the program's texts, and the callees that are answered for. -/
import Derived.Test.YtnigceddndemkaaGreatDoorOpnA
import Derived.Test.YtnigceddndemkaaGreatDoorOpzA
import Derived.Test.YtnigceddndemkaaGreatDoorSTab
import Derived.Test.YtnigceddndemkaaGreatDoorEngB
import Derived.Test.YtnigceddndemkaaGreatDoorChecked
namespace Go.Proofs.YtnigceddndemkaaGreatDoor
open Go Go.Eng
noncomputable instance opens:PlanTab:=funTab (λid ops=>T.get (path (MI id ops)) tab) []
noncomputable def cod(i:Nat):Code:=UU Tryz.prog i
noncomputable def rss(i:Nat):Array ResultVar:=a0N Tryz.prog i
def V9(c:UInt8):Bool:=decide (97<=c.toNat)&&decide (c.toNat<=122)||decide (48<=c.toNat)&&decide (c.toNat<=57)||c.toNat==45
def CX(l:List UInt8):Bool:=match l with
 |[]=>false
 |c::_=>decide (97<=c.toNat)&&decide (c.toNat<=122)&&decide (l.length<=16)&&l.all V9
def uH:List Value->Option Value
 |[]=>some (.bool true)
 |_=>none
def YA:List Nat:=[2,16,78,162,224,274,281,339,340,347,399]
noncomputable def ND:Eng.Callee:=tC [(16,uN 16 [] uH)]
noncomputable def lF:Eng.Callee:=om Tryz.prog YA ND
noncomputable def zC:Eng.Callee:=tC [(16,uN 16 [] uH),(78,rO Tryz.prog (IJ lF) [] true 2 78),(274,rO Tryz.prog (uZ lF 275 276) [] false 1 274)]
noncomputable def aL:Eng.Callee:=om Tryz.prog YA zC
theorem a1y:CLe ND zC:=by
 have key:∀(F:Nat) (c:Eng.Callee) (l l':List (Nat×Eng.Callee)),CLe (tC l) (tC l')->CLe (tC ((F,c)::l)) (tC ((F,c)::l')):=by
  intro F c l l' hl f a W r h;unfold tC at h|-;split at h
  ·split at h
   ·exact h
   ·exact hl _ _ _ _ h
  ·cases h
 unfold ND zC;refine key _ _ _ _ ?_;intro f a W r h;unfold tC at h;cases h
theorem a5b:CLe lF aL:=UQ a1y
theorem wT(W:AW):aL (.func (.func 16) #[] #[]) [] W=some (.bool true,W):=by have h0:uN 16 [] uH (.func (.func 16) #[] #[]) [] W=some (.bool true,W):=ZH (λ_ h=>by cases h) rfl rfl rfl;have h1:zC (.func (.func 16) #[] #[]) [] W=some (.bool true,W):=h0;have h2:=VC (P:=Tryz.prog) (bad:=YA) (spec:=zC) (i:=16) (by decide) h1;rw[LH (.refl _)]at h2;exact h2
theorem VO{F k:Nat}{ag:Bool}{ans:G8}(hb:LA F YA=true)(hs:∀fs args W,zC (.func (.func F) fs #[]) args W=rO Tryz.prog ans [] ag k F (.func (.func F) fs #[]) args W){W W':AW}{args:List Value}(h:SortFA Tryz.prog ans [] ag k W args W'):aL (.func (.func F) #[] #[]) args W=some (.tuple #[],W'):=by have h1:zC (.func (.func F) #[] #[]) args W=some (.tuple #[],W'):=(hs _ _ _).trans (XB h);have h2:=VC (P:=Tryz.prog) (bad:=YA) (spec:=zC) (i:=F) hb h1;rw[fD rfl]at h2;exact h2
theorem vP{W W':AW}{args:List Value}(h:SortFA Tryz.prog (IJ lF) [] true 2 W args W'):aL (.func (.func 78) #[] #[]) args W=some (.tuple #[],W'):=VO (by decide) (λ_ _ _=>rfl) h
theorem EK{W W':AW}{args:List Value}(h:SortFA Tryz.prog (uZ lF 275 276) [] false 1 W args W'):aL (.func (.func 274) #[] #[]) args W=some (.tuple #[],W'):=VO (by decide) (λ_ _ _=>rfl) h
end Go.Proofs.YtnigceddndemkaaGreatDoor
