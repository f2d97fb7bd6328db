/- What this seat's open texts rest on: the orders, the program's texts, and the callees that are answered for. -/
import Derived.Test.YtnigceddndemkaaGreatDoorOpnA
import Derived.Test.YtnigceddndemkaaGreatDoorOpzA
import Derived.Test.YtnigceddndemkaaGreatDoorSTab
import Derived.Test.YtnigceddndemkaaGreatDoorEngB
import Derived.Test.YtnigceddndemkaaGreatDoorChecked
namespace Go.Proofs.YtnigceddndemkaaGreatDoor
open Go Go.Eng
noncomputable instance opens:PlanTab:=funTab (λid ops=>T.get (path (Y9 id ops)) tab) []
noncomputable def cod(i:Nat):Code:=a2p Tryz.prog i
noncomputable def rss(i:Nat):Array ResultVar:=a6T Tryz.prog i
def vD(c:UInt8):Bool:=decide (97<=c.toNat)&&decide (c.toNat<=122)||decide (48<=c.toNat)&&decide (c.toNat<=57)||c.toNat==45
def vH(l:List UInt8):Bool:=match l with
 |[]=>false
 |c::_=>decide (97<=c.toNat)&&decide (c.toNat<=122)&&decide (l.length<=16)&&l.all vD
def BJ:List Value->Option Value
 |[]=>some (.bool true)
 |_=>none
def a4u:List Nat:=[2,16,78,162,224,274,281,339,340,347,399]
noncomputable def X5:Eng.Callee:=yZ [(16,zS 16 [] BJ)]
noncomputable def pF:Eng.Callee:=om Tryz.prog a4u X5
noncomputable def GY:Eng.Callee:=yZ [(16,zS 16 [] BJ),(78,yG Tryz.prog (OB pF) [] true 2 78),(274,yG Tryz.prog (AB pF 275 276) [] false 1 274)]
noncomputable def aK:Eng.Callee:=om Tryz.prog a4u GY
theorem a8z:CLe X5 GY:=by
 have key:∀(F:Nat) (c:Eng.Callee) (l l':List (Nat×Eng.Callee)),CLe (yZ l) (yZ l')->CLe (yZ ((F,c)::l)) (yZ ((F,c)::l')):=by
  intro F c l l' hl f a W r h;unfold yZ at h|-;split at h
  ·split at h
   ·exact h
   ·exact hl _ _ _ _ h
  ·cases h
 unfold X5 GY;refine key _ _ _ _ ?_;intro f a W r h;unfold yZ at h;cases h
theorem aAX:CLe pF aK:=a1R a8z
theorem yE(W:AW):aK (.func (.func 16) #[] #[]) [] W=some (.bool true,W):=by have h0:zS 16 [] BJ (.func (.func 16) #[] #[]) [] W=some (.bool true,W):=a5T (λ_ h=>by cases h) rfl rfl rfl;have h1:GY (.func (.func 16) #[] #[]) [] W=some (.bool true,W):=h0;have h2:=a3u (P:=Tryz.prog) (bad:=a4u) (spec:=GY) (i:=16) (by decide) h1;rw[O4 (.refl _)]at h2;exact h2
theorem a3E{F k:Nat}{ag:Bool}{ans:OH}(hb:Y4 F a4u=true)(hs:∀fs args W,GY (.func (.func F) fs #[]) args W=yG Tryz.prog ans [] ag k F (.func (.func F) fs #[]) args W){W W':AW}{args:List Value}(h:SortFA Tryz.prog ans [] ag k W args W'):aK (.func (.func F) #[] #[]) args W=some (.tuple #[],W'):=by have h1:GY (.func (.func F) #[] #[]) args W=some (.tuple #[],W'):=(hs _ _ _).trans (a4Y h);have h2:=a3u (P:=Tryz.prog) (bad:=a4u) (spec:=GY) (i:=F) hb h1;rw[eG rfl]at h2;exact h2
theorem CU{W W':AW}{args:List Value}(h:SortFA Tryz.prog (OB pF) [] true 2 W args W'):aK (.func (.func 78) #[] #[]) args W=some (.tuple #[],W'):=a3E (by decide) (λ_ _ _=>rfl) h
theorem RH{W W':AW}{args:List Value}(h:SortFA Tryz.prog (AB pF 275 276) [] false 1 W args W'):aK (.func (.func 274) #[] #[]) args W=some (.tuple #[],W'):=a3E (by decide) (λ_ _ _=>rfl) h
end Go.Proofs.YtnigceddndemkaaGreatDoor
