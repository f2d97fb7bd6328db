/- What this seat's open texts rest on: the orders, the program's texts, and the callees that are answered for. -/
import Derived.Test.YtnigceddndemkaaGreatDoorOpnA
import Derived.Test.YtnigceddndemkaaGreatDoorOpzA
import Derived.Test.YtnigceddndemkaaGreatDoorSTab
import Derived.Test.YtnigceddndemkaaGreatDoorEngB
import Derived.Test.YtnigceddndemkaaGreatDoorChecked
namespace Go.Proofs.YtnigceddndemkaaGreatDoor
open Go Go.Eng
noncomputable instance opens:PlanTab:=funTab (λid ops=>T.get (path (UB id ops)) tab) []
noncomputable def cod(i:Nat):Code:=ZX Tryz.prog i
noncomputable def rss(i:Nat):Array ResultVar:=a4T Tryz.prog i
def a1b(c:UInt8):Bool:=decide (97<=c.toNat)&&decide (c.toNat<=122)||decide (48<=c.toNat)&&decide (c.toNat<=57)||c.toNat==45
def IG(l:List UInt8):Bool:=match l with
 |[]=>false
 |c::_=>decide (97<=c.toNat)&&decide (c.toNat<=122)&&decide (l.length<=16)&&l.all a1b
def xH:List Value->Option Value
 |[]=>some (.bool true)
 |_=>none
def a13:List Nat:=[2,16,78,162,224,274,281,339,340,347,399]
noncomputable def SQ:Eng.Callee:=wN [(16,xZ 16 [] xH)]
noncomputable def nQ:Eng.Callee:=om Tryz.prog a13 SQ
noncomputable def EA:Eng.Callee:=wN [(16,xZ 16 [] xH),(78,vH Tryz.prog (MZ nQ) [] true 2 78),(274,vH Tryz.prog (yO nQ 275 276) [] false 1 274)]
noncomputable def aL:Eng.Callee:=om Tryz.prog a13 EA
theorem a4V:CLe SQ EA:=by
 have key:∀(F:Nat) (c:Eng.Callee) (l l':List (Nat×Eng.Callee)),CLe (wN l) (wN l')->CLe (wN ((F,c)::l)) (wN ((F,c)::l')):=by
  intro F c l l' hl f a W r h;unfold wN at h|-;split at h
  ·split at h
   ·exact h
   ·exact hl _ _ _ _ h
  ·cases h
 unfold SQ EA;refine key _ _ _ _ ?_;intro f a W r h;unfold wN at h;cases h
theorem a8C:CLe nQ aL:=ZM a4V
theorem oJ(W:AW):aL (.func (.func 16) #[] #[]) [] W=some (.bool true,W):=by have h0:xZ 16 [] xH (.func (.func 16) #[] #[]) [] W=some (.bool true,W):=a3o (λ_ h=>by cases h) rfl rfl rfl;have h1:EA (.func (.func 16) #[] #[]) [] W=some (.bool true,W):=h0;have h2:=a1m (P:=Tryz.prog) (bad:=a13) (spec:=EA) (i:=16) (by decide) h1;rw[TD (.refl _)]at h2;exact h2
theorem a1c{F k:Nat}{ag:Bool}{ans:MI}(hb:R4 F a13=true)(hs:∀fs args W,EA (.func (.func F) fs #[]) args W=vH Tryz.prog ans [] ag k F (.func (.func F) fs #[]) args W){W W':AW}{args:List Value}(h:SortFA Tryz.prog ans [] ag k W args W'):aL (.func (.func F) #[] #[]) args W=some (.tuple #[],W'):=by have h1:EA (.func (.func F) #[] #[]) args W=some (.tuple #[],W'):=(hs _ _ _).trans (a1M h);have h2:=a1m (P:=Tryz.prog) (bad:=a13) (spec:=EA) (i:=F) hb h1;rw[dV rfl]at h2;exact h2
theorem yS{W W':AW}{args:List Value}(h:SortFA Tryz.prog (MZ nQ) [] true 2 W args W'):aL (.func (.func 78) #[] #[]) args W=some (.tuple #[],W'):=a1c (by decide) (λ_ _ _=>rfl) h
theorem K6{W W':AW}{args:List Value}(h:SortFA Tryz.prog (yO nQ 275 276) [] false 1 W args W'):aL (.func (.func 274) #[] #[]) args W=some (.tuple #[],W'):=a1c (by decide) (λ_ _ _=>rfl) h
end Go.Proofs.YtnigceddndemkaaGreatDoor
