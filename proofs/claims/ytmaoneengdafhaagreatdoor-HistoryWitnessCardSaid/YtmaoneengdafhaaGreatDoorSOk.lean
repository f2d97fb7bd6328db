/- The engine's answers are those of the model, in this seat. -/
import Derived.Test.YtmaoneengdafhaaGreatDoorSAwake24
import Derived.Test.YtmaoneengdafhaaGreatDoorPartD
import Derived.Test.YtmaoneengdafhaaGreatDoorSDl
set_option linter.defProp false
set_option maxRecDepth 100000
namespace Go.Proofs.YtmaoneengdafhaaGreatDoor
open Go Go.Eng Go.RowKit
def aaP:Tryz.prog.follows .mixedOrders=true:=by kernel_rfl
def age:nE (opens.ng) VW 0 Tryz.prog.funcs.toList=true:=by kernel_rfl
def agy{F:Nat}{fn:Func}{body:Code}(Mn:Tryz.prog.funcs[F]? =some fn)(qC:(fn.name== "runtime.NumGoroutine")=false)(hb:fn.body=some body)(hc:∀w:World,GN lU w.heap->Calls Tryz.prog F #[] w λe w'=>e=.returned (.bool true)/\eG w w'): @cl opens Tryz.prog opens.ng (@Df opens F lU F6):=by
 refine @ael opens _ _ F _ _ Mn qC hb _ (by kernel_rfl) _ ?_;intro args v hv w hl;match args,hv with
 |[],hv=>simp only[F6,iW]at hv;subst hv;exact hc w hl
def akq: @cl opens Tryz.prog opens.ng (@chk opens 51):= @adj opens _ _ (by decide) 51 _ _ Tryz.func51 (by kernel_rfl) rfl SB MQ
def akQ: @cl opens Tryz.prog opens.ng (@Df opens 7 lU F6):=agy Tryz.func7 (by kernel_rfl) rfl L2
def aju: @cl opens Tryz.prog opens.ng (@Te opens 164):= @agt opens _ _ 164 _ _ Tryz.func164 (by kernel_rfl) rfl Y8
def acs: @cl opens Tryz.prog opens.ng specs:=by
 refine @Jp opens _ _ _ ?_;intro x hx;have h2:x=(7,@Df opens 7 lU F6)\/x=(51,@chk opens 51)\/x=(164,@Te opens 164):=by simpa using hx
 rcases h2 with rfl|rfl|rfl
 ·exact akQ
 ·exact akq
 ·exact aju
def alA: @cl opens Tryz.prog opens.ng aY:= @ape opens _ _ _ aaP age acs
end Go.Proofs.YtmaoneengdafhaaGreatDoor
