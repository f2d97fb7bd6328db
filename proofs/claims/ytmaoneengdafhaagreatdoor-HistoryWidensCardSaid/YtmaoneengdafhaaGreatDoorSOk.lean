/- The engine's answers are those of the model, in this seat. -/
import Derived.Test.YtmaoneengdafhaaGreatDoorSAwake24
import Derived.Test.YtmaoneengdafhaaGreatDoorPartC
import Derived.Test.YtmaoneengdafhaaGreatDoorSDl
set_option linter.unusedVariables false
set_option linter.unusedSimpArgs false
set_option linter.unusedSectionVars false
set_option linter.defProp false
set_option maxRecDepth 100000
namespace Go.Proofs.YtmaoneengdafhaaGreatDoor
open Go Go.Eng Go.RowKit
def Vp:Tryz.prog.follows .mixedOrders=true:=by kernel_rfl
def X0:km (opens.ng) MN 0 Tryz.prog.funcs.toList=true:=by kernel_rfl
def ZH{F:Nat}{fn:Func}{body:Code}(Gj:Tryz.prog.funcs[F]? =some fn)(mY:(fn.name== "runtime.NumGoroutine")=false)(hb:fn.body=some body)(hc:∀w:World,BC jz w.heap->Calls Tryz.prog F #[] w λe w'=>e=.returned (.bool true)/\dx w w'): @bI opens Tryz.prog opens.ng (@Ae opens F jz Bh):=by
 refine @WX opens _ _ F _ _ Gj mY hb _ (by kernel_rfl) _ ?_;intro args v hv w hl;match args,hv with
 |[],hv=>simp only[Bh,gK]at hv;subst hv;exact hc w hl
def adU: @bI opens Tryz.prog opens.ng (@Xv opens 51):= @Vo opens _ _ (by decide) 51 _ _ Tryz.func51 (by kernel_rfl) rfl J1 Gv
def ade: @bI opens Tryz.prog opens.ng (@Ae opens 7 jz Bh):=ZH Tryz.func7 (by kernel_rfl) rfl Gi
def acU: @bI opens Tryz.prog opens.ng (@LJ opens 164):= @Zf opens _ _ 164 _ _ Tryz.func164 (by kernel_rfl) rfl Qf
def Up: @bI opens Tryz.prog opens.ng specs:=by
 refine @EQ opens _ _ _ ?_;intro x hx;have h2:x=(7,@Ae opens 7 jz Bh)\/x=(51,@Xv opens 51)\/x=(164,@LJ opens 164):=by simpa using hx
 rcases h2 with rfl|rfl|rfl
 ·exact ade
 ·exact adU
 ·exact acU
def adi: @bI opens Tryz.prog opens.ng bf:= @aiU opens _ _ _ Vp X0 Up
end Go.Proofs.YtmaoneengdafhaaGreatDoor
