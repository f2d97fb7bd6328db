/- The engine's answers are those of the model, in this seat. -/
import Derived.Test.YtmaoneengdafhaaGreatDoorSAwake24
import Derived.Test.YtmaoneengdafhaaGreatDoorPartD
import Derived.Test.YtmaoneengdafhaaGreatDoorSDl
set_option linter.unusedVariables false
set_option linter.unusedSimpArgs false
set_option linter.unusedSectionVars false
set_option linter.defProp false
set_option maxRecDepth 100000
namespace Go.Proofs.YtmaoneengdafhaaGreatDoor
open Go Go.Eng Go.RowKit
def abm:Tryz.prog.follows .mixedOrders=true:=by kernel_rfl
def ahg:nk (opens.ng) UJ 0 Tryz.prog.funcs.toList=true:=by kernel_rfl
def ahQ{F:Nat}{fn:Func}{body:Code}(LK:Tryz.prog.funcs[F]? =some fn)(qN:(fn.name== "runtime.NumGoroutine")=false)(hb:fn.body=some body)(hc:∀w:World,GR lX w.heap->Calls Tryz.prog F #[] w λe w'=>e=.returned (.bool true)/\eE w w'): @cl opens Tryz.prog opens.ng (@Ek opens F lX Gm):=by
 refine @adZ opens _ _ F _ _ LK qN hb _ (by kernel_rfl) _ ?_;intro args v hv w hl;match args,hv with
 |[],hv=>simp only[Gm,jd]at hv;subst hv;exact hc w hl
def amx: @cl opens Tryz.prog opens.ng (@chk opens 51):= @ael opens _ _ (by decide) 51 _ _ Tryz.func51 (by kernel_rfl) rfl Rm Nk
def alG: @cl opens Tryz.prog opens.ng (@Ek opens 7 lX Gm):=ahQ Tryz.func7 (by kernel_rfl) rfl Mq
def ajN: @cl opens Tryz.prog opens.ng (@SR opens 164):= @ahU opens _ _ 164 _ _ Tryz.func164 (by kernel_rfl) rfl XN
def ab2: @cl opens Tryz.prog opens.ng specs:=by
 refine @Km opens _ _ _ ?_;intro x hx;have h2:x=(7,@Ek opens 7 lX Gm)\/x=(51,@chk opens 51)\/x=(164,@SR opens 164):=by simpa using hx
 rcases h2 with rfl|rfl|rfl
 ·exact alG
 ·exact amx
 ·exact ajN
def akR: @cl opens Tryz.prog opens.ng ba:= @aqO opens _ _ _ abm ahg ab2
end Go.Proofs.YtmaoneengdafhaaGreatDoor
