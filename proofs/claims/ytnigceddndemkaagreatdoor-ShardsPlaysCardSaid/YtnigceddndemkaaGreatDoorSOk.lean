/- The engine's answers are those of the model, in this seat. -/
import Derived.Test.YtnigceddndemkaaGreatDoorSAwake18
import Derived.Test.YtnigceddndemkaaGreatDoorSBase
import Derived.Test.YtnigceddndemkaaGreatDoorSSortF
import Derived.Test.YtnigceddndemkaaGreatDoorSClo
namespace Go.Proofs.YtnigceddndemkaaGreatDoor
open Go Go.Eng Go.RowKit
set_option maxRecDepth 100000
theorem a0O:Tryz.prog.follows .mixedOrders=true:=by kernel_rfl
theorem a3C:uS (opens.ng) a4u 0 Tryz.prog.funcs.toList=true:=by kernel_rfl
theorem a9R{F:Nat}{fn:Func}{body:Code}(hfn:Tryz.prog.funcs[F]? =some fn)(hname:(fn.name== "runtime.NumGoroutine")=false)(hb:fn.body=some body)(hc:∀w:World,Calls Tryz.prog F #[] w λe w'=>e=.returned (.bool true)/\Quiet w w'): @bI opens Tryz.prog opens.ng (@zS opens F [] BJ):=by
 refine @a6l opens _ _ F _ _ hfn hname hb _ (by kernel_rfl) _ ?_;intro args v hv w hl;match args,hv with
 |[],hv=>simp only[BJ,Option.some.injEq]at hv;subst hv;exact hc w
theorem a7r: @bI opens Tryz.prog opens.ng (@zS opens 16 [] BJ):=a9R Tryz.func16 (by kernel_rfl) rfl U9
theorem a4Q: @bI opens Tryz.prog opens.ng X5:=by
 refine @GH opens _ _ _ ?_;intro x hx;have h2:x=(16,@zS opens 16 [] BJ):=by simpa using hx
 rcases h2 with rfl;exact a7r
theorem a6q: @bI opens Tryz.prog opens.ng pF:= @aAF opens _ _ _ a0O a3C a4Q
theorem a8D: @bI opens Tryz.prog opens.ng GY:=by
 refine @GH opens _ _ _ ?_;intro x hx;have h2:x=(16,@zS opens 16 [] BJ)\/x=(78,@yG opens Tryz.prog (@OB opens pF) [] true 2 78)\/x=(274,@yG opens Tryz.prog (@AB opens pF 275 276) [] false 1 274):=by simpa using hx
 rcases h2 with rfl|rfl|rfl
 ·exact a7r
 ·exact @VZ opens _ _ _ _ _ _ (by decide) (λh=>by cases h) aCC (@a6g opens _ _ _ a6q) aBN
 ·exact @VZ opens _ _ _ _ _ _ (by decide) (λ_=>rfl) aCA (@a5f opens _ _ _ _ _ a6q aBK) aBO
theorem aBR: @bI opens Tryz.prog opens.ng aK:= @aAF opens _ _ _ a0O a3C a8D
end Go.Proofs.YtnigceddndemkaaGreatDoor
