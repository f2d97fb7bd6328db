/- The engine's answers are those of the model, in this seat. -/
import Derived.Test.YtnigceddndemkaaGreatDoorSAwake18
import Derived.Test.YtnigceddndemkaaGreatDoorSBase
import Derived.Test.YtnigceddndemkaaGreatDoorSSortF
import Derived.Test.YtnigceddndemkaaGreatDoorSClo
namespace Go.Proofs.YtnigceddndemkaaGreatDoor
open Go Go.Eng Go.RowKit
set_option maxRecDepth 100000
theorem OT:Tryz.prog.follows .mixedOrders=true:=by kernel_rfl
theorem VK:oV (opens.ng) YA 0 Tryz.prog.funcs.toList=true:=by kernel_rfl
theorem a3k{F:Nat}{fn:Func}{body:Code}(hfn:Tryz.prog.funcs[F]? =some fn)(hname:(fn.name== "runtime.NumGoroutine")=false)(hb:fn.body=some body)(hc:∀w:World,Calls Tryz.prog F #[] w λe w'=>e=.returned (.bool true)/\Quiet w w'): @aO opens Tryz.prog opens.ng (@uN opens F [] uH):=by
 refine @ZZ opens _ _ F _ _ hfn hname hb _ (by kernel_rfl) _ ?_;intro args v hv w hl;match args,hv with
 |[],hv=>simp only[uH,Option.some.injEq]at hv;subst hv;exact hc w
theorem a1C: @aO opens Tryz.prog opens.ng (@uN opens 16 [] uH):=a3k Tryz.func16 (by kernel_rfl) rfl IX
theorem YN: @aO opens Tryz.prog opens.ng ND:=by
 refine @zG opens _ _ _ ?_;intro x hx;have h2:x=(16,@uN opens 16 [] uH):=by simpa using hx
 rcases h2 with rfl;exact a1C
theorem a0R: @aO opens Tryz.prog opens.ng lF:= @a3N opens _ _ _ OT VK YN
theorem a0H: @aO opens Tryz.prog opens.ng zC:=by
 refine @zG opens _ _ _ ?_;intro x hx;have h2:x=(16,@uN opens 16 [] uH)\/x=(78,@rO opens Tryz.prog (@IJ opens lF) [] true 2 78)\/x=(274,@rO opens Tryz.prog (@uZ opens lF 275 276) [] false 1 274):=by simpa using hx
 rcases h2 with rfl|rfl|rfl
 ·exact a1C
 ·exact @JQ opens _ _ _ _ _ _ (by decide) (λh=>by cases h) a7j (@ZV opens _ _ _ a0R) a4n
 ·exact @JQ opens _ _ _ _ _ _ (by decide) (λ_=>rfl) a6i (@X6 opens _ _ _ _ _ a0R a4Y) a4g
theorem a3S: @aO opens Tryz.prog opens.ng aL:= @a3N opens _ _ _ OT VK a0H
end Go.Proofs.YtnigceddndemkaaGreatDoor
