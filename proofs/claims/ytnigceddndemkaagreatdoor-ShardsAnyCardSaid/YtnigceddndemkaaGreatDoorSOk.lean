/- The engine's answers are those of the model, in this seat. -/
import Derived.Test.YtnigceddndemkaaGreatDoorSAwake18
import Derived.Test.YtnigceddndemkaaGreatDoorSBase
import Derived.Test.YtnigceddndemkaaGreatDoorSSortF
import Derived.Test.YtnigceddndemkaaGreatDoorSClo
namespace Go.Proofs.YtnigceddndemkaaGreatDoor
open Go Go.Eng Go.RowKit
set_option maxRecDepth 100000
theorem UM:Tryz.prog.follows .mixedOrders=true:=by kernel_rfl
theorem a0R:rW (opens.ng) a13 0 Tryz.prog.funcs.toList=true:=by kernel_rfl
theorem a7k{F:Nat}{fn:Func}{body:Code}(hfn:Tryz.prog.funcs[F]? =some fn)(hname:(fn.name== "runtime.NumGoroutine")=false)(hb:fn.body=some body)(hc:∀w:World,Calls Tryz.prog F #[] w λe w'=>e=.returned (.bool true)/\Quiet w w'): @aW opens Tryz.prog opens.ng (@xZ opens F [] xH):=by
 refine @a3w opens _ _ F _ _ hfn hname hb _ (by kernel_rfl) _ ?_;intro args v hv w hl;match args,hv with
 |[],hv=>simp only[xH,Option.some.injEq]at hv;subst hv;exact hc w
theorem a3O: @aW opens Tryz.prog opens.ng (@xZ opens 16 [] xH):=a7k Tryz.func16 (by kernel_rfl) rfl OB
theorem a2i: @aW opens Tryz.prog opens.ng SQ:=by
 refine @CG opens _ _ _ ?_;intro x hx;have h2:x=(16,@xZ opens 16 [] xH):=by simpa using hx
 rcases h2 with rfl;exact a3O
theorem a5D: @aW opens Tryz.prog opens.ng nQ:= @a7G opens _ _ _ UM a0R a2i
theorem a3u: @aW opens Tryz.prog opens.ng EA:=by
 refine @CG opens _ _ _ ?_;intro x hx;have h2:x=(16,@xZ opens 16 [] xH)\/x=(78,@vH opens Tryz.prog (@MZ opens nQ) [] true 2 78)\/x=(274,@vH opens Tryz.prog (@yO opens nQ 275 276) [] false 1 274):=by simpa using hx
 rcases h2 with rfl|rfl|rfl
 ·exact a3O
 ·exact @QD opens _ _ _ _ _ _ (by decide) (λh=>by cases h) aAS (@a3X opens _ _ _ a5D) a8k
 ·exact @QD opens _ _ _ _ _ _ (by decide) (λ_=>rfl) aAZ (@a1F opens _ _ _ _ _ a5D a81) a9t
theorem a9a: @aW opens Tryz.prog opens.ng aL:= @a7G opens _ _ _ UM a0R a3u
end Go.Proofs.YtnigceddndemkaaGreatDoor
