/- The engine's answers are those of the model, in this seat. -/
import Derived.Test.YtnigceddndemkaaGreatDoorSAwake18
import Derived.Test.YtnigceddndemkaaGreatDoorSBase
import Derived.Test.YtnigceddndemkaaGreatDoorSSortF
import Derived.Test.YtnigceddndemkaaGreatDoorSClo
namespace Go.Proofs.YtnigceddndemkaaGreatDoor
open Go Go.Eng Go.RowKit
set_option maxRecDepth 100000
theorem a0e:Tryz.prog.follows .mixedOrders=true:=by kernel_rfl
theorem a3n:tZ (opens.ng) a4O 0 Tryz.prog.funcs.toList=true:=by kernel_rfl
theorem a9r{F:Nat}{fn:Func}{body:Code}(hfn:Tryz.prog.funcs[F]? =some fn)(hname:(fn.name== "runtime.NumGoroutine")=false)(hb:fn.body=some body)(hc:∀w:World,Calls Tryz.prog F #[] w λe w'=>e=.returned (.bool true)/\Quiet w w'): @bI opens Tryz.prog opens.ng (@zL opens F [] zT):=by
 refine @a8J opens _ _ F _ _ hfn hname hb _ (by kernel_rfl) _ ?_;intro args v hv w hl;match args,hv with
 |[],hv=>simp only[zT,Option.some.injEq]at hv;subst hv;exact hc w
theorem a8D: @bI opens Tryz.prog opens.ng (@zL opens 16 [] zT):=a9r Tryz.func16 (by kernel_rfl) rfl TI
theorem a4m: @bI opens Tryz.prog opens.ng XA:=by
 refine @GX opens _ _ _ ?_;intro x hx;have h2:x=(16,@zL opens 16 [] zT):=by simpa using hx
 rcases h2 with rfl;exact a8D
theorem a8g: @bI opens Tryz.prog opens.ng oZ:= @aAO opens _ _ _ a0e a3n a4m
theorem a5R: @bI opens Tryz.prog opens.ng IR:=by
 refine @GX opens _ _ _ ?_;intro x hx;have h2:x=(16,@zL opens 16 [] zT)\/x=(78,@xZ opens Tryz.prog (@RZ opens oZ) [] true 2 78)\/x=(274,@xZ opens Tryz.prog (@BM opens oZ 275 276) [] false 1 274):=by simpa using hx
 rcases h2 with rfl|rfl|rfl
 ·exact a8D
 ·exact @V9 opens _ _ _ _ _ _ (by decide) (λh=>by cases h) aDz (@a5X opens _ _ _ a8g) aBV
 ·exact @V9 opens _ _ _ _ _ _ (by decide) (λ_=>rfl) aDo (@a5B opens _ _ _ _ _ a8g aCc) aA6
theorem aCb: @bI opens Tryz.prog opens.ng aK:= @aAO opens _ _ _ a0e a3n a5R
end Go.Proofs.YtnigceddndemkaaGreatDoor
