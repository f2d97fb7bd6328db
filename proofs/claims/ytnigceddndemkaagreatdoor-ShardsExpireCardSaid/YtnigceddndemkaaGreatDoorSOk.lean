/- The engine's answers are those of the model, in this seat. -/
import Derived.Test.YtnigceddndemkaaGreatDoorSAwake18
import Derived.Test.YtnigceddndemkaaGreatDoorSBase
import Derived.Test.YtnigceddndemkaaGreatDoorSSortF
import Derived.Test.YtnigceddndemkaaGreatDoorSClo
namespace Go.Proofs.YtnigceddndemkaaGreatDoor
open Go Go.Eng Go.RowKit
set_option maxRecDepth 100000
theorem HL:Tryz.prog.follows .mixedOrders=true:=by kernel_rfl
theorem NY:n8 (opens.ng) QG 0 Tryz.prog.funcs.toList=true:=by kernel_rfl
theorem XZ{F:Nat}{fn:Func}{body:Code}(hfn:Tryz.prog.funcs[F]? =some fn)(hname:(fn.name== "runtime.NumGoroutine")=false)(hb:fn.body=some body)(hc:∀w:World,Calls Tryz.prog F #[] w λe w'=>e=.returned (.bool true)/\Quiet w w'): @aS opens Tryz.prog opens.ng (@rV opens F [] s0):=by
 refine @UR opens _ _ F _ _ hfn hname hb _ (by kernel_rfl) _ ?_;intro args v hv w hl;match args,hv with
 |[],hv=>simp only[s0,Option.some.injEq]at hv;subst hv;exact hc w
theorem T6: @aS opens Tryz.prog opens.ng (@rV opens 16 [] s0):=XZ Tryz.func16 (by kernel_rfl) rfl DZ
theorem OM: @aS opens Tryz.prog opens.ng GG:=by
 refine @wX opens _ _ _ ?_;intro x hx;have h2:x=(16,@rV opens 16 [] s0):=by simpa using hx
 rcases h2 with rfl;exact T6
theorem QW: @aS opens Tryz.prog opens.ng jW:= @Z7 opens _ _ _ HL NY OM
theorem T2: @aS opens Tryz.prog opens.ng vV:=by
 refine @wX opens _ _ _ ?_;intro x hx;have h2:x=(16,@rV opens 16 [] s0)\/x=(78,@pM opens Tryz.prog (@B1 opens jW) [] true 2 78)\/x=(274,@pM opens Tryz.prog (@rH opens jW 275 276) [] false 1 274):=by simpa using hx
 rcases h2 with rfl|rfl|rfl
 ·exact T6
 ·exact @EN opens _ _ _ _ _ _ (by decide) (λh=>by cases h) a2o (@RO opens _ _ _ QW) a0t
 ·exact @EN opens _ _ _ _ _ _ (by decide) (λ_=>rfl) a2z (@OU opens _ _ _ _ _ QW ZD) a0y
theorem a0q: @aS opens Tryz.prog opens.ng aK:= @Z7 opens _ _ _ HL NY T2
end Go.Proofs.YtnigceddndemkaaGreatDoor
