/- The orders of a queue's entries, walked: 0 at one and the same, else what before answers. -/
import Derived.Test.YtnigceddndemkaaGreatDoorOpzA
import Derived.KernelRfl
import Derived.Test.YtnigceddndemkaaGreatDoorChecked
import Derived.WalkKit
import Derived.ProofKit
import Derived.LaidEql
import Derived.OwnWalk
set_option linter.unusedVariables false
set_option linter.unusedSectionVars false
namespace Go.Proofs.YtnigceddndemkaaGreatDoor
open Go Go.Eng Go.Sort
variable [PlanTab]
set_option maxRecDepth 100000
theorem a9O{P:Program}{t e:TypeId}{n:Nat}{A B:Addr}{r:Bool}{w:World}(hu:P.underlying t=some (.pointer e))(hn:nI P e=some (n+1))(hs:(sameAddr A B).run P w=.ok r w):
 (binOp .eql t (.pointer (some A)) (.pointer (some B))).run P w=.ok (.bool r) w:=by
 have h:∀d,(Op.equalIn (d+1) t (.pointer (some A)) (.pointer (some B))).run P w=.ok r w:=by intro d;simp[Op.equalIn,run_underlying hu,aS hn,hs]
 have h2:(Op.equal t (.pointer (some A)) (.pointer (some B))).run P w=.ok r w:=h 9999;have e:binOp .eql t (.pointer (some A)) (.pointer (some B))=(do pure (.bool (<-Op.equal t (.pointer (some A)) (.pointer (some B))))):=rfl;rw[e,Sem.run_bind,h2];rfl
theorem a81:Clo Tryz.prog 275 276:=by
 intro w A B X Q same bf hx hab hb;have hbin:=a9O (t:=287) Tryz.underlying287 (n:=3) (by kernel_rfl) hab;go_enter Tryz.func275,Tryz.ntmps275;go_wp2_with fail
 ·go_ret;exact⟨rfl,0,#[],by rw[grow_empty];rfl⟩
 ·refine(hb (by assumption)).mono ?_;rintro e w' ⟨rfl,q,os,rfl⟩;go_wp2;all_goals go_ret
  all_goals first
   |exact⟨rfl,q,os,rfl⟩
   |(exfalso;simp_all;done)
end Go.Proofs.YtnigceddndemkaaGreatDoor
