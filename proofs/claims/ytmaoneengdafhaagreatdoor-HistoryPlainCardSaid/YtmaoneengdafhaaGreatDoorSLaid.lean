/- The package variables as the text lays them, and a world in which they lie so. -/
import Derived.Test.YtmaoneengdafhaaGreatDoorPartG
import Derived.Test.YtmaoneengdafhaaGreatDoorSOk
import Derived.Test.YtmaoneengdafhaaGreatDoorCards
import Derived.Test.YtmaoneengdafhaaGreatDoorTie
import Derived.Deep.DeepHandedRow
import Derived.Lib.LaidTab
set_option linter.unusedVariables false
set_option linter.unusedSimpArgs false
set_option linter.unusedSectionVars false
set_option linter.defProp false
open Go renaming Value->ad,World->ar
namespace Go.Proofs.YtmaoneengdafhaaGreatDoor
open Go Go.Eng Go.ChangeShapes Go.WideShapes Go.ChangeAt Go.RowKit
noncomputable def firstCells:List ad:=match Go.Pinned.utf8First with
 |.agg l=>l.map λd=>match d with
  |.lit (.int k n)=>Value.int k n
  |_=>.nilFunc
 |_=>[]
noncomputable def T2:List ad:=(([128,191,160,191,128,159,144,191,128,143]++List.replicate 22 0:List Int)).map (Value.int .u8)
noncomputable def wL(cs:List ad):Obj->Obj
 |.cells _ t frozen=>.cells cs.toArray t frozen
 |o=>o
noncomputable def FT(os:Os):ar:=
 {World.holding Tryz.prog os ⟨#[],#[],[]⟩with heap:=((((((World.holding Tryz.prog os ⟨#[],#[],[]⟩).heap.modify 5 (wL firstCells)).modify 6 (wL T2)).modify 0 (wL yp)).modify 1 (wL Pt)).modify 3 (wL Ow)).modify 4 (wL OP)}
def own:ownKnob Tryz.prog.godebug=none:=by kernel_rfl
def aqZ:Tryz.prog.globalNamed "internal/strconv.uint64pow10" =some 1:=by kernel_rfl
def aqf:Tryz.prog.globalNamed "math/bits.deBruijn32tab" =some 3:=by kernel_rfl
def aqH:Tryz.prog.globalNamed "math/bits.deBruijn64tab" =some 4:=by kernel_rfl
def ah7:Tryz.prog.globalNamed "groundling/plans.uses" =some 0:=by kernel_rfl
def aro:(Tryz.prog.globals[0]?).map (·.type)=some 157:=by kernel_rfl
def avM:(Tryz.prog.globals[1]?).map (·.type)=some 226:=by kernel_rfl
def atm:(Tryz.prog.globals[3]?).map (·.type)=some 262:=by kernel_rfl
def as0:(Tryz.prog.globals[4]?).map (·.type)=some 263:=by kernel_rfl
def C6{P:Program}{W:ar}{name:String}{k:IntKind}{zs:List Int}{kn:List (String×DataW Unit)}{g:Nat}{t e:TypeId}{n:Nat}{ps:List MemPlace}
 (hg:P.globalNamed name=some g)(hty:(P.globals[g]?).map (·.type)=some t)(ht:P.underlying t=some (.array n e))(he:P.underlying e=some (.int k))(hce:P.cellsOf e=1)(hct:P.cellsOf t=n)
 (h:DataW.LaidVars P W ((name,Lib.tabData k zs)::kn) ps):W.var? P name=some (zs.map λz=>Value.int k z).toArray/\∃q,DataW.LaidVars P W kn q:=by
 obtain⟨g',t',cs,Ex,p,q,F1,ht',atN,hd,hr,_⟩:=h;obtain rfl:=AQ (hg.symm.trans F1);obtain rfl:=AQ (hty.symm.trans ht');refine⟨?_,q,hr⟩;rw[atN,<-Lib.cells_of_tab ht he hce hct hd]
def IE{W:ar}{name:String}{g:Nat}{k:IntKind}{zs:List Int}(hg:Tryz.prog.globalNamed name=some g)(hz:0<zs.length)(h:W.var? Tryz.prog name=some (zs.map λz=>Value.int k z).toArray):
 ∃c t fr,W.heap[g]? =some (.cells c t fr)/\∀(i:Nat) (v:ad),(zs.map (Value.int k))[i]? =some v->c[i]? =some v/\cC v=true:=by
 unfold World.var? at h;rw[hg,bJ]at h;split at h
 ·rename_i cs t fr hh;injection h with h;subst h;refine⟨_,t,fr,hh,λi v hv=>⟨by simpa using hv,?_⟩⟩;obtain⟨n,_,rfl⟩:=my.1 (xV hv);rfl
 ·cases h
def YY{W:ar}(h:laidMetH Tryz.prog Rows.historyWitnessRow.laid W):GR lX W.heap:=by
 rw[MakeChecks.laidMetH_plain _ _ _ (by kernel_rfl)]at h;obtain⟨ps,h,_⟩:=h;obtain⟨a1,q1,h1⟩:=C6 (k:=.u8) (zs:=acd) (n:=32) (e:=5) aqf atm Tryz.underlying262 Tryz.underlying5 (by kernel_rfl) (by kernel_rfl) h;obtain⟨a2,q2,h2⟩:=C6 (k:=.u8) (zs:=ab5) (n:=64) (e:=5) aqH as0 Tryz.underlying263 Tryz.underlying5 (by kernel_rfl) (by kernel_rfl) h1;obtain⟨a3,q3,h3⟩:=C6 (k:=.u64) (zs:=acV) (n:=20) (e:=44) aqZ avM Tryz.underlying226 Tryz.underlying44 (by kernel_rfl) (by kernel_rfl) h2;obtain⟨_,_,_,_,_,_,_,_,_,_,h4,_⟩:=h3;obtain⟨a5,q5,h5⟩:=C6 (k:=.i64) (zs:=Ut) (n:=13) (e:=3) ah7 aro Tryz.underlying157 Tryz.underlying3 (by kernel_rfl) (by kernel_rfl) h4;intro x hx;have hx2:x=(0,yp)\/x=(1,Pt)\/x=(3,Ow)\/x=(4,OP):=by simpa[lX]using hx
 rcases hx2 with rfl|rfl|rfl|rfl
 ·exact IE ah7 (by decide) a5
 ·exact IE aqZ (by decide) a3
 ·exact IE aqf (by decide) a1
 ·exact IE aqH (by decide) a2
abbrev avz:ad:=.agg #[.ae 0,.ae 0,.ae 0,.slice none 0 0]
def auy{H:Type}:DataW H:=.agg [.lit (.ae 0),.lit (.ae 0),.lit (.ae 0),.nil]
end Go.Proofs.YtmaoneengdafhaaGreatDoor
