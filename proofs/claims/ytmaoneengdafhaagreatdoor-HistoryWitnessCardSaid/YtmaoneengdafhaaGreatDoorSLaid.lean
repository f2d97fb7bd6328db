/- The package variables as the text lays them, and a world in which they lie so. -/
import Derived.Test.YtmaoneengdafhaaGreatDoorPartG
import Derived.Test.YtmaoneengdafhaaGreatDoorSOk
import Derived.Test.YtmaoneengdafhaaGreatDoorCards
import Derived.Test.YtmaoneengdafhaaGreatDoorTie
import Derived.Deep.DeepHandedRow
import Derived.Lib.LaidTab
set_option linter.unusedVariables false
set_option linter.defProp false
open Go renaming Value->ad,World->ar
namespace Go.Proofs.YtmaoneengdafhaaGreatDoor
open Go Go.Eng Go.ChangeShapes Go.WideShapes Go.ChangeAt Go.RowKit
noncomputable def firstCells:List ad:=match Go.Pinned.utf8First with
 |.agg l=>l.map λd=>match d with
  |.lit (.int k n)=>Value.int k n
  |_=>.nilFunc
 |_=>[]
noncomputable def Uy:List ad:=(([128,191,160,191,128,159,144,191,128,143]++List.replicate 22 0:List Int)).map (Value.int .u8)
noncomputable def wq(cs:List ad):Obj->Obj
 |.cells _ t frozen=>.cells cs.toArray t frozen
 |o=>o
noncomputable def Gm(os:Os):ar:=
 {World.holding Tryz.prog os ⟨#[],#[],[]⟩with heap:=((((((World.holding Tryz.prog os ⟨#[],#[],[]⟩).heap.modify 5 (wq firstCells)).modify 6 (wq Uy)).modify 0 (wq yu)).modify 1 (wq Px)).modify 3 (wq Pb)).modify 4 (wq N4)}
def own:ownKnob Tryz.prog.godebug=none:=by kernel_rfl
def anI:Tryz.prog.globalNamed "internal/strconv.uint64pow10" =some 1:=by kernel_rfl
def anG:Tryz.prog.globalNamed "math/bits.deBruijn32tab" =some 3:=by kernel_rfl
def ap6:Tryz.prog.globalNamed "math/bits.deBruijn64tab" =some 4:=by kernel_rfl
def aiG:Tryz.prog.globalNamed "groundling/plans.uses" =some 0:=by kernel_rfl
def ap3:(Tryz.prog.globals[0]?).map (·.type)=some 157:=by kernel_rfl
def avv:(Tryz.prog.globals[1]?).map (·.type)=some 226:=by kernel_rfl
def au8:(Tryz.prog.globals[3]?).map (·.type)=some 262:=by kernel_rfl
def au7:(Tryz.prog.globals[4]?).map (·.type)=some 263:=by kernel_rfl
def DO{P:Program}{W:ar}{name:String}{k:IntKind}{zs:List Int}{ks:List (String×DataW Unit)}{g:Nat}{t e:TypeId}{n:Nat}{ps:List MemPlace}
 (hg:P.globalNamed name=some g)(hty:(P.globals[g]?).map (·.type)=some t)(ht:P.underlying t=some (.array n e))(he:P.underlying e=some (.int k))(hce:P.cellsOf e=1)(hct:P.cellsOf t=n)
 (h:DataW.LaidVars P W ((name,Lib.tabData k zs)::ks) ps):W.var? P name=some (zs.map λz=>Value.int k z).toArray/\∃q,DataW.LaidVars P W ks q:=by
 obtain⟨g',t',cs,EI,p,q,F2,ht',asp,hd,hr,_⟩:=h;obtain rfl:=AO (hg.symm.trans F2);obtain rfl:=AO (hty.symm.trans ht');refine⟨?_,q,hr⟩;rw[asp,<-Lib.cells_of_tab ht he hce hct hd]
def ID{W:ar}{name:String}{g:Nat}{k:IntKind}{zs:List Int}(hg:Tryz.prog.globalNamed name=some g)(hz:0<zs.length)(h:W.var? Tryz.prog name=some (zs.map λz=>Value.int k z).toArray):
 ∃c t fr,W.heap[g]? =some (.cells c t fr)/\∀(i:Nat) (v:ad),(zs.map (Value.int k))[i]? =some v->c[i]? =some v/\cC v=true:=by
 unfold World.var? at h;rw[hg,bM]at h;split at h
 ·rename_i cs t fr hh;injection h with h;subst h;refine⟨_,t,fr,hh,λi v hv=>⟨by simpa using hv,?_⟩⟩;obtain⟨n,_,rfl⟩:=mB.1 (za hv);rfl
 ·cases h
def Yw{W:ar}(h:laidMetH Tryz.prog Rows.historyWitnessRow.laid W):GN lU W.heap:=by
 rw[MakeChecks.laidMetH_plain _ _ _ (by kernel_rfl)]at h;obtain⟨ps,h,_⟩:=h;obtain⟨a1,q1,h1⟩:=DO (k:=.u8) (zs:=ad8) (n:=32) (e:=5) anG au8 Tryz.underlying262 Tryz.underlying5 (by kernel_rfl) (by kernel_rfl) h;obtain⟨a2,q2,h2⟩:=DO (k:=.u8) (zs:=ad0) (n:=64) (e:=5) ap6 au7 Tryz.underlying263 Tryz.underlying5 (by kernel_rfl) (by kernel_rfl) h1;obtain⟨a3,q3,h3⟩:=DO (k:=.u64) (zs:=abe) (n:=20) (e:=44) anI avv Tryz.underlying226 Tryz.underlying44 (by kernel_rfl) (by kernel_rfl) h2;obtain⟨_,_,_,_,_,_,_,_,_,_,h4,_⟩:=h3;obtain⟨a5,q5,h5⟩:=DO (k:=.i64) (zs:=TU) (n:=13) (e:=3) aiG ap3 Tryz.underlying157 Tryz.underlying3 (by kernel_rfl) (by kernel_rfl) h4;intro x hx;have hx2:x=(0,yu)\/x=(1,Px)\/x=(3,Pb)\/x=(4,N4):=by simpa[lU]using hx
 rcases hx2 with rfl|rfl|rfl|rfl
 ·exact ID aiG (by decide) a5
 ·exact ID anI (by decide) a3
 ·exact ID anG (by decide) a1
 ·exact ID ap6 (by decide) a2
abbrev asv:ad:=.agg #[.ae 0,.ae 0,.ae 0,.slice none 0 0,.slice none 0 0]
def atd{H:Type}:DataW H:=.agg [.agg [.lit (.ae 0),.lit (.ae 0),.lit (.ae 0),.nil],.nil]
end Go.Proofs.YtmaoneengdafhaaGreatDoor
