/- The package variables as the text lays them, and a world in which they lie so. -/
import Derived.Test.YtmaoneengdafhaaGreatDoorPartE
import Derived.Test.YtmaoneengdafhaaGreatDoorSOk
import Derived.Test.YtmaoneengdafhaaGreatDoorCards
import Derived.Test.YtmaoneengdafhaaGreatDoorTie
import Derived.Deep.DeepHandedRow
import Derived.Lib.LaidTab
set_option linter.unusedVariables false
set_option linter.unusedSimpArgs false
set_option linter.unusedSectionVars false
set_option linter.defProp false
open Go renaming Value->ad,World->am
namespace Go.Proofs.YtmaoneengdafhaaGreatDoor
open Go Go.Eng Go.ChangeShapes Go.WideShapes Go.ChangeAt Go.RowKit
noncomputable def firstCells:List ad:=match Go.Pinned.utf8First with
 |.agg l=>l.map λd=>match d with
  |.lit (.int k n)=>Value.int k n
  |_=>.nilFunc
 |_=>[]
noncomputable def MQ:List ad:=(([128,191,160,191,128,159,144,191,128,143]++List.replicate 22 0:List Int)).map (Value.int .u8)
noncomputable def rA(cs:List ad):Obj->Obj
 |.cells _ t frozen=>.cells cs.toArray t frozen
 |o=>o
noncomputable def Bj(os:Os):am:=
 {World.holding Tryz.prog os ⟨#[],#[],[]⟩with heap:=((((((World.holding Tryz.prog os ⟨#[],#[],[]⟩).heap.modify 5 (rA firstCells)).modify 6 (rA MQ)).modify 0 (rA tF)).modify 1 (rA HG)).modify 3 (rA IJ)).modify 4 (rA HT)}
def own:ownKnob Tryz.prog.godebug=none:=by kernel_rfl
def ag9:Tryz.prog.globalNamed "internal/strconv.uint64pow10" =some 1:=by kernel_rfl
def ahX:Tryz.prog.globalNamed "math/bits.deBruijn32tab" =some 3:=by kernel_rfl
def ahw:Tryz.prog.globalNamed "math/bits.deBruijn64tab" =some 4:=by kernel_rfl
def abg:Tryz.prog.globalNamed "groundling/plans.uses" =some 0:=by kernel_rfl
def afx:(Tryz.prog.globals[0]?).map (·.type)=some 157:=by kernel_rfl
def amv:(Tryz.prog.globals[1]?).map (·.type)=some 226:=by kernel_rfl
def alv:(Tryz.prog.globals[3]?).map (·.type)=some 262:=by kernel_rfl
def amX:(Tryz.prog.globals[4]?).map (·.type)=some 263:=by kernel_rfl
def yJ{P:Program}{W:am}{name:String}{k:IntKind}{zs:List Int}{iB:List (String×DataW Unit)}{g:Nat}{t e:TypeId}{n:Nat}{ps:List MemPlace}
 (hg:P.globalNamed name=some g)(hty:(P.globals[g]?).map (·.type)=some t)(ht:P.underlying t=some (.array n e))(he:P.underlying e=some (.int k))(hce:P.cellsOf e=1)(hct:P.cellsOf t=n)
 (h:DataW.LaidVars P W ((name,Lib.tabData k zs)::iB) ps):W.var? P name=some (zs.map λz=>Value.int k z).toArray/\∃q,DataW.LaidVars P W iB q:=by
 obtain⟨g',t',cs,y6,p,q,Bo,ht',al7,hd,hr,_⟩:=h;obtain rfl:=y8 (hg.symm.trans Bo);obtain rfl:=y8 (hty.symm.trans ht');refine⟨?_,q,hr⟩;rw[al7,<-Lib.cells_of_tab ht he hce hct hd]
def CQ{W:am}{name:String}{g:Nat}{k:IntKind}{zs:List Int}(hg:Tryz.prog.globalNamed name=some g)(hz:0<zs.length)(h:W.var? Tryz.prog name=some (zs.map λz=>Value.int k z).toArray):
 ∃c t fr,W.heap[g]? =some (.cells c t fr)/\∀(i:Nat) (v:ad),(zs.map (Value.int k))[i]? =some v->c[i]? =some v/\bZ v=true:=by
 unfold World.var? at h;rw[hg,bL]at h;split at h
 ·rename_i cs t fr hh;injection h with h;subst h;refine⟨_,t,fr,hh,λi v hv=>⟨by simpa using hv,?_⟩⟩;obtain⟨n,_,rfl⟩:=mE.1 (qt hv);rfl
 ·cases h
def RT{W:am}(h:laidMetH Tryz.prog Rows.historyWitnessRow.laid W):BC jz W.heap:=by
 rw[MakeChecks.laidMetH_plain _ _ _ (by kernel_rfl)]at h;obtain⟨ps,h,_⟩:=h;obtain⟨a1,q1,h1⟩:=yJ (k:=.u8) (zs:=Vh) (n:=32) (e:=5) ahX alv Tryz.underlying262 Tryz.underlying5 (by kernel_rfl) (by kernel_rfl) h;obtain⟨a2,q2,h2⟩:=yJ (k:=.u8) (zs:=U8) (n:=64) (e:=5) ahw amX Tryz.underlying263 Tryz.underlying5 (by kernel_rfl) (by kernel_rfl) h1;obtain⟨a3,q3,h3⟩:=yJ (k:=.u64) (zs:=Uy) (n:=20) (e:=44) ag9 amv Tryz.underlying226 Tryz.underlying44 (by kernel_rfl) (by kernel_rfl) h2;obtain⟨_,_,_,_,_,_,_,_,_,_,h4,_⟩:=h3;obtain⟨a5,q5,h5⟩:=yJ (k:=.i64) (zs:=PW) (n:=13) (e:=3) abg afx Tryz.underlying157 Tryz.underlying3 (by kernel_rfl) (by kernel_rfl) h4;intro x hx;have hx2:x=(0,tF)\/x=(1,HG)\/x=(3,IJ)\/x=(4,HT):=by simpa[jz]using hx
 rcases hx2 with rfl|rfl|rfl|rfl
 ·exact CQ abg (by decide) a5
 ·exact CQ ag9 (by decide) a3
 ·exact CQ ahX (by decide) a1
 ·exact CQ ahw (by decide) a2
abbrev als:ad:=.agg #[.af 0,.af 0,.af 0,.slice none 0 0,.slice none 0 0]
def ams{H:Type}:DataW H:=.agg [.agg [.lit (.af 0),.lit (.af 0),.lit (.af 0),.nil],.nil]
end Go.Proofs.YtmaoneengdafhaaGreatDoor
