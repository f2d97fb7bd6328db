/- awake, reckoned: it answers true in every world where the package variables lie. -/
import Derived.Test.YtmaoneengdafhaaGreatDoorSCheck
import Derived.Test.YtmaoneengdafhaaGreatDoorSLays
import Derived.Shelf.Strings.Builder1
set_option linter.unusedVariables false
set_option linter.unusedSimpArgs false
set_option linter.unusedSectionVars false
set_option linter.defProp false
set_option maxRecDepth 100000
namespace Go.Proofs.YtmaoneengdafhaaGreatDoor
open Go Go.Eng Go.RowKit
def P1:∀b∈UL,∀w:World,Calls Tryz.prog 116 #[.string b] w λe w'=>e=.returned (.bool true)/\dx w w':=by
 intro b hb w;have h2:b=⟨#[115]⟩\/b=⟨#[104,97,108,108]⟩\/b=⟨#[98,111,120]⟩:=by simpa[UL]using hb
 rcases h2 with rfl|rfl|rfl
 ·exact @oy AC _ zi _ Je _ (@Oi AC _ _) 100 [] 4 rfl rfl 116 [.string ⟨#[115]⟩] rfl (by kernel_rfl) w (λ_ h=>by cases h)
 ·exact @oy AC _ zi _ Je _ (@Oi AC _ _) 100 [] 4 rfl rfl 116 [.string ⟨#[104,97,108,108]⟩] rfl (by kernel_rfl) w (λ_ h=>by cases h)
 ·exact @oy AC _ zi _ Je _ (@Oi AC _ _) 100 [] 4 rfl rfl 116 [.string ⟨#[98,111,120]⟩] rfl (by kernel_rfl) w (λ_ h=>by cases h)
def SS:bI Tryz.prog ah.ng agI:=by
 refine EQ ?_;intro x hx;have h2:x=(81,Bi 81 yA)\/x=(84,PD 84 105)\/x=(116,Bi 116 H5)\/x=(51,Xv 51):=by simpa using hx
 rcases h2 with rfl|rfl|rfl|rfl
 ·exact Gm Tryz.func81 (by kernel_rfl) rfl λargs W v h=>MC (λbk o c xs sep w=>Any.strings_Join aam S6 bk o c xs sep w) h
 ·exact TG Tryz.func84 (by kernel_rfl) rfl rfl (λb w h=>Any.Builder_copyCheck_used aan S6.toX72 b w h) (λb w h0 h1 h2=>Any.Builder_copyCheck_fresh aan S6.toX72 b w h0 h1 h2)
 ·refine Gm Tryz.func116 (by kernel_rfl) rfl λargs W v h=>?_
  unfold H5 at h;split at h;case h_2=>cases h
  rename_i b;split at h;case h_2=>cases h
  rename_i hn;injection h with h;subst h;refine⟨rfl,λσ w cu hW cq=>?_⟩;obtain⟨x',l',rfl,hx,hl⟩:=cq.of_cons;obtain rfl:=hl.of_nil;have hs:x'=.string b:=VR.xV hx;subst hs;obtain⟨b',Qw,Mk⟩:=vW.1 hn;have:=EH Mk;subst this;exact P1 _ Qw w
 ·exact Xb
def ZK:km [0,1,3,4] (81::84::116::agH) 0 Tryz.prog.funcs.toList=true:=pY (F:=81) (pY (F:=84) (pY (F:=116) YA))
end Go.Proofs.YtmaoneengdafhaaGreatDoor
