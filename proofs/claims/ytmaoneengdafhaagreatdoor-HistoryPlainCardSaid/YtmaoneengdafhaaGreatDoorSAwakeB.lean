/- awake, reckoned: it answers true in every world where the package variables lie. -/
import Derived.Test.YtmaoneengdafhaaGreatDoorSCheck
import Derived.Test.YtmaoneengdafhaaGreatDoorSLays
import Derived.Shelf.Strings.Builder1
set_option linter.unusedVariables false
set_option linter.unusedSimpArgs false
set_option linter.unusedSectionVars false
set_option linter.defProp false
set_option maxRecDepth 100000
namespace Go.Proofs.YtmaoneengdafhaaGreatDoor
open Go Go.Eng Go.RowKit
def Y7:∀b∈abb,∀w:World,Calls Tryz.prog 116 #[.string b] w λe w'=>e=.returned (.bool true)/\eE w w':=by
 intro b hb w;have h2:b=⟨#[115]⟩\/b=⟨#[104,97,108,108]⟩\/b=⟨#[98,111,120]⟩:=by simpa[abb]using hb
 rcases h2 with rfl|rfl|rfl
 ·exact @sf F0 _ EK _ N0 _ (@Un F0 _ _) 100 [] 4 rfl rfl 116 [.string ⟨#[115]⟩] rfl (by kernel_rfl) w (λ_ h=>by cases h)
 ·exact @sf F0 _ EK _ N0 _ (@Un F0 _ _) 100 [] 4 rfl rfl 116 [.string ⟨#[104,97,108,108]⟩] rfl (by kernel_rfl) w (λ_ h=>by cases h)
 ·exact @sf F0 _ EK _ N0 _ (@Un F0 _ _) 100 [] 4 rfl rfl 116 [.string ⟨#[98,111,120]⟩] rfl (by kernel_rfl) w (λ_ h=>by cases h)
def acQ:cl Tryz.prog ai.ng aqQ:=by
 refine Km ?_;intro x hx;have h2:x=(81,Gh 81 EJ)\/x=(84,WM 84 105)\/x=(116,Gh 116 N7)\/x=(51,chk 51):=by simpa using hx
 rcases h2 with rfl|rfl|rfl|rfl
 ·exact Nj Tryz.func81 (by kernel_rfl) rfl λargs W v h=>Ux (λbk o c xs sep w=>Any.strings_Join aiZ abJ bk o c xs sep w) h
 ·exact ad0 Tryz.func84 (by kernel_rfl) rfl rfl (λb w h=>Any.Builder_copyCheck_used aiq abJ.toX72 b w h) (λb w h0 h1 h2=>Any.Builder_copyCheck_fresh aiq abJ.toX72 b w h0 h1 h2)
 ·refine Nj Tryz.func116 (by kernel_rfl) rfl λargs W v h=>?_
  unfold N7 at h;split at h;case h_2=>cases h
  rename_i b;split at h;case h_2=>cases h
  rename_i hn;injection h with h;subst h;refine⟨rfl,λσ w cZ hW da=>?_⟩;obtain⟨x',l',rfl,hx,hl⟩:=da.of_cons;obtain rfl:=hl.of_nil;have hs:x'=.string b:=VR.CG hx;subst hs;obtain⟨b',Kf,S3⟩:=xk.1 hn;have:=J3 S3;subst this;exact Y7 _ Kf w
 ·exact abD
def ahh:nk [0,1,3,4] (81::84::116::aqp) 0 Tryz.prog.funcs.toList=true:=uF (F:=81) (uF (F:=84) (uF (F:=116) ahk))
end Go.Proofs.YtmaoneengdafhaaGreatDoor
