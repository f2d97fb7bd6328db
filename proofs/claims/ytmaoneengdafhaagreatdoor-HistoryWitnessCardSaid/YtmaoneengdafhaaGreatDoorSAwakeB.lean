/- awake, reckoned: it answers true in every world where the package variables lie. -/
import Derived.Test.YtmaoneengdafhaaGreatDoorSCheck
import Derived.Test.YtmaoneengdafhaaGreatDoorSLays
import Derived.Shelf.Strings.Builder1
set_option linter.defProp false
set_option maxRecDepth 100000
namespace Go.Proofs.YtmaoneengdafhaaGreatDoor
open Go Go.Eng Go.RowKit
def ZR:∀b∈aaM,∀w:World,Calls Tryz.prog 116 #[.string b] w λe w'=>e=.returned (.bool true)/\eG w w':=by
 intro b hb w;have h2:b=⟨#[115]⟩\/b=⟨#[104,97,108,108]⟩\/b=⟨#[98,111,120]⟩:=by simpa[aaM]using hb
 rcases h2 with rfl|rfl|rfl
 ·exact @rX GK _ Dr _ N8 _ (@TP GK _ _) 100 [] 4 rfl rfl 116 [.string ⟨#[115]⟩] rfl (by kernel_rfl) w (λ_ h=>by cases h)
 ·exact @rX GK _ Dr _ N8 _ (@TP GK _ _) 100 [] 4 rfl rfl 116 [.string ⟨#[104,97,108,108]⟩] rfl (by kernel_rfl) w (λ_ h=>by cases h)
 ·exact @rX GK _ Dr _ N8 _ (@TP GK _ _) 100 [] 4 rfl rfl 116 [.string ⟨#[98,111,120]⟩] rfl (by kernel_rfl) w (λ_ h=>by cases h)
def ack:cl Tryz.prog ai.ng aqa:=by
 refine Jp ?_;intro x hx;have h2:x=(81,GC 81 Dy)\/x=(84,Wx 84 105)\/x=(116,GC 116 N2)\/x=(51,chk 51):=by simpa using hx
 rcases h2 with rfl|rfl|rfl|rfl
 ·exact No Tryz.func81 (by kernel_rfl) rfl λargs W v h=>US (λbk o c xs sep w=>Any.strings_Join aiy aej bk o c xs sep w) h
 ·exact abm Tryz.func84 (by kernel_rfl) rfl rfl (λb w h=>Any.Builder_copyCheck_used ajg aej.toX72 b w h) (λb w h0 h1 h2=>Any.Builder_copyCheck_fresh ajg aej.toX72 b w h0 h1 h2)
 ·refine No Tryz.func116 (by kernel_rfl) rfl λargs W v h=>?_
  unfold N2 at h;split at h;case h_2=>cases h
  rename_i b;split at h;case h_2=>cases h
  rename_i hn;injection h with h;subst h;refine⟨rfl,λσ w cZ hW db=>?_⟩;obtain⟨x',l',rfl,hx,hl⟩:=db.of_cons;obtain rfl:=hl.of_nil;have hs:x'=.string b:=VR.CV hx;subst hs;obtain⟨b',IE,Qd⟩:=xA.1 hn;have:=Lz Qd;subst this;exact ZR _ IE w
 ·exact adw
def agn:nE [0,1,3,4] (81::84::116::aoe) 0 Tryz.prog.funcs.toList=true:=uE (F:=81) (uE (F:=84) (uE (F:=116) ags))
end Go.Proofs.YtmaoneengdafhaaGreatDoor
