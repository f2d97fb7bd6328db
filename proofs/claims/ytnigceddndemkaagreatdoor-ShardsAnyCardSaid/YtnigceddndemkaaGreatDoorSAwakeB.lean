/- awake, reckoned: it answers true in every world where the package variables lie. -/
import Derived.Test.YtnigceddndemkaaGreatDoorSBaseW
import Derived.KernelRfl
namespace Go.Proofs.YtnigceddndemkaaGreatDoor
open Go Go.Eng Go.RowKit
set_option maxRecDepth 100000
theorem a2j:∀b∈nameW,∀w:World,Calls Tryz.prog 233 #[.string b] w λe w'=>e=.returned (.bool true)/\Quiet w w':=by
 intro b hb w;have h2:b=⟨#[115]⟩\/b=⟨#[104,97,108,108]⟩\/b=⟨#[98,111,120]⟩:=by simpa[nameW]using hb
 rcases h2 with rfl|rfl|rfl
 ·exact @rC plansN _ CZ _ RY _ (@YK plansN _ _) 100 [] 4 rfl rfl 233 [.string ⟨#[115]⟩] rfl (by kernel_rfl) w (λ_ h=>by cases h)
 ·exact @rC plansN _ CZ _ RY _ (@YK plansN _ _) 100 [] 4 rfl rfl 233 [.string ⟨#[104,97,108,108]⟩] rfl (by kernel_rfl) w (λ_ h=>by cases h)
 ·exact @rC plansN _ CZ _ RY _ (@YK plansN _ _) 100 [] 4 rfl rfl 233 [.string ⟨#[98,111,120]⟩] rfl (by kernel_rfl) w (λ_ h=>by cases h)
theorem a3B:aW Tryz.prog PlanTab.ng aAA:=by
 refine CG ?_;intro x hx;have h2:x=(233,TS 233 RD):=by simpa using hx
 rcases h2 with rfl
 ·refine a2e Tryz.func233 (by kernel_rfl) rfl λargs W v h=>?_
  unfold RD at h;split at h;case h_2=>cases h
  rename_i b;split at h;case h_2=>cases h
  rename_i hn;injection h with h;subst h;refine⟨rfl,λσ w args' hW hargs=>?_⟩;obtain⟨x',l',rfl,hx,hl⟩:=hargs.of_cons;obtain rfl:=hl.of_nil;have hs:x'=.string b:=VR.string_inv hx;subst hs;obtain⟨b',hb',hbb⟩:=List.any_eq_true.1 hn;have:=KI hbb;subst this;exact a2j _ hb' w
end Go.Proofs.YtnigceddndemkaaGreatDoor
