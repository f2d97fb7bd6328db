/- HeapsKnown answers true, whatever the world it is called in. No condition. -/
import Derived.Test.YtjneoiocjeoafaaEngU
import Derived.Test.YtjneoiocjeoafaaRows
import Derived.WalkKit
import Derived.ProofKit
import Derived.OpenShut
namespace Go.Proofs.Ytjneoiocjeoafaa
open Go Go.Eng Go.ChangeShapes Go.WideShapes Go.ChangeAt Go.RowKit
set_option linter.unusedVariables false
def tab : T (List (Nat × List Nat)) := (.nd (.nd (.nd (.nd .lf none (.nd (.nd (.nd (.nd (.nd (.nd (.nd (.nd (.nd (.nd .lf none (.nd (.nd (.nd (.nd .lf none (.nd .lf (some [(0, []), (1, []), (2, []), (3, []), (4, []), (5, [3]), (6, []), (7, [])]) .lf)) none .lf) none .lf) none .lf)) none .lf) none .lf) none .lf) none .lf) none .lf) none .lf) none .lf) none .lf) none .lf)) none .lf) none (.nd (.nd .lf none (.nd (.nd (.nd (.nd (.nd (.nd (.nd (.nd .lf none (.nd .lf none (.nd .lf none (.nd (.nd (.nd (.nd .lf (some [(0, []), (1, []), (2, []), (3, []), (5, []), (6, []), (7, []), (8, []), (4, [8, 6]), (9, []), (10, []), (11, []), (12, []), (13, [])]) .lf) none .lf) none .lf) none .lf)))) none .lf) none .lf) none .lf) none .lf) none .lf) none .lf) none .lf)) none (.nd .lf none (.nd .lf none (.nd (.nd (.nd (.nd (.nd (.nd .lf none (.nd (.nd .lf none (.nd (.nd (.nd (.nd (.nd (.nd .lf none (.nd .lf (some [(0, []), (1, []), (2, [1]), (3, []), (4, [])]) .lf)) none .lf) none .lf) none .lf) none .lf) none .lf)) none .lf)) none .lf) none .lf) none .lf) none .lf) none .lf))))) none .lf)
noncomputable instance plans : PlanTab := ⟨fun id ops => T.get (path (planKey id ops)) tab, 0⟩
theorem follows : Try.prog.follows .mixedOrders = true := by kernel_rfl
theorem looked : funsOk 0 [] 0 Try.prog.funcs.toList = true := by kernel_rfl
theorem own : ownKnob Try.prog.godebug = Option.none := by kernel_rfl

theorem heapsKnown_walk (w : World) : Calls Try.prog 3 #[] w fun e w' => e = .returned (.bool true) ∧ Grown w w' :=
  closed_calls follows rfl looked 100 (args := []) rfl (by kernel_rfl) w
set_option maxRecDepth 100000 in
theorem heapsKnown_lifted (os : Os) (started : os.Started) (H : Type) (enc : TypeId × Value → H) :
    ReturnsInHanded {} Try.checked os 3 .any (Rows.heapsKnownSpec.pre6 enc Try.prog Try.f3 Rows.heapsKnownRow.domain false) (Rows.heapsKnownSpec.post enc Try.prog Try.f3 false true false false) := by
  refine returnsInHanded_of_change (C := Try.checked) own started (by kernel_rfl) Try.func3
    (ChangeSpec.witness6 (enc := enc) (C := Try.checked) false ⟨#[], #[], []⟩ 8 (by kernel_rfl) (by kernel_rfl) (by kernel_rfl) (by kernel_rfl)) ?_
  intro W base args ds gs before hval0 hW hcnd _
  have hW' := hW
  obtain ⟨p, q, hA0, hV, rfl, hfz, hnd⟩ := hW
  have hA : DataW.TrodAll enc Try.prog W 0 (fun _ => true) true Try.f3.params.toList args.toList ds p := hA0
  rw [Try.params3] at hA
  obtain ⟨hargs, rfl, rfl⟩ := trodAll_nil hA
  obtain rfl : args = #[] := by cases args; simp_all
  obtain ⟨rfl, rfl⟩ := trodVars_none hV
  clear hA0
  simp only [List.append_nil] at hW'
  refine (heapsKnown_walk W).mono fun e W' ⟨he, hg⟩ => ?_
  subst he
  exact ⟨_, rfl, post_of_same (pa := []) (pv := []) hW' (fun _ _ _ => (trodAll_cons_mk (shut_bool Try.underlying4 _) trodAll_mk0)) (fun sp _ => trodAll_mk0) (fun _ _ => rfl) rfl
    (hg.frame _) hg.2.1 (ok_one (by kernel_rfl) rfl (okWide_bool_mk Try.underlying4 _))⟩
theorem heapsKnown_holds : Rows.HeapsKnownSaid :=
  OpenClaim.holds_of_wide 3 Try.f3 rfl rfl rfl rfl rfl rfl rfl ⟨rfl, rfl, rfl, rfl, rfl⟩ rfl rfl rfl rfl rfl (by kernel_rfl) Try.func3 (by kernel_rfl)
    (of_decide_eq_true (by kernel_rfl)) (by unfold Func.isWrapper; first | (rw [if_pos (by decide +kernel)]; kernel_rfl) | (rw [if_neg (by decide +kernel)]; exact ⟨rfl, rfl⟩))
    (fun os started H enc _ => heapsKnown_lifted os started H enc)
end Go.Proofs.Ytjneoiocjeoafaa
