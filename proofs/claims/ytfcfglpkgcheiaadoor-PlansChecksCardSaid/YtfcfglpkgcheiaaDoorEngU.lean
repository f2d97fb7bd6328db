/- Closed calls. -/
import Derived.Test.YtfcfglpkgcheiaaDoorEngT
import Derived.RowKit3
namespace Go.Eng
open Go Go.RowKit
set_option linter.unusedSectionVars false
set_option linter.unusedSimpArgs false
variable [PlanTab]

def okTrue : Option (Value × AW) → Bool
  | some (v, _) => match v with
    | .bool b => b
    | _ => false
  | none => false
theorem okTrue_eq {r : Option (Value × AW)} (h : okTrue r = true) : ∃ W, r = some (.bool true, W) := by
  unfold okTrue at h
  split at h
  · rename_i v W
    split at h
    · subst h; exact ⟨W, rfl⟩
    · cases h
  · cases h

def σ0 : Inj := fun _ => none
noncomputable def Wnil : AW := ⟨.lf, 0⟩
theorem rel_nil (h : Array Obj) : WRel σ0 Wnil h where
  free b _ := T.get_lf _
  dom b g hb := absurd hb (by simp [σ0])
  obj b o g _ hb := absurd hb (by simp [σ0])
  disj b1 b2 o1 o2 g1 g2 _ _ _ h1 _ _ := absurd h1 (by simp [σ0])
theorem noSpec {P : Program} {ng : List Nat} : CalleeOK P ng (fun _ _ _ => none) := fun f args W v W' h => by cases h

theorem grown_of {σ' : Inj} {W0 W' : AW} {w w' : World} (he : Ext σ0 W0 w σ' W' w') : Grown w w' := by
  have hk : ∀ B, B < w.heap.size → w'.heap[B]? = w.heap[B]? := fun B hB => he.keep B hB (by rintro ⟨b, g, h, _⟩; cases h)
  refine ⟨⟨he.os, he.output, fun i hi => ?_⟩, he.fr, he.size⟩
  rw [hk i hi]
  cases w.heap[i]? with
  | none => rfl
  | some o => cases o <;> first | rfl | exact ⟨rfl, rfl, rfl, fun _ _ => rfl⟩ | exact .inr ⟨rfl, rfl⟩

theorem plains_rel {σ : Inj} : ∀ {args : List Value}, args.all plain = true → LR σ args args := by
  intro args h
  exact LR.refl_of (fun v => plain_refl) h

/-- A CALL WITHOUT PACKAGE VARIABLES, reckoned by the engine -/
theorem closed_calls {P : Program} (hm : P.follows .mixedOrders = true) (hng : PlanTab.ng = []) {bad : List Nat} (hP : funsOk [] bad 0 P.funcs.toList = true) (n : Nat) {i : Nat} {args : List Value} (hpl : args.all plain = true)
    (h : okTrue (aCallF P bad (fun _ _ _ => none) n (.func (.func i) #[] #[]) args Wnil) = true) (w : World) :
    Calls P i args.toArray w fun e w' => e = .returned (.bool true) ∧ Grown w w' := by
  obtain ⟨W', hr⟩ := okTrue_eq h
  have hc := callee_ok hm hng.symm hP (noSpec (P := P) (ng := [])) n _ _ _ _ _ hr σ0 w (.func (.func i) #[] #[]) args (rel_nil w.heap) (fun g hg => by cases hg)
    (.func _ _ _ _ _ _ (.func i) rfl (fun i v v' x => by simp at x) rfl (fun i v v' x => by simp at x)) (plains_rel hpl)
  unfold CallV at hc
  obtain ⟨_, hc⟩ := hc
  have e1 : (#[] : Array Value) ++ args.toArray ++ #[] = args.toArray := by simp
  rw [e1] at hc
  refine (callsIn_wide (n := 0)).1 ?_
  refine CallsIn.mono (show CallsIn Fence.wide 0 P i args.toArray w _ from hc) ?_
  rintro e w' ⟨v, rfl, σ', hv, _, he⟩
  exact ⟨by rw [hv.bool_inv], grown_of he⟩
end Go.Eng
