/- Closed calls of a program whose package variables are known. -/
import Derived.Test.YtfcfglpkgcheiaaDoorEngU
namespace Go.Eng
open Go Go.RowKit
set_option linter.unusedSectionVars false
set_option linter.unusedSimpArgs false
variable [PlanTab]

/-- what is known of the package variables: their numbers, each with the cells that it holds -/
def σG (gs : List (Nat × List Value)) : Inj := fun b => (gs.find? (fun x => x.1 == b)).map fun x => ⟨x.1, 0, x.2.length⟩
noncomputable def treeG (gs : List (Nat × List Value)) : T AObj := gs.foldr (fun x t => T.set (some (.ro x.2)) (path x.1) t) .lf
noncomputable def WG (gs : List (Nat × List Value)) (N : Nat) : AW := ⟨treeG gs, N⟩
theorem treeG_get (b : Nat) : ∀ gs : List (Nat × List Value), T.get (path b) (treeG gs) = (gs.find? (fun x => x.1 == b)).map fun x => AObj.ro x.2
  | [] => T.get_lf _
  | x :: gs => by
    show T.get (path b) (T.set (some (.ro x.2)) (path x.1) (treeG gs)) = _
    by_cases h : x.1 = b
    · subst h
      rw [T.get_set]
      simp
    · rw [T.get_set_ne _ _ _ _ (path_ne h), treeG_get b gs]
      have hb : (x.1 == b) = false := by simpa using h
      rw [List.find?_cons, hb]
def LaidG (gs : List (Nat × List Value)) (h : Array Obj) : Prop :=
  ∀ x ∈ gs, ∃ c t fr, h[x.1]? = some (.cells c t fr) ∧ ∀ (i : Nat) (v : Value), x.2[i]? = some v → c[i]? = some v ∧ scalar v = true
theorem σG_some {gs : List (Nat × List Value)} {b : Nat} {g : Seg} (h : σG gs b = some g) : ∃ x ∈ gs, x.1 = b ∧ g = ⟨b, 0, x.2.length⟩ ∧ T.get (path b) (treeG gs) = some (AObj.ro x.2) := by
  unfold σG at h
  cases hf : gs.find? (fun x => x.1 == b) with
  | none => rw [hf] at h; cases h
  | some x =>
    rw [hf] at h
    have hb : x.1 = b := by simpa using List.find?_some hf
    refine ⟨x, List.mem_of_find?_eq_some hf, hb, ?_, ?_⟩
    · cases h; subst hb; rfl
    · show T.get (path b) (treeG gs) = _
      rw [treeG_get, hf]; rfl
theorem rel_G {gs : List (Nat × List Value)} {N : Nat} (hN : gs.all (fun x => Nat.blt x.1 N) = true) {h : Array Obj} (hl : LaidG gs h) : WRel (σG gs) (WG gs N) h where
  free b hb := by
    show T.get (path b) (treeG gs) = none
    rw [treeG_get]
    cases hf : gs.find? (fun x => x.1 == b) with
    | none => rfl
    | some x =>
      have hxb : x.1 = b := by simpa using List.find?_some hf
      have := List.all_eq_true.1 hN x (List.mem_of_find?_eq_some hf)
      have : x.1 < N := by simpa [Nat.blt_eq] using this
      exact absurd hb (by show ¬ N ≤ b; omega)
  dom b g hb := by
    obtain ⟨x, hx, rfl, rfl, _⟩ := σG_some hb
    obtain ⟨c, t, fr, h1, _⟩ := hl x hx
    have := List.all_eq_true.1 hN x hx
    have h3 : x.1 < N := by simpa [Nat.blt_eq] using this
    exact ⟨h3, (Array.getElem?_eq_some_iff.1 h1).1⟩
  obj b o g hb hg := by
    obtain ⟨x, hx, rfl, rfl, ht⟩ := σG_some hg
    obtain ⟨c, t, fr, h1, h2⟩ := hl x hx
    obtain rfl : o = .ro x.2 := Option.some.inj (hb.symm.trans ht)
    exact ⟨c, t, fr, h1, by simp, fun i v hv => ⟨v, by simpa using (h2 i v hv).1, scalar_refl (h2 i v hv).2⟩⟩
  disj b1 b2 o1 o2 g1 g2 hne _ _ h1 h2 _ := by
    obtain ⟨x1, _, rfl, rfl, _⟩ := σG_some h1
    obtain ⟨x2, _, rfl, rfl, _⟩ := σG_some h2
    exact .inl hne
theorem glob_G {gs : List (Nat × List Value)} {ng : List Nat} (h : ng.all (fun g => (gs.find? (fun x => x.1 == g)).isSome) = true) : Glob (σG gs) ng := by
  intro g hg
  have := List.all_eq_true.1 h g hg
  cases hf : gs.find? (fun x => x.1 == g) with
  | none => rw [hf] at this; cases this
  | some x =>
    have hxb : x.1 = g := by simpa using List.find?_some hf
    exact ⟨x.2.length, by unfold σG; rw [hf]; subst hxb; rfl⟩
theorem mut_G {gs : List (Nat × List Value)} {N : Nat} {B : Nat} : ¬ Mut (σG gs) (WG gs N) B := by
  rintro ⟨b, g, hg, _, hro⟩
  obtain ⟨x, _, _, _, ht⟩ := σG_some hg
  exact hro x.2 ht

theorem grown_ofG {gs : List (Nat × List Value)} {N : Nat} {σ' : Inj} {W' : AW} {w w' : World} (he : Ext (σG gs) (WG gs N) w σ' W' w') : Grown w w' := by
  have hk : ∀ B, B < w.heap.size → w'.heap[B]? = w.heap[B]? := fun B hB => he.keep B hB mut_G
  refine ⟨⟨he.os, he.output, fun i hi => ?_⟩, he.fr, he.size⟩
  rw [hk i hi]
  cases w.heap[i]? with
  | none => rfl
  | some o => cases o <;> first | rfl | exact ⟨rfl, rfl, rfl, fun _ _ => rfl⟩ | exact .inr ⟨rfl, rfl⟩

/-- A CALL WHOSE PACKAGE VARIABLES ARE KNOWN, reckoned by the engine; some callees may be answered for by 'spec' -/
theorem closed_callsG {P : Program} (hm : P.follows .mixedOrders = true) {bad : List Nat} (hP : funsOk PlanTab.ng bad 0 P.funcs.toList = true) {spec : Callee} (hs : CalleeOK P PlanTab.ng spec) (n : Nat)
    {gs : List (Nat × List Value)} {N : Nat} (hN : gs.all (fun x => Nat.blt x.1 N) = true) (hng : PlanTab.ng.all (fun g => (gs.find? (fun x => x.1 == g)).isSome) = true) {i : Nat} {args : List Value} (hpl : args.all plain = true)
    (h : okTrue (aCallF P bad spec n (.func (.func i) #[] #[]) args (WG gs N)) = true) (w : World) (hl : LaidG gs w.heap) :
    Calls P i args.toArray w fun e w' => e = .returned (.bool true) ∧ Grown w w' := by
  obtain ⟨W', hr⟩ := okTrue_eq h
  have hc := callee_ok hm rfl hP hs n _ _ _ _ _ hr (σG gs) w (.func (.func i) #[] #[]) args (rel_G hN hl) (glob_G hng)
    (.func _ _ _ _ _ _ (.func i) rfl (fun i v v' x => by simp at x) rfl (fun i v v' x => by simp at x)) (plains_rel hpl)
  unfold CallV at hc
  obtain ⟨_, hc⟩ := hc
  have e1 : (#[] : Array Value) ++ args.toArray ++ #[] = args.toArray := by simp
  rw [e1] at hc
  refine (callsIn_wide (n := 0)).1 ?_
  refine CallsIn.mono (show CallsIn Fence.wide 0 P i args.toArray w _ from hc) ?_
  rintro e w' ⟨v, rfl, σ', hv, _, he⟩
  exact ⟨by rw [hv.bool_inv], grown_ofG he⟩
end Go.Eng
