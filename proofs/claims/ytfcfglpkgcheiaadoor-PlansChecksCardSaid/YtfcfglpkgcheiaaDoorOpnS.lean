/- Callees that are answered for. -/
import Derived.Test.YtfcfglpkgcheiaaDoorOpnH
import Derived.Test.YtfcfglpkgcheiaaDoorEngZ
namespace Go.Eng
open Go Go.RowKit
set_option linter.unusedSectionVars false
set_option linter.unusedSimpArgs false
set_option linter.unusedVariables false
variable [PlanTab]

/-- some functions, each answered for by its own -/
noncomputable def specL : List (Nat × Callee) → Callee
  | [] => fun _ _ _ => none
  | (F, c) :: l => fun f args W => match f with
    | .func (.func g) fs cs => (match Nat.beq g F with
      | true => c (.func (.func g) fs cs) args W
      | false => specL l (.func (.func g) fs cs) args W)
    | _ => none
theorem specL_ok {P : Program} {ng : List Nat} : ∀ {l : List (Nat × Callee)}, (∀ x ∈ l, CalleeOK P ng x.2) → CalleeOK P ng (specL l)
  | [], _ => fun f args W v W' h => by cases h
  | (F, c) :: l, hl => by
    intro f args W v W' h
    unfold specL at h
    split at h
    case h_2 => cases h
    split at h
    · exact hl (F, c) (by simp) _ _ _ _ _ h
    · exact specL_ok (fun x hx => hl x (by simp [hx])) _ _ _ _ _ h
/-- the package variables hold what is said -/
def GlobW (gs : List (Nat × List Value)) (W : AW) : Prop := ∀ x ∈ gs, W.get x.1 = some (.ro x.2) ∧ x.1 < W.next
theorem GlobW.mono {gs : List (Nat × List Value)} {W W' : AW} (h : GlobW gs W) (hle : Le W W') : GlobW gs W' := fun x hx =>
  ⟨by rw [hle.get _ (h x hx).2]; exact (h x hx).1, Nat.lt_of_lt_of_le (h x hx).2 hle.next⟩
/-- a function of a value that leaves the world: F's answer at these arguments -/
noncomputable def memoV (F : Nat) (gs : List (Nat × List Value)) (val : List Value → Option Value) : Callee := fun f args W => match f with
  | .func (.func g) fs cs => (match Nat.beq g F && (fs.isEmpty && cs.isEmpty) with
    | true => open Classical in if GlobW gs W then (match val args with
      | some v => if plain v && args.all plain then some (v, W) else none
      | none => none) else none
    | false => none)
  | _ => none
theorem memoV_at {F : Nat} {gs : List (Nat × List Value)} {val : List Value → Option Value} {args : List Value} {W : AW} {v : Value} (hg : GlobW gs W) (hv : val args = some v) (hp : plain v = true) (ha : args.all plain = true) :
    memoV F gs val (.func (.func F) #[] #[]) args W = some (v, W) := by
  unfold memoV
  simp only [Nat.beq_refl, Array.isEmpty_empty, Bool.and_self, if_pos hg, hv, hp, ha, Bool.and_true, if_true]
theorem memoV_ok {P : Program} {ng : List Nat} {F : Nat} {fn : Func} {body : Code} (hfn : P.funcs[F]? = some fn) (hname : (fn.name == "runtime.NumGoroutine") = false) (hb : fn.body = some body) {gs : List (Nat × List Value)} (hsc : gs.all (fun x => x.2.all scalar && inL x.1 ng) = true) {val : List Value → Option Value}
    (hall : ∀ args v, val args = some v → ∀ w : World, LaidG gs w.heap → Calls P F args.toArray w fun e w' => e = .returned v ∧ Quiet w w') : CalleeOK P ng (memoV F gs val) := by
  intro f args W v W' h σ w f' args' hW hG hf hargs
  unfold memoV at h
  split at h
  case h_2 => cases h
  rename_i g fs cs
  split at h
  case h_2 => cases h
  rename_i hgf
  simp only [Bool.and_eq_true, Nat.beq_eq, Array.isEmpty_iff] at hgf
  obtain ⟨rfl, rfl, rfl⟩ := hgf
  split at h
  case isFalse => cases h
  rename_i hgl
  split at h
  case h_2 => cases h
  rename_i u hu
  split at h
  case isFalse => cases h
  rename_i hpl
  injection h with h
  injection h with h1 h2
  subst h1; subst h2
  simp only [Bool.and_eq_true] at hpl
  obtain ⟨fn', fs', cs', hfr, hfs, hcs, rfl⟩ := hf.func_inv
  cases hfr
  obtain rfl : fs' = #[] := by
    have h1 : fs'.toList.length = 0 := hfs.1.symm
    exact Array.toList_eq_nil_iff.1 (List.length_eq_zero_iff.1 h1)
  obtain rfl : cs' = #[] := by
    have h1 : cs'.toList.length = 0 := hcs.1.symm
    exact Array.toList_eq_nil_iff.1 (List.length_eq_zero_iff.1 h1)
  obtain rfl : args' = args := LR.eq_of (fun v v' => plain_eq) hpl.2 hargs
  have hl : LaidG gs w.heap := fun x hx => by
    have hs := List.all_eq_true.1 hsc x hx
    simp only [Bool.and_eq_true] at hs
    obtain ⟨e, he⟩ := hG x.1 (inL_iff.1 hs.2)
    obtain ⟨c, t, fr, k1, _, k3⟩ := hW.obj x.1 _ _ (hgl x hx).1 he
    refine ⟨c, t, fr, k1, fun i v hv => ?_⟩
    obtain ⟨v', a, b⟩ := k3 i v hv
    have hsv := List.all_eq_true.1 hs.1 v (List.mem_of_getElem? hv)
    have : v' = v := scalar_eq hsv b
    subst this
    exact ⟨by simpa using a, hsv⟩
  refine ⟨run_callFunc_enter' hfn hname hb _ w, ?_⟩
  have e1 : (#[] : Array Value) ++ args'.toArray ++ #[] = args'.toArray := by simp
  rw [e1]
  refine CallsIn.mono (show CallsIn Fence.wide 0 P g _ w _ from (callsIn_wide (n := 0)).2 (hall _ _ hu w hl)) ?_
  rintro e w' ⟨rfl, hq⟩
  exact ⟨_, rfl, σ, plain_refl hpl.1, hq.rel hW, hq.ext σ W⟩
/-- no block that is known may be written -/
def AllRo (σ : Inj) (W : AW) : Prop := ∀ b g, σ b = some g → ∃ cs, W.get b = some (.ro cs)
theorem AllRo.quiet {σ σ' : Inj} {W W' : AW} {w w' : World} (h : AllRo σ W) (he : Ext σ W w σ' W' w') : Quiet w w' :=
  ⟨he.os, he.tape, he.output, he.size, fun B hB => he.keep B hB (by rintro ⟨b, g, hg, _, hn⟩; obtain ⟨cs, hc⟩ := h b g hg; exact hn cs hc), he.fr⟩
/-- A CALL THAT THE ENGINE ANSWERS, IN THE MODEL -/
theorem om_calls {P : Program} {o : Callee} (hok : CalleeOK P PlanTab.ng o) {σ : Inj} {W W' : AW} {w : World} (hW : WRel σ W w.heap) (hG : Glob σ PlanTab.ng) (hro : AllRo σ W) {i : FuncId} {args args' : List Value} (hargs : LR σ args args') {v : Value} (hv : plain v = true)
    (h : o (.func (.func i) #[] #[]) args W = some (v, W')) : Calls P i args'.toArray w fun e w' => e = .returned v ∧ Quiet w w' := by
  have hc := hok _ _ _ _ _ h σ w (.func (.func i) #[] #[]) args' hW hG (.func _ _ _ _ _ _ (.func i) rfl (fun i v v' x => by simp at x) rfl (fun i v v' x => by simp at x)) hargs
  unfold CallV at hc
  obtain ⟨_, hc⟩ := hc
  have e1 : (#[] : Array Value) ++ args'.toArray ++ #[] = args'.toArray := by simp
  rw [e1] at hc
  refine (callsIn_wide (n := 0)).1 ?_
  refine CallsIn.mono (show CallsIn Fence.wide 0 P i args'.toArray w _ from hc) ?_
  rintro e w' ⟨v', rfl, σ', hv', _, he⟩
  exact ⟨by rw [plain_eq hv hv'], hro.quiet he⟩
theorem allRo_G {gs : List (Nat × List Value)} {N : Nat} : AllRo (σG gs) (WG gs N) := by
  intro b g hg
  obtain ⟨x, _, _, _, ht⟩ := σG_some hg
  exact ⟨x.2, ht⟩
theorem globW_G {gs : List (Nat × List Value)} {N : Nat} (hN : gs.all (fun x => Nat.blt x.1 N) = true) (hd : ∀ x ∈ gs, gs.find? (fun y => y.1 == x.1) = some x) : GlobW gs (WG gs N) := by
  intro x hx
  refine ⟨?_, show x.1 < N by have := List.all_eq_true.1 hN x hx; simpa [Nat.blt_eq] using this⟩
  show T.get (path x.1) (treeG gs) = _
  rw [treeG_get, hd x hx]
  rfl
end Go.Eng
