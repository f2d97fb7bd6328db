/- Code. -/
import Derived.Test.YtfcfglpkgcheiaaDoorEngP
import Derived.LoopNIn
import Derived.RangeFuncRecord
namespace Go.Eng
open Go
set_option linter.unusedSectionVars false
set_option linter.unusedSimpArgs false
variable [PlanTab]

inductive X where
  | normal | exit (id : Nat) | ret
def X.to : X → Exit
  | .normal => .normal
  | .exit id => .exit id
  | .ret => .ret
def X.jump : X → Option Code
  | .normal => none
  | .exit id => some (.exit id)
  | .ret => some .ret

noncomputable def aLoop (body : PlanTab.Fr → AW → Option (X × PlanTab.Fr × AW)) : Nat → PlanTab.Fr → AW → Option (X × PlanTab.Fr × AW)
  | 0, _, _ => none
  | n + 1, R, W => match body R W with
    | some (.normal, R', W') => aLoop body n R' W'
    | r => r

noncomputable def aCode (P : Program) (call : Callee) (top : Bool) (nt : Nat) : Code → PlanTab.Fr → AW → Option (X × PlanTab.Fr × AW)
  | .skip, R, W => some (.normal, R, W)
  | .label _, R, W => some (.normal, R, W)
  | .region id ops draw, R, W =>
    match draw with
    | false => (aOps P call ops ops.toList R W).map fun r => (.normal, r.1, r.2)
    | true => match PlanTab.D id ops with
      | none => (aOps P call ops ops.toList R W).map fun r => (.normal, r.1, r.2)
      | some pl => (aPlan P call ops pl R W).map fun r => (.normal, r.1, r.2)
  | .seq a b, R, W => match aCode P call top nt a R W with
    | some (.normal, R', W') => aCode P call top nt b R' W'
    | r => r
  | .cond c a b, R, W => match aEval R c with
    | .bool true => aCode P call top nt a R W
    | .bool false => aCode P call top nt b R W
    | _ => none
  | .block id b, R, W => match aCode P call top nt b R W with
    | some (.exit i, R', W') => if i = id then some (.normal, R', W') else some (.exit i, R', W')
    | r => r
  | .loop b, R, W => aLoop (aCode P call top nt b) 1000000 R W
  | .rangeFunc f ps as bd, R, W =>
    match top with
    | false => none
    | true => match aEval R f with
     | .func (.func i) fs cs => W.new (.loop .ready none R nt ps as bd) fun l W1 =>
      match call (.func (.func i) fs cs) [.func (.yield l) #[] #[]] W1 with
      | some (_, W2) => match W2.get l with
        | some (.loop st pend _ _ _ _ _) => (match st with
          | .busy => none
          | _ => match pend with
            | none => some (.normal, R, W2.kill l)
            | some (.exit i) => some (.exit i, R, W2.kill l)
            | some .ret => some (.ret, R, W2.kill l)
            | _ => none)
        | _ => none
      | none => none
     | _ => none
  | .exit id, R, W => some (.exit id, R, W)
  | .ret, R, W => some (.ret, R, W)
  | .goto _, _, _ => none
  | .scope _, _, _ => none
  | .refuse _, _, _ => none

/-- the marks among an activation's deferred calls -/
def Marks (n0 : Nat) (σ : Inj) (w : World) : List Deferred → Prop
  | [] => True
  | d :: ds => (∃ r, d = { target := .collected r, args := #[] } ∧ n0 ≤ r ∧ w.heap[r]? = some (.deferred (some [])) ∧ (∀ b g, σ b = some g → g.B ≠ r) ∧
      ∀ d' ∈ ds, ∀ r', d'.target = .collected r' → r' ≠ r) ∧ Marks n0 σ w ds

section
variable {P : Program} {σ σ' : Inj} {W W' : AW} {w w' : World} {n0 : Nat}

theorem Marks.ext (he : Ext σ W w σ' W' w') : ∀ {ds : List Deferred}, Marks n0 σ w ds → Marks n0 σ' w' ds := by
  intro ds
  induction ds with
  | nil => intro _; trivial
  | cons d ds ih =>
    rintro ⟨⟨r, h1, h2, h3, h4, h5⟩, hds⟩
    have hr : r < w.heap.size := (Array.getElem?_eq_some_iff.1 h3).1
    have hm : ¬ Mut σ W r := by rintro ⟨b, g, hg, e, _⟩; exact h4 b g hg e
    refine ⟨⟨r, h1, h2, (he.keep r hr hm).trans h3, fun b g hg e => ?_, h5⟩, ih hds⟩
    rcases he.grow b g hg (by omega) with h | h
    · exact h4 b g h e
    · rw [e] at h; exact hm h
theorem Marks.drawn {n : Nat} {ds : List Deferred} (h : Marks n0 σ w ds) : Marks n0 σ { w with drawn := n } ds := h.ext (Ext.drawn σ ⟨.lf, 0⟩ w n)

theorem WRel.push (h : WRel σ W w.heap) (x : Obj) (hx : ∀ c t fr, x ≠ .cells c t fr) : WRel σ W (w.heap.push x) ∧ Ext σ W w σ W { w with heap := w.heap.push x } := by
  have hold : ∀ B, B < w.heap.size → (w.heap.push x)[B]? = w.heap[B]? := fun B hB => by
    rw [Array.getElem?_push]; rw [if_neg (by omega)]
  refine ⟨⟨h.free, fun b g hg => ?_, fun b o g hb hg => (h.obj b o g hb hg).same (hold _ (h.dom b g hg).2), h.disj⟩,
    ⟨.refl _, fun _ _ h => h, by simp, rfl, rfl, rfl, fun B hB _ => hold B hB, fun _ _ h k => ⟨h, k⟩, fun b g hg _ => .inl hg, fun a => ?_⟩⟩
  · have := h.dom b g hg
    simp; omega
  · by_cases ha : a.block = w.heap.size
    · unfold World.frozen?
      rw [ha]
      cases x <;> first | exact absurd rfl (hx _ _ _) | simp
    · exact frozen_same (by show (w.heap.push x)[a.block]? = _; rw [Array.getElem?_push, if_neg ha])
theorem WRel.other (h : WRel σ W w.heap) {r : Nat} (hr : ∀ b g, σ b = some g → g.B ≠ r) (x : Obj) : WRel σ W (w.heap.setIfInBounds r x) := by
  refine ⟨h.free, fun b g hg => ?_, fun b o g hb hg => (h.obj b o g hb hg).same ?_, h.disj⟩
  · have := h.dom b g hg; simpa using this
  · rw [Array.getElem?_setIfInBounds_ne (Ne.symm (hr b g hg))]

theorem range_ops (ops : Array Oper) : (List.range ops.size).filterMap (fun i => ops[i]?) = ops.toList := by
  have h1 : (List.range ops.size).filterMap (fun i => ops[i]?) = (List.range ops.size).map fun i => ops.getD i default := by
    have key : ∀ l : List Nat, (∀ i ∈ l, i < ops.size) → l.filterMap (fun i => ops[i]?) = l.map fun i => ops.getD i default := by
      intro l
      induction l with
      | nil => intro _; rfl
      | cons i l ih =>
        intro h
        have hi : i < ops.size := h i (by simp)
        simp only [List.filterMap_cons, List.map_cons, Array.getElem?_eq_getElem hi]
        rw [ih fun j hj => h j (by simp [hj])]
        simp [hi]
    exact key _ fun i hi => by simpa using hi
  rw [h1]
  refine List.ext_getElem? fun i => ?_
  simp only [List.getElem?_map, Array.getElem?_toList]
  by_cases hi : i < ops.size
  · rw [List.getElem?_range hi]; simp [hi]
  · rw [List.getElem?_eq_none (by simpa using hi)]; simp [hi]

/-- a region in the order of the text -/
theorem ops_wp {ng : List Nat} {nt : Nat} {call : Callee} (hc : CalleeOK P ng call) {ops : Array Oper} (hok : ∀ (i : Nat) (o : Oper), ops[i]? = some o → okOper nt ng o = true) {ro : Option Nat} {Q : Exit → Act → World → Prop} {Rf : PlanTab.Fr} {Wf : AW} :
    ∀ (l : List Nat) (σ : Inj) (R : PlanTab.Fr) (W : AW) (a : Act) (w : World), (∀ i ∈ l, i < ops.size) → WRel σ W w.heap → Glob σ ng → RegRel nt σ R a.tmps →
      aOps P call ops (l.filterMap fun i => ops[i]?) R W = some (Rf, Wf) →
      (∀ σ' a' w', RegRel nt σ' Rf a'.tmps → a'.defers = a.defers → WRel σ' Wf w'.heap → Ext σ W w σ' Wf w' → Q .normal a' w') → wpOpsIn (FE ro) 0 P ops Q l a w := by
  intro l
  induction l with
  | nil =>
    intro σ R W a w _ hW hG hR h hQ
    injection h with h
    injection h with h1 h2
    subst h1; subst h2
    exact hQ σ a w hR rfl hW (.refl _ _ _)
  | cons i l ih =>
    intro σ R W a w hl hW hG hR h hQ
    have hi : i < ops.size := hl i (by simp)
    have hg : ops[i]? = some ops[i] := Array.getElem?_eq_getElem hi
    simp only [List.filterMap_cons, hg, aOps] at h
    split at h
    case h_2 => cases h
    rename_i R' W' hs
    have hlook : ∀ t ∈ (ops[i]).looksAt ops, VR σ (rget R t) (a.tmps.getD t undef) := fun t ht => hR.2 t (looks_lt hok hg ht)
    have hρ := operands_rel hG (hok _ _ hg) hlook
    have hwe := wanted_eq hlook
    simp only [wpOpsIn, hg, hwe]
    unfold aStep at hs
    split at hs
    · rename_i hw
      rw [if_pos hw]
      split at hs
      · rename_i v W1 hop
        injection hs with hs
        injection hs with hs1 hs2
        subst hs1; subst hs2
        refine aOpC_wp hc hW hG hop hρ fun σ' v' w' hv hw' he => ?_
        exact ih σ' _ _ _ w' (fun j hj => hl j (by simp [hj])) hw' (hG.mono he.sub) ((hR.mono he.sub).put _ hv) h
          (fun σ'' a' w'' k1 k2 k3 k4 => hQ σ'' a' w'' k1 (by rw [k2, put_defers]) k3 (he.trans k4))
      · cases hs
    · rename_i hw
      rw [if_neg hw]
      injection hs with hs
      injection hs with hs1 hs2
      subst hs1; subst hs2
      exact ⟨fun f _ => trivial, ih σ _ _ _ w (fun j hj => hl j (by simp [hj])) hW hG (hR.put _ .undef) h
        (fun σ'' a' w'' k1 k2 k3 k4 => hQ σ'' a' w'' k1 (by rw [k2, put_defers]) k3 k4)⟩
end
end Go.Eng
