/- A region that draws its order: in all orders. -/
import Derived.Test.YtfcfglpkgcheiaaDoorEngO
namespace Go.Eng
open Go
set_option linter.unusedSectionVars false
set_option linter.unusedSimpArgs false
variable [PlanTab]

/-- how many operations are not listed -/
def unl (n : Nat) (l : Array Bool) : Nat := (List.range n).countP fun i => !l.getD i true
theorem countP_lt {α : Type} {p q : α → Bool} {x : α} : ∀ {l : List α}, x ∈ l → p x = true → q x = false → (∀ y, q y = true → p y = true) → l.countP q < l.countP p := by
  intro l
  induction l with
  | nil => intro h; cases h
  | cons y l ih =>
    intro h hp hq hi
    have hle : l.countP q ≤ l.countP p := List.countP_mono_left fun z _ hz => hi z hz
    rcases List.mem_cons.1 h with rfl | h
    · rw [List.countP_cons, List.countP_cons, hp, hq]; simp; omega
    · have := ih h hp hq hi
      rw [List.countP_cons, List.countP_cons]
      cases hqy : q y with
      | true => rw [hi y hqy]; simp; omega
      | false => cases p y <;> simp <;> omega
theorem unl_set {n i : Nat} {l : Array Bool} (hi : i < n) (hs : i < l.size) (h : l.getD i true = false) : unl n (l.setIfInBounds i true) < unl n l := by
  refine countP_lt (x := i) (by simpa using hi) (by rw [h]; rfl) (by rw [set_same hs]; rfl) fun y hy => ?_
  by_cases e : i = y
  · subst e; rw [set_same hs] at hy; cases hy
  · rw [set_ne e] at hy; exact hy
theorem unl_zero {n : Nat} {l : Array Bool} (h : unl n l = 0) {i : Nat} (hi : i < n) : l.getD i true = true := by
  unfold unl at h
  rw [List.countP_eq_zero] at h
  have := h i (by simpa using hi)
  simpa using this

section
variable {P : Program} {call : Callee} {ops : Array Oper} {A : List Nat} {nt : Nat} {ng : List Nat} {σ0 : Inj} {W0 : AW} {w0 : World} {ds : List Deferred}

inductive PreOK (ops : Array Oper) : List Did → Prop where
  | nil : PreOK ops []
  | cons (d : Did) (pre : List Did) (h : PreOK ops pre) (ht : ∀ e ∈ d.o.after, Region.binds .any e = true → ∃ d' ∈ pre, d'.i = e.on) (ho : ops[d.i]? = some d.o) : PreOK ops (d :: pre)

theorem PreOK.ready {listed : Array Bool} (hsz : listed.size = ops.size) : ∀ {pre : List Did}, PreOK ops pre → (∃ d ∈ pre, listed.getD d.i true = false) → Region.ready .any ops listed ≠ [] := by
  intro pre h
  induction h with
  | nil => rintro ⟨d, hd, _⟩; cases hd
  | cons d pre h ht ho ih =>
    rintro ⟨d', hd', hl⟩ hr
    by_cases hex : ∃ d ∈ pre, listed.getD d.i true = false
    · exact ih hex hr
    · rcases List.mem_cons.1 hd' with rfl | hd'
      · have : d'.i ∈ Region.ready .any ops listed := mem_ready.2 ⟨hl, d'.o, ho, fun e he hb => by
          obtain ⟨d2, h2, e2⟩ := ht e he hb
          have hl2 : listed.getD d2.i true = true := by
            cases hq : listed.getD d2.i true with
            | true => rfl
            | false => exact absurd ⟨d2, h2, hq⟩ hex
          -- in range
          have hir : d2.i < ops.size := by
            have : ∀ {pre}, PreOK ops pre → ∀ d ∈ pre, d.i < ops.size := by
              intro pre h
              induction h with
              | nil => intro d hd; cases hd
              | cons d pre h ht ho ih =>
                intro d' hd'
                rcases List.mem_cons.1 hd' with rfl | hd'
                · exact (Array.getElem?_eq_some_iff.1 ho).1
                · exact ih d' hd'
            exact this h d2 h2
          rw [← e2]
          simp only [Array.getD_eq_getD_getElem?] at hl2 ⊢
          rw [Array.getElem?_eq_getElem (by omega)] at hl2 ⊢
          exact hl2⟩
        rw [hr] at this
        cases this
      · exact hex ⟨d', hd', hl⟩

theorem plan_any (hc : CalleeOK P ng call) (hok : ∀ (i : Nat) (o : Oper), ops[i]? = some o → okOper nt ng o = true) (hA : ∀ (i : Nat) (o : Oper), ops[i]? = some o → A.getD i 0 = maskOf A o)
    {ro : Option Nat} {Q : Exit → Act → World → Prop} {Rf : PlanTab.Fr} {Wf : AW}
    (hQ : ∀ σ' a' w', RegRel nt σ' Rf a'.tmps → a'.defers = ds → WRel σ' Wf w'.heap → Ext σ0 W0 w0 σ' Wf w' → Q .normal a' w') :
    ∀ (fuel : Nat) (suf : List (Nat × List Nat)) (pre : List Did) (listed : Array Bool) (bd : Nat → Option Nat) (σ : Inj) (R : PlanTab.Fr) (W : AW) (a : Act) (w : World),
      J P call ops A nt ng σ0 W0 w0 ds pre listed bd σ R W a w → PreOK ops pre → planGo ops A pre suf = true → aPlan P call ops suf R W = some (Rf, Wf) →
      (∀ i, i < ops.size → (∃ d ∈ pre, d.i = i) ∨ ∃ k ∈ suf, k.1 = i) → unl ops.size listed ≤ fuel → wpAnyIn (FE ro) 0 P .any ops Q fuel listed a w := by
  intro fuel
  induction fuel with
  | zero =>
    intro suf pre listed bd σ R W a w hJ hpre hgo hpl hcov hun
    have hall : ∀ i, i < ops.size → listed.getD i true = true := fun i hi => unl_zero (by omega) hi
    have hready : Region.ready .any ops listed = [] := by
      rw [List.eq_nil_iff_forall_not_mem]
      intro i hi
      obtain ⟨h1, o, ho, _⟩ := mem_ready.1 hi
      rw [hall i (Array.getElem?_eq_some_iff.1 ho).1] at h1
      cases h1
    refine ⟨hready, ?_⟩
    cases suf with
    | nil =>
      injection hpl with hpl
      injection hpl with h1 h2
      subst h1; subst h2
      refine hQ σ a w ⟨hJ.tsz, fun t ht => hJ.regs t ht fun d hd hl => ?_⟩ hJ.dfs hJ.wrel hJ.ext
      rw [hall d.i (Array.getElem?_eq_some_iff.1 (hJ.op d hd)).1] at hl; cases hl
    | cons k rest =>
      obtain ⟨i, re⟩ := k
      obtain ⟨o, e, hh⟩ := planGo_cons hgo
      have hi := (Array.getElem?_eq_some_iff.1 hh.op).1
      obtain ⟨d, hd, e⟩ := hJ.sub i hi (hall i hi)
      exact absurd e (hh.new d hd)
  | succ fuel ih =>
    intro suf
    induction suf with
    | nil =>
      intro pre listed bd σ R W a w hJ hpre hgo hpl hcov hun
      refine ⟨fun hr => ?_, fun i hi => ?_⟩
      · have hno : ∀ d ∈ pre, listed.getD d.i true = true := fun d hd => by
          cases hq : listed.getD d.i true with
          | true => rfl
          | false => exact absurd hr (hpre.ready hJ.lsz ⟨d, hd, hq⟩)
        injection hpl with hpl
        injection hpl with h1 h2
        subst h1; subst h2
        exact hQ σ a w ⟨hJ.tsz, fun t ht => hJ.regs t ht fun d hd hl => by rw [hno d hd] at hl; cases hl⟩ hJ.dfs hJ.wrel hJ.ext
      · obtain ⟨h1, o, ho, h2⟩ := mem_ready.1 hi
        have hlt := (Array.getElem?_eq_some_iff.1 ho).1
        rcases hcov i hlt with ⟨d, hd, e⟩ | ⟨k, hk, _⟩
        · subst e
          have hod := hJ.op d hd
          rw [ho] at hod
          injection hod with hod
          subst hod
          refine hJ.fire hc hok hA hd h1 h2 fun σ' a' w' hJ' => ?_
          exact ih [] pre _ bd σ' R W a' w' hJ' hpre hgo hpl hcov (by have := unl_set hlt (by rw [hJ.lsz]; exact hlt) h1; omega)
        · cases hk
    | cons k rest ihs =>
      intro pre listed bd σ R W a w hJ hpre hgo hpl hcov hun
      obtain ⟨i, re⟩ := k
      obtain ⟨o, e, hh⟩ := planGo_cons hgo
      have hi := (Array.getElem?_eq_some_iff.1 hh.op).1
      simp only [aPlan, hh.op] at hpl
      split at hpl
      case h_2 => cases hpl
      rename_i R' W' hs
      split at hpl
      case isFalse => cases hpl
      rename_i hre
      have hcov' : ∀ j, j < ops.size → (∃ d ∈ (⟨i, o, e⟩ :: pre : List Did), d.i = j) ∨ ∃ k ∈ rest, k.1 = j := by
        intro j hj
        rcases hcov j hj with ⟨d, hd, h1⟩ | ⟨k, hk, h1⟩
        · exact .inl ⟨d, by simp [hd], h1⟩
        · rcases List.mem_cons.1 hk with rfl | hk
          · exact .inl ⟨⟨i, o, e⟩, by simp, h1⟩
          · exact .inr ⟨k, hk, h1⟩
      have hpre' : PreOK ops (⟨i, o, e⟩ :: pre) := .cons _ _ hpre hh.top hh.op
      cases e with
      | true =>
        obtain ⟨bd', hJ'⟩ := hJ.advance hh hs
        exact ihs _ listed bd' σ R' W' a w hJ' hpre' hh.go hpl hcov' hun
      | false =>
        refine ⟨fun hr => ?_, fun j hj => ?_⟩
        · exfalso
          by_cases hex : ∃ d ∈ pre, listed.getD d.i true = false
          · exact hpre.ready hJ.lsz hex hr
          · have hl : listed.getD i true = false := by
              cases hq : listed.getD i true with
              | false => rfl
              | true => obtain ⟨d, hd, e⟩ := hJ.sub i hi hq; exact absurd e (hh.new d hd)
            have : i ∈ Region.ready .any ops listed := mem_ready.2 ⟨hl, o, hh.op, fun ed he hb => by
              obtain ⟨d2, h2, e2⟩ := hh.top ed he hb
              have hl2 : listed.getD d2.i true = true := by
                cases hq : listed.getD d2.i true with
                | true => rfl
                | false => exact absurd ⟨d2, h2, hq⟩ hex
              have hir : d2.i < listed.size := by rw [hJ.lsz]; exact (Array.getElem?_eq_some_iff.1 (hJ.op d2 h2)).1
              rw [← e2]
              simp only [Array.getD_eq_getD_getElem?] at hl2 ⊢
              rw [Array.getElem?_eq_getElem hir] at hl2 ⊢
              exact hl2⟩
            rw [hr] at this
            cases this
        · obtain ⟨h1, oj, ho, h2⟩ := mem_ready.1 hj
          have hlt := (Array.getElem?_eq_some_iff.1 ho).1
          rcases hcov j hlt with ⟨d, hd, e⟩ | ⟨k, hk, e⟩
          · subst e
            have hod := hJ.op d hd
            rw [ho] at hod
            injection hod with hod
            subst hod
            refine hJ.fire hc hok hA hd h1 h2 fun σ' a' w' hJ' => ?_
            refine ih ((i, re) :: rest) pre _ bd σ' R W a' w' hJ' hpre hgo ?_ hcov (by have := unl_set hlt (by rw [hJ.lsz]; exact hlt) h1; omega)
            simp only [aPlan, hh.op, hs, hre, if_true]
            exact hpl
          · rcases List.mem_cons.1 hk with rfl | hk
            · simp only at e
              subst e
              have hod := hh.op
              rw [ho] at hod
              injection hod with hod
              subst hod
              refine hJ.force hc hok hA hh hs hre h2 fun σ' a' w' hJ' => ?_
              exact ih rest _ _ bd σ' R' W' a' w' hJ' hpre' hh.go hpl hcov' (by have := unl_set hlt (by rw [hJ.lsz]; exact hlt) h1; omega)
            · exfalso
              rcases hh.last with h | h
              · cases h
              · obtain ⟨ok, hok', ed, hed, hb, hno⟩ := h k hk
                rw [e, ho] at hok'
                injection hok' with hok'
                subst hok'
                have h3 := getD_up (h2 ed hed hb)
                obtain ⟨d, hd, e⟩ := hJ.sub ed.on (by rw [← hJ.lsz]; exact h3.2) h3.1
                exact hno d hd e

/-- a region that draws -/
theorem drawn_wp {P : Program} (hm : P.follows .mixedOrders = true) {ng : List Nat} {nt : Nat} {call : Callee} (hc : CalleeOK P ng call) {id : Nat} {ops : Array Oper} {pl : List (Nat × List Nat)}
    (hok : ops.toList.all (okOper nt ng) = true) (hp : planOK ops pl = true) {σ : Inj} {R Rf : PlanTab.Fr} {W Wf : AW} {a : Act} {w : World} (hW : WRel σ W w.heap) (hG : Glob σ ng) (hR : RegRel nt σ R a.tmps)
    (h : aPlan P call ops pl R W = some (Rf, Wf)) {ro : Option Nat} {Q : Exit → Act → World → Prop}
    (hQ : ∀ σ' a' w', RegRel nt σ' Rf a'.tmps → a'.defers = a.defers → WRel σ' Wf w'.heap → Ext σ W w σ' Wf w' → Q .normal a' w') :
    (Code.region id ops true).wpIn (FE ro) 0 P Q a w := by
  refine wpIn_region_any hm ?_
  unfold planOK at hp
  simp only [Bool.and_eq_true, List.all_eq_true, List.mem_range] at hp
  obtain ⟨h1, h2⟩ := hp
  have hat : ∀ i o, ops[i]? = some o → (ancM ops.toList []).getD i 0 = maskOf (ancM ops.toList []) o ∧ ∃ k ∈ pl, k.1 = i := by
    intro i o ho
    have := h1 i (Array.getElem?_eq_some_iff.1 ho).1
    rw [ho] at this
    simp only [Bool.and_eq_true, Nat.beq_eq, List.any_eq_true] at this
    exact this.1
  have hok' : ∀ (i : Nat) (o : Oper), ops[i]? = some o → okOper nt ng o = true := fun i o ho => List.all_eq_true.1 hok o (by have := Array.mem_of_getElem? ho; simpa using this)
  have hsz : ∀ i, i < ops.size → (Array.replicate ops.size false).getD i true = false := fun i hi => by simp [hi]
  have hcov : ∀ i, i < ops.size → (∃ d ∈ ([] : List Did), d.i = i) ∨ ∃ k ∈ pl, k.1 = i := fun i hi =>
    .inr (hat i ops[i] (Array.getElem?_eq_getElem hi)).2
  refine plan_any (A := ancM ops.toList []) (W0 := W) (σ0 := σ) (w0 := w) (ds := a.defers) hc hok' (fun i o ho => (hat i o ho).1) hQ ops.size pl [] _ (fun _ => none) σ R W a _ ?_ .nil h2 h hcov ?_
  · refine ⟨hW, hG, .drawn _ _ _ _, hR.1, rfl, by simp, fun t ht _ => hR.2 t ht, ?_, ?_, ?_, ?_, ?_, ?_, ?_, ?_⟩
    · intro i hi hl; rw [hsz i hi] at hl; cases hl
    · intro d hd; cases hd
    · intro d hd; cases hd
    · intro d hd; cases hd
    · intro i j hi hl; rw [hsz i hi] at hl; cases hl
    · intro d hd; cases hd
    · intro d hd; cases hd
    · intro d hd; cases hd
  · unfold unl
    have := List.countP_le_length (p := fun i => !(Array.replicate ops.size false).getD i true) (l := List.range ops.size)
    simpa using this
end
end Go.Eng
