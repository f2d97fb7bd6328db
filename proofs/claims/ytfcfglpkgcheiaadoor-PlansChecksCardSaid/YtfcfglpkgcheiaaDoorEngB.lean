/- How an abstract heap stands for a world of the model, and what happens to that when the world changes. -/
import Derived.Test.YtfcfglpkgcheiaaDoorEngA
namespace Go.Eng
open Go
set_option linter.unusedSectionVars false
variable [PlanTab]

noncomputable def rget (R : PlanTab.Fr) (t : Nat) : Value := PlanTab.fget R t
noncomputable def rset (R : PlanTab.Fr) (t : Nat) (v : Value) : PlanTab.Fr := PlanTab.fset R t v
noncomputable def rput (R : PlanTab.Fr) (d : Option Tmp) (v : Value) : PlanTab.Fr := match d with | some t => rset R t v | none => R
theorem rget_rset (R : PlanTab.Fr) (t : Nat) (v : Value) : rget (rset R t v) t = v := PlanTab.get_set R t v
theorem rget_rset_ne (R : PlanTab.Fr) {t u : Nat} (v : Value) (h : t ≠ u) : rget (rset R t v) u = rget R u := PlanTab.get_set_ne R t u v h

def RegRel (nt : Nat) (σ : Inj) (R : PlanTab.Fr) (tmps : Array Value) : Prop := tmps.size = nt ∧ ∀ t, t < nt → VR σ (rget R t) (tmps.getD t undef)
theorem RegRel.mono {nt : Nat} {σ σ' : Inj} (hs : Sub σ σ') {R : PlanTab.Fr} {tmps : Array Value} (h : RegRel nt σ R tmps) : RegRel nt σ' R tmps :=
  ⟨h.1, fun t ht => (h.2 t ht).mono hs⟩
theorem RegRel.set {nt : Nat} {σ : Inj} {R : PlanTab.Fr} {tmps : Array Value} (h : RegRel nt σ R tmps) (d : Nat) {v v' : Value} (hv : VR σ v v') :
    RegRel nt σ (rset R d v) (tmps.setIfInBounds d v') := by
  refine ⟨by simp [h.1], fun t ht => ?_⟩
  by_cases hd : d = t
  · subst hd
    rw [rget_rset]
    have : d < tmps.size := by rw [h.1]; exact ht
    simpa [Array.getElem?_setIfInBounds, this] using hv
  · rw [rget_rset_ne _ _ hd]
    have := h.2 t ht
    simpa [Array.getElem?_setIfInBounds_ne hd] using this
theorem RegRel.put {nt : Nat} {σ : Inj} {R : PlanTab.Fr} {a : Act} (h : RegRel nt σ R a.tmps) (d : Option Tmp) {v v' : Value} (hv : VR σ v v') :
    RegRel nt σ (rput R d v) (a.put d v').tmps := by
  cases d with
  | none => exact h
  | some d => exact h.set d hv
@[simp] theorem put_defers (a : Act) (d : Option Tmp) (v : Value) : (a.put d v).defers = a.defers := by cases d <;> rfl

/-- the entries of a map -/
def ER (σ : Inj) (es es' : List MapEntry) : Prop :=
  es.length = es'.length ∧ ∀ (i : Nat) (e e' : MapEntry), es[i]? = some e → es'[i]? = some e' → VR σ e.key e'.key ∧ VR σ e.val e'.val ∧ e.born = e'.born
theorem ER.mono {σ σ' : Inj} (hs : Sub σ σ') {es es' : List MapEntry} (h : ER σ es es') : ER σ' es es' :=
  ⟨h.1, fun i e e' a b => let ⟨x, y, z⟩ := h.2 i e e' a b; ⟨x.mono hs, y.mono hs, z⟩⟩

def ORel (σ : Inj) (h : Array Obj) (g : Seg) : AObj → Prop
  | .cells cs => ∃ c t, h[g.B]? = some (.cells c t (0, 0)) ∧ g.s + cs.length ≤ g.e ∧ g.e ≤ c.size ∧
      ∀ (i : Nat) (v : Value), cs[i]? = some v → ∃ v', c[g.s + i]? = some v' ∧ VR σ v v'
  | .ro cs => ∃ c t fr, h[g.B]? = some (.cells c t fr) ∧ g.s + cs.length ≤ g.e ∧
      ∀ (i : Nat) (v : Value), cs[i]? = some v → ∃ v', c[g.s + i]? = some v' ∧ VR σ v v'
  | .map es clock => g.s = 0 ∧ g.e = 1 ∧ ∃ es' : Array MapEntry, h[g.B]? = some (.map es' clock) ∧ ER σ es es'.toList
  | .loop st pend R nt ps as bd => g.s = 0 ∧ g.e = 1 ∧ ∃ r : Loop, h[g.B]? = some (.loop r) ∧ r.state = st ∧ r.pending = pend ∧ RegRel nt σ R r.tmps ∧ r.params = ps ∧ r.assign = as ∧ r.body = bd ∧ CodeP σ nt as ∧ CodeP σ nt bd ∧ ps.toList.all (fun t => Nat.blt t nt) = true
  | .siter s pos => g.s = 0 ∧ g.e = 1 ∧ h[g.B]? = some (.stringIter s pos)
theorem ORel.mono {σ σ' : Inj} (hs : Sub σ σ') {h : Array Obj} {g : Seg} {o : AObj} (k : ORel σ h g o) : ORel σ' h g o := by
  cases o with
  | cells cs =>
    obtain ⟨c, t, h1, h2, h3, h4⟩ := k
    exact ⟨c, t, h1, h2, h3, fun i v hv => let ⟨v', a, b⟩ := h4 i v hv; ⟨v', a, b.mono hs⟩⟩
  | ro cs =>
    obtain ⟨c, t, fr, h1, h2, h4⟩ := k
    exact ⟨c, t, fr, h1, h2, fun i v hv => let ⟨v', a, b⟩ := h4 i v hv; ⟨v', a, b.mono hs⟩⟩
  | map es clock => obtain ⟨a, b, es', h1, h2⟩ := k; exact ⟨a, b, es', h1, h2.mono hs⟩
  | loop st pend R nt ps as bd => obtain ⟨a, b, r, h1, h2, h3, h4, h5, h6, h7, h8, h9, h10⟩ := k; exact ⟨a, b, r, h1, h2, h3, h4.mono hs, h5, h6, h7, h8.mono hs, h9.mono hs, h10⟩
  | siter s pos => exact k
/-- the object itself lies as it lay -/
theorem ORel.same {σ : Inj} {h h' : Array Obj} {g : Seg} {o : AObj} (k : ORel σ h g o) (e : h'[g.B]? = h[g.B]?) : ORel σ h' g o := by
  cases o with
  | cells cs => obtain ⟨c, t, h1, h2⟩ := k; exact ⟨c, t, e.trans h1, h2⟩
  | ro cs => obtain ⟨c, t, fr, h1, h2⟩ := k; exact ⟨c, t, fr, e.trans h1, h2⟩
  | map es clock => obtain ⟨a, b, es', h1, h2⟩ := k; exact ⟨a, b, es', e.trans h1, h2⟩
  | loop st pend R nt ps as bd => obtain ⟨a, b, r, h1, h2⟩ := k; exact ⟨a, b, r, e.trans h1, h2⟩
  | siter s pos => obtain ⟨a, b, h1⟩ := k; exact ⟨a, b, e.trans h1⟩

/-- may it be written? -/
def rw_ : AObj → Bool
  | .ro _ => false
  | _ => true
theorem rw_of {o : AObj} (h : ∀ cs, o ≠ .ro cs) : rw_ o = true := by cases o <;> first | rfl | exact absurd rfl (h _)
theorem rwL {o o2 : AObj} (h : ∀ cs, o ≠ .ro cs) : (rw_ o || rw_ o2) = true := by rw [rw_of h]; rfl
theorem rwR {o o2 : AObj} (h : ∀ cs, o ≠ .ro cs) : (rw_ o2 || rw_ o) = true := by rw [rw_of h]; simp
structure WRel (σ : Inj) (W : AW) (h : Array Obj) : Prop where
  free : ∀ b, W.next ≤ b → W.get b = none
  dom : ∀ b g, σ b = some g → b < W.next ∧ g.B < h.size
  obj : ∀ b o g, W.get b = some o → σ b = some g → ORel σ h g o
  disj : ∀ b1 b2 o1 o2 g1 g2, b1 ≠ b2 → W.get b1 = some o1 → W.get b2 = some o2 → σ b1 = some g1 → σ b2 = some g2 → (rw_ o1 || rw_ o2) = true → g1.B ≠ g2.B ∨ g1.e ≤ g2.s ∨ g2.e ≤ g1.s

/-- blocks of the model that the engine may have turned -/
def Mut (σ : Inj) (W : AW) (B : Nat) : Prop := ∃ b g, σ b = some g ∧ g.B = B ∧ ∀ cs, W.get b ≠ some (.ro cs)

theorem frozen_same {w w' : World} {a : Addr} (h : w'.heap[a.block]? = w.heap[a.block]?) : w'.frozen? a = w.frozen? a := by unfold World.frozen?; rw [h]
theorem ORel.cold {σ : Inj} {w : World} {g : Seg} {o : AObj} (k : ORel σ w.heap g o) (hro : ∀ cs, o ≠ .ro cs) {a : Addr} (ha : a.block = g.B) : w.frozen? a = false := by
  unfold World.frozen?
  rw [ha]
  cases o with
  | cells cs => obtain ⟨c, t, h1, _⟩ := k; rw [h1]; simp
  | ro cs => exact absurd rfl (hro cs)
  | map es clock => obtain ⟨_, _, es', h1, _⟩ := k; rw [h1]
  | loop st pend R nt ps as bd => obtain ⟨_, _, r, h1, _⟩ := k; rw [h1]
  | siter s pos => obtain ⟨_, _, h1⟩ := k; rw [h1]

structure Ext (σ : Inj) (W : AW) (w : World) (σ' : Inj) (W' : AW) (w' : World) : Prop where
  sub : Sub σ σ'
  ro : ∀ b cs, W.get b = some (.ro cs) → W'.get b = some (.ro cs)
  size : w.heap.size ≤ w'.heap.size
  os : w'.os = w.os
  tape : w'.tape = w.tape
  output : w'.output = w.output
  keep : ∀ B, B < w.heap.size → ¬ Mut σ W B → w'.heap[B]? = w.heap[B]?
  ghost : ∀ b o, W.get b = some o → σ b = none → W'.get b = some o ∧ σ' b = none
  grow : ∀ b g, σ' b = some g → g.B < w.heap.size → σ b = some g ∨ Mut σ W g.B
  fr : ∀ a, w'.frozen? a = w.frozen? a
theorem Ext.turn {σ σ' : Inj} {W W' : AW} {w w' : World} (h : Ext σ W w σ' W' w') : ∀ B, B < w.heap.size → Mut σ' W' B → Mut σ W B := by
  rintro B hB ⟨b, g, hg, rfl, hro⟩
  rcases h.grow b g hg hB with h1 | h1
  · exact ⟨b, g, h1, rfl, fun cs hc => hro cs (h.ro b cs hc)⟩
  · exact h1
theorem Ext.refl (σ : Inj) (W : AW) (w : World) : Ext σ W w σ W w := ⟨.refl _, fun _ _ h => h, Nat.le_refl _, rfl, rfl, rfl, fun _ _ _ => rfl, fun _ _ h k => ⟨h, k⟩, fun _ _ h _ => .inl h, fun _ => rfl⟩
theorem Ext.trans {σ σ' σ'' : Inj} {W W' W'' : AW} {w w' w'' : World} (h : Ext σ W w σ' W' w') (k : Ext σ' W' w' σ'' W'' w'') : Ext σ W w σ'' W'' w'' :=
  ⟨h.sub.trans k.sub, fun b cs x => k.ro b cs (h.ro b cs x), Nat.le_trans h.size k.size, k.os.trans h.os, k.tape.trans h.tape, k.output.trans h.output,
   fun B hB hm => (k.keep B (Nat.lt_of_lt_of_le hB h.size) (fun m => hm (h.turn B hB m))).trans (h.keep B hB hm),
   fun b o h1 h2 => let ⟨a1, a2⟩ := h.ghost b o h1 h2; k.ghost b o a1 a2,
   fun b g hg hB => by
     rcases k.grow b g hg (Nat.lt_of_lt_of_le hB h.size) with h1 | h1
     · exact h.grow b g h1 hB
     · exact .inr (h.turn _ hB h1), fun a => (k.fr a).trans (h.fr a)⟩
/-- a world that differs in the count of draws alone -/
theorem Ext.drawn (σ : Inj) (W : AW) (w : World) (n : Nat) : Ext σ W w σ W { w with drawn := n } := ⟨.refl _, fun _ _ h => h, Nat.le_refl _, rfl, rfl, rfl, fun _ _ _ => rfl, fun _ _ h k => ⟨h, k⟩, fun _ _ h _ => .inl h, fun _ => rfl⟩

section
variable {σ : Inj} {W : AW} {w w' : World}

/-- ONE OBJECT OF A LIVE BLOCK IS TURNED -/
theorem WRel.turn (h : WRel σ W w.heap) {b : Nat} {o o' : AObj} {g : Seg} (hb : W.get b = some o) (hro : ∀ cs, o ≠ .ro cs) (hro' : ∀ cs, o' ≠ .ro cs) (hg : σ b = some g)
    (hsz : w'.heap.size = w.heap.size) (hos : w'.os = w.os) (htp : w'.tape = w.tape) (hout : w'.output = w.output)
    (hother : ∀ B, B ≠ g.B → w'.heap[B]? = w.heap[B]?)
    (hnew : ORel σ w'.heap g o')
    (hsame : ∀ b2 o2 g2, b2 ≠ b → W.get b2 = some o2 → σ b2 = some g2 → g2.B = g.B → (g.e ≤ g2.s ∨ g2.e ≤ g.s) → ORel σ w.heap g2 o2 → ORel σ w'.heap g2 o2) :
    WRel σ (W.put b o') w'.heap ∧ Ext σ W w σ (W.put b o') w' := by
  have hne : ∀ {c : Nat}, c ≠ b → (W.put b o').get c = W.get c := fun hc => W.get_put_ne _ (Ne.symm hc)
  refine ⟨⟨?_, ?_, ?_, ?_⟩, ⟨.refl _, ?_, ?_, hos, htp, hout, ?_, ?_, ?_, ?_⟩⟩
  · intro c hc
    have hbn := (h.dom b g hg).1
    have hc' : W.next ≤ c := hc
    rw [hne (by omega)]
    exact h.free c hc'
  · intro c k hk
    have := h.dom c k hk
    exact ⟨this.1, by rw [hsz]; exact this.2⟩
  · intro c o2 g2 hc hk
    by_cases hcb : c = b
    · subst hcb
      rw [AW.get_put] at hc
      injection hc with hc
      subst hc
      rw [hg] at hk
      injection hk with hk
      subst hk
      exact hnew
    · rw [hne hcb] at hc
      by_cases hB : g2.B = g.B
      · refine hsame c o2 g2 hcb hc hk hB ?_ (h.obj c o2 g2 hc hk)
        rcases h.disj c b o2 o g2 g hcb hc hb hk hg (rwR hro) with h1 | h1 | h1
        · exact absurd hB h1
        · exact .inr h1
        · exact .inl h1
      · exact (h.obj c o2 g2 hc hk).same (hother _ hB)
  · intro b1 b2 o1 o2 g1 g2 hne' h1 h2 k1 k2 hr
    have e1 : ∃ o1', W.get b1 = some o1' ∧ rw_ o1' = rw_ o1 := by
      by_cases hx : b1 = b
      · subst hx; rw [AW.get_put] at h1; injection h1 with h1; subst h1; exact ⟨o, hb, by rw [rw_of hro, rw_of hro']⟩
      · rw [hne hx] at h1; exact ⟨o1, h1, rfl⟩
    have e2 : ∃ o2', W.get b2 = some o2' ∧ rw_ o2' = rw_ o2 := by
      by_cases hx : b2 = b
      · subst hx; rw [AW.get_put] at h2; injection h2 with h2; subst h2; exact ⟨o, hb, by rw [rw_of hro, rw_of hro']⟩
      · rw [hne hx] at h2; exact ⟨o2, h2, rfl⟩
    obtain ⟨o1', e1, q1⟩ := e1
    obtain ⟨o2', e2, q2⟩ := e2
    exact h.disj b1 b2 o1' o2' g1 g2 hne' e1 e2 k1 k2 (by rw [q1, q2]; exact hr)
  · intro c cs hc
    by_cases hcb : c = b
    · subst hcb; rw [hb] at hc; injection hc with hc; exact absurd hc (hro cs)
    · rw [hne hcb]; exact hc
  · rw [hsz]; exact Nat.le_refl _
  · intro B hB hm
    by_cases hBg : B = g.B
    · subst hBg
      exact absurd ⟨b, g, hg, rfl, fun cs hc => by rw [hb] at hc; injection hc with hc; exact hro cs hc⟩ hm
    · exact hother B hBg
  · intro c o2 hc hk
    have hcb : c ≠ b := fun e => by subst e; rw [hg] at hk; cases hk
    exact ⟨by rw [hne hcb]; exact hc, hk⟩
  · exact fun c k hk _ => .inl hk
  · intro a
    by_cases ha : a.block = g.B
    · rw [hnew.cold hro' ha, (h.obj b o g hb hg).cold hro ha]
    · exact frozen_same (hother _ ha)

/-- CELLS ARE WRITTEN within a block's segment -/
theorem WRel.write (h : WRel σ W w.heap) {b : Nat} {cs cs' : List Value} {g : Seg} (hb : W.get b = some (.cells cs)) (hg : σ b = some g)
    (hsz : w'.heap.size = w.heap.size) (hos : w'.os = w.os) (htp : w'.tape = w.tape) (hout : w'.output = w.output)
    (hother : ∀ B, B ≠ g.B → w'.heap[B]? = w.heap[B]?)
    {c c' : Array Value} {t : TypeId} (hc : w.heap[g.B]? = some (.cells c t (0, 0))) (hc' : w'.heap[g.B]? = some (.cells c' t (0, 0))) (hcs : c'.size = c.size)
    (hout' : ∀ i, i < g.s ∨ g.e ≤ i → c'[i]? = c[i]?) (hlen : g.s + cs'.length ≤ g.e)
    (hin : ∀ (i : Nat) (v : Value), cs'[i]? = some v → ∃ v', c'[g.s + i]? = some v' ∧ VR σ v v') :
    WRel σ (W.put b (.cells cs')) w'.heap ∧ Ext σ W w σ (W.put b (.cells cs')) w' := by
  refine h.turn hb (fun _ => by simp) (fun _ => by simp) hg hsz hos htp hout hother ?_ ?_
  · obtain ⟨c0, t0, h1, h2, h3, h4⟩ := h.obj b _ g hb hg
    rw [hc] at h1
    injection h1 with h1
    injection h1 with h1 h1'
    subst h1
    exact ⟨c', t, hc', hlen, by omega, hin⟩
  · intro b2 o2 g2 hne h2 k2 hB hd hold
    cases o2 with
    | cells cs2 =>
      obtain ⟨c0, t0, e1, e2, e3, e4⟩ := hold
      rw [hB, hc] at e1
      injection e1 with e1
      injection e1 with e1 e1'
      subst e1
      refine ⟨c', t, by rw [hB]; exact hc', e2, by omega, fun i v hv => ?_⟩
      obtain ⟨v', f1, f2⟩ := e4 i v hv
      have hi : i < cs2.length := (List.getElem?_eq_some_iff.1 hv).1
      exact ⟨v', by rw [hout' _ (by omega)]; exact f1, f2⟩
    | ro cs2 =>
      obtain ⟨c0, t0, fr, e1, e2, e3⟩ := hold
      rw [hB, hc] at e1
      injection e1 with e1
      injection e1 with e1 e1'
      subst e1
      refine ⟨c', t, (0, 0), by rw [hB]; exact hc', e2, fun i v hv => ?_⟩
      have hi : i < cs2.length := (List.getElem?_eq_some_iff.1 hv).1
      obtain ⟨v', f1, f2⟩ := e3 i v hv
      exact ⟨v', by rw [hout' _ (by omega)]; exact f1, f2⟩
    | map es clock => obtain ⟨_, _, es', e1, _⟩ := hold; rw [hB, hc] at e1; cases e1
    | loop st pend R nt ps as bd => obtain ⟨_, _, r, e1, _⟩ := hold; rw [hB, hc] at e1; cases e1
    | siter s pos => obtain ⟨_, _, e1⟩ := hold; rw [hB, hc] at e1; cases e1

/-- AN OBJECT THAT IS NO ROW OF CELLS IS TURNED -/
theorem WRel.setObj (h : WRel σ W w.heap) {b : Nat} {o o' : AObj} {g : Seg} {x : Obj} (hb : W.get b = some o) (hro : ∀ cs, o ≠ .ro cs) (hg : σ b = some g) (hse : g.s = 0 ∧ g.e = 1)
    (hnc : ∀ c t fr, w.heap[g.B]? ≠ some (.cells c t fr))
    (hnew : ORel σ (w.heap.setIfInBounds g.B x) g o') (hro' : ∀ cs, o' ≠ .ro cs := by intro _ hx; cases hx) :
    WRel σ (W.put b o') (w.heap.setIfInBounds g.B x) ∧ Ext σ W w σ (W.put b o') { w with heap := w.heap.setIfInBounds g.B x } := by
  refine h.turn (w' := { w with heap := w.heap.setIfInBounds g.B x }) hb hro hro' hg (by simp) rfl rfl rfl (fun B hB => ?_) hnew ?_
  · simp only [Array.getElem?_setIfInBounds]
    rw [if_neg (Ne.symm hB)]
  · intro b2 o2 g2 _ _ _ hB hd hold
    exfalso
    cases o2 with
    | cells cs2 => obtain ⟨c0, t0, e1, _⟩ := hold; rw [hB] at e1; exact hnc _ _ _ e1
    | ro cs2 => obtain ⟨c0, t0, fr, e1, _⟩ := hold; rw [hB] at e1; exact hnc _ _ _ e1
    | map es clock => obtain ⟨_, _, _⟩ := hold; omega
    | loop st pend R nt ps as bd => obtain ⟨_, _, _⟩ := hold; omega
    | siter s pos => obtain ⟨_, _, _⟩ := hold; omega

def bind1 (σ : Inj) (b : Nat) (g : Seg) : Inj := fun c => if c = b then some g else σ c
theorem bind1_sub {b : Nat} {g : Seg} (hb : σ b = none) : Sub σ (bind1 σ b g) := fun c k hc => by
  unfold bind1
  split
  · rename_i e; subst e; rw [hb] at hc; cases hc
  · exact hc
theorem bind1_same {b : Nat} {g : Seg} : bind1 σ b g b = some g := by simp [bind1]
theorem WRel.fresh (h : WRel σ W w.heap) : σ W.next = none := by
  cases hk : σ W.next with
  | none => rfl
  | some g => have := (h.dom _ _ hk).1; omega

/-- A NEW BLOCK, in the abstract heap and in the model -/
theorem WRel.alloc (h : WRel σ W w.heap) {o : AObj} {x : Obj} {e : Nat}
    (hnew : ORel (bind1 σ W.next ⟨w.heap.size, 0, e⟩) (w.heap.push x) ⟨w.heap.size, 0, e⟩ o) (hro : ∀ cs, o ≠ .ro cs := by intro _ hx; cases hx) :
    WRel (bind1 σ W.next ⟨w.heap.size, 0, e⟩) (W.add o) (w.heap.push x) ∧ Ext σ W w (bind1 σ W.next ⟨w.heap.size, 0, e⟩) (W.add o) { w with heap := w.heap.push x } := by
  have hfr := h.fresh
  have hs : Sub σ (bind1 σ W.next ⟨w.heap.size, 0, e⟩) := bind1_sub hfr
  have hold : ∀ B, B < w.heap.size → (w.heap.push x)[B]? = w.heap[B]? := fun B hB => by
    rw [Array.getElem?_push]; rw [if_neg (by omega)]
  have hne : ∀ {c : Nat}, c ≠ W.next → (W.add o).get c = W.get c := fun hc => W.get_add_ne _ (Ne.symm hc)
  have hinv : ∀ c g, bind1 σ W.next ⟨w.heap.size, 0, e⟩ c = some g → (c = W.next ∧ g = ⟨w.heap.size, 0, e⟩) ∨ (c ≠ W.next ∧ σ c = some g) := fun c g hc => by
    unfold bind1 at hc
    split at hc
    · rename_i hx; injection hc with hc; exact .inl ⟨hx, hc.symm⟩
    · rename_i hx; exact .inr ⟨hx, hc⟩
  refine ⟨⟨?_, ?_, ?_, ?_⟩, ⟨hs, ?_, ?_, rfl, rfl, rfl, ?_, ?_, ?_, ?_⟩⟩
  · intro c hc
    have hc' : W.next + 1 ≤ c := hc
    rw [hne (by omega)]
    exact h.free c (by omega)
  · intro c g hc
    rcases hinv c g hc with ⟨rfl, rfl⟩ | ⟨_, h2⟩
    · simp [AW.add_next]
    · have := h.dom c g h2
      simp [AW.add_next]; omega
  · intro c o2 g hc hk
    rcases hinv c g hk with ⟨rfl, rfl⟩ | ⟨h1, h2⟩
    · rw [AW.get_add] at hc
      injection hc with hc
      subst hc
      exact hnew
    · rw [hne h1] at hc
      exact ((h.obj c o2 g hc h2).mono hs).same (hold _ (h.dom c g h2).2)
  · intro b1 b2 o1 o2 g1 g2 hbb h1 h2 k1 k2 hr
    rcases hinv b1 g1 k1 with ⟨rfl, rfl⟩ | ⟨x1, y1⟩
    · rcases hinv b2 g2 k2 with ⟨rfl, rfl⟩ | ⟨x2, y2⟩
      · exact absurd rfl hbb
      · have := (h.dom _ _ y2).2
        exact .inl (by simp only [ne_eq]; omega)
    · rcases hinv b2 g2 k2 with ⟨rfl, rfl⟩ | ⟨x2, y2⟩
      · have := (h.dom _ _ y1).2
        exact .inl (by simp only [ne_eq]; omega)
      · rw [hne x1] at h1
        rw [hne x2] at h2
        exact h.disj _ _ _ _ _ _ hbb h1 h2 y1 y2 hr
  · intro b cs hb
    by_cases hx : b = W.next
    · subst hx
      rw [h.free _ (Nat.le_refl _)] at hb
      cases hb
    · rw [hne hx]; exact hb
  · simp
  · intro B hB _; exact hold B hB
  · intro c o2 hc hk
    have hcn : c ≠ W.next := fun e => by subst e; rw [h.free _ (Nat.le_refl _)] at hc; cases hc
    refine ⟨by rw [hne hcn]; exact hc, ?_⟩
    unfold bind1
    rw [if_neg hcn]
    exact hk
  · intro c g hk hB
    rcases hinv c g hk with ⟨rfl, rfl⟩ | ⟨h1, h2⟩
    · simp at hB
    · exact .inl h2
  · intro a
    by_cases ha : a.block = w.heap.size
    · rw [ORel.cold (w := { w with heap := w.heap.push x }) hnew hro ha]
      unfold World.frozen?
      rw [ha]
      simp
    · refine frozen_same ?_
      show (w.heap.push x)[a.block]? = _
      rw [Array.getElem?_push, if_neg ha]
end
end Go.Eng
