/- A region that draws its order: the operations done. -/
import Derived.Test.YtfcfglpkgcheiaaDoorEngN
namespace Go.Eng
open Go
set_option linter.unusedSectionVars false
set_option linter.unusedSimpArgs false
variable [PlanTab]

theorem set_same {l : Array Bool} {i : Nat} (h : i < l.size) (d : Bool) : (l.setIfInBounds i true).getD i d = true := by
  simp [Array.getElem?_setIfInBounds, h]
theorem set_ne {l : Array Bool} {i j : Nat} (h : i ≠ j) (d : Bool) : (l.setIfInBounds i true).getD j d = l.getD j d := by
  simp [Array.getElem?_setIfInBounds_ne h]
theorem getD_up {l : Array Bool} {i : Nat} (h : l.getD i false = true) : l.getD i true = true ∧ i < l.size := by
  by_cases hi : i < l.size
  · simp [hi] at h ⊢; exact h
  · simp [hi] at h

theorem looks_lt {ops : Array Oper} {nt : Nat} {ng : List Nat} (hok : ∀ (i : Nat) (o : Oper), ops[i]? = some o → okOper nt ng o = true) {i : Nat} {o : Oper} (ho : ops[i]? = some o) {t : Tmp} (ht : t ∈ o.looksAt ops) : t < nt := by
  unfold Oper.looksAt at ht
  rcases List.mem_append.1 ht with h | h
  · obtain ⟨x, hx, e⟩ := List.mem_filterMap.1 h
    have := hok i o ho
    simp only [okOper, Bool.and_eq_true, List.all_eq_true] at this
    have h2 := this.1 x hx
    cases x with
    | tmp u => simp only [Option.some.injEq] at e; subst e; simpa [okOperand, Nat.blt_eq] using h2
    | _ => cases e
  · split at h
    · rename_i g b hg
      cases hq : (ops[g]?).bind (·.dst) with
      | none => rw [hq] at h; simp at h
      | some u =>
        rw [hq] at h
        simp at h
        subst h
        cases hg : ops[g]? with
        | none => rw [hg] at hq; cases hq
        | some og =>
          rw [hg] at hq
          simp only [Option.bind_some] at hq
          have := hok g og hg
          simp only [okOper, hq, Bool.and_eq_true] at this
          simpa [Nat.blt_eq] using this.2
    · simp at h
theorem operands_rel {ops : Array Oper} {nt : Nat} {ng : List Nat} {σ : Inj} {R : PlanTab.Fr} {a : Act} (hG : Glob σ ng) {o : Oper} (hok : okOper nt ng o = true)
    (h : ∀ t ∈ o.looksAt ops, VR σ (rget R t) (a.tmps.getD t undef)) : ∀ x ∈ o.op.operands, VR σ (aEval R x) (a.eval x) := by
  intro x hx
  simp only [okOper, Bool.and_eq_true, List.all_eq_true] at hok
  have hk := hok.1 x (by simpa using hx)
  cases x with
  | tmp t => exact h t (looks_op hx)
  | const v => exact plain_refl hk
  | global g =>
    obtain ⟨e, he⟩ := hG g (inL_iff.1 hk)
    have := VR.ptr (σ := σ) ⟨g, 0, none⟩ _ he rfl
    simpa [aEval, Act.eval] using this
  | func f => exact .func _ _ _ _ _ _ (.func f) rfl (fun i v v' h => by simp at h) rfl (fun i v v' h => by simp at h)
theorem notDefer {o : Oper} (h : kindE o < 3) : ∀ c, o.op ≠ .defer c := fun c e => by unfold kindE at h; rw [e] at h; simp at h

section
variable {P : Program} {call : Callee} {ops : Array Oper} {A : List Nat} {nt : Nat} {ng : List Nat} {σ0 : Inj} {W0 : AW} {w0 : World} {ds : List Deferred}

theorem J.anc {pre : List Did} {listed : Array Bool} {bd : Nat → Option Nat} {σ : Inj} {R : PlanTab.Fr} {W : AW} {a : Act} {w : World}
    (hJ : J P call ops A nt ng σ0 W0 w0 ds pre listed bd σ R W a w) (hA : ∀ (i : Nat) (o : Oper), ops[i]? = some o → A.getD i 0 = maskOf A o)
    {i : Nat} {o : Oper} (ho : ops[i]? = some o) (hr : ∀ e ∈ o.after, Region.binds .any e = true → listed.getD e.on false = true) {j : Nat} (hj : Nat.testBit (A.getD i 0) j = true) :
    listed.getD j true = true := by
  rw [hA i o ho] at hj
  obtain ⟨e, he, hb, h | h⟩ := mask_bit hj
  · rw [h]; exact (getD_up (hr e he hb)).1
  · have := getD_up (hr e he hb)
    exact hJ.down e.on j (by rw [← hJ.lsz]; exact this.2) this.1 h

theorem J.mark {pre : List Did} {listed : Array Bool} {bd : Nat → Option Nat} {σ σ' : Inj} {R : PlanTab.Fr} {W : AW} {a : Act} {w w' : World}
    (hJ : J P call ops A nt ng σ0 W0 w0 ds pre listed bd σ R W a w) {d : Did} (hd : d ∈ pre) (v' : Value) (hs : Sub σ σ') (hw : WRel σ' W w'.heap) (he : Ext σ0 W0 w0 σ' W w')
    (hv : ∀ t, d.o.dst = some t → VR σ' (rget R t) v') (hx : ∀ d' ∈ pre, d'.i ≠ d.i → listed.getD d'.i true = false → ∀ x, bd d'.i = some x → σ x = none → (∃ o, W.get x = some o) → σ' x = none)
    (hanc : ∀ j, Nat.testBit (A.getD d.i 0) j = true → listed.getD j true = true) :
    J P call ops A nt ng σ0 W0 w0 ds pre (listed.setIfInBounds d.i true) bd σ' R W (a.put d.o.dst v') w' := by
  have hi : d.i < listed.size := by rw [hJ.lsz]; exact (Array.getElem?_eq_some_iff.1 (hJ.op d hd)).1
  have hmono : ∀ k, listed.getD k true = true → (listed.setIfInBounds d.i true).getD k true = true := fun k hk => by
    by_cases e : d.i = k
    · subst e; exact set_same hi _
    · rw [set_ne e]; exact hk
  have hback : ∀ k, (listed.setIfInBounds d.i true).getD k true = false → k ≠ d.i ∧ listed.getD k true = false := fun k hk => by
    by_cases e : d.i = k
    · subst e; rw [set_same hi] at hk; cases hk
    · rw [set_ne e] at hk; exact ⟨Ne.symm e, hk⟩
  refine ⟨hw, hJ.glob.mono hs, he, by rw [put_size]; exact hJ.tsz, by rw [put_defers]; exact hJ.dfs, by simp [hJ.lsz], ?_, ?_, hJ.op, ?_, hJ.kind, ?_, hJ.pairs, ?_, ?_⟩
  · intro t ht hno
    by_cases hdt : d.o.dst = some t
    · rw [put_getD hdt (by rw [hJ.tsz]; exact ht)]
      exact hv t hdt
    · rw [put_getD_ne hdt]
      refine (hJ.regs t ht fun d' hd' hl => ?_).mono hs
      by_cases e : d'.i = d.i
      · have h1 := hJ.op d' hd'
        have h2 := hJ.op d hd
        rw [e, h2] at h1
        injection h1 with h1
        rw [← h1]; exact hdt
      · exact hno d' hd' (by rw [set_ne (Ne.symm e)]; exact hl)
  · intro k hk hl
    by_cases e : d.i = k
    · exact ⟨d, hd, e⟩
    · rw [set_ne e] at hl; exact hJ.sub k hk hl
  · intro d' hd' h; exact hmono _ (hJ.early d' hd' h)
  · intro k j hk hl hb
    by_cases e : d.i = k
    · subst e; exact hmono _ (hanc j hb)
    · rw [set_ne e] at hl; exact hmono _ (hJ.down k j hk hl hb)
  · intro d' hd' hl
    obtain ⟨h1, h2⟩ := hback _ hl
    rcases hJ.pend d' hd' h2 with k | k | ⟨k1, obj, mk, x, k2, k3, k4, k5, k6, k7⟩
    · exact .inl k
    · exact .inr (.inl k)
    · exact .inr (.inr ⟨k1, obj, mk, x, k2, k3, k4, k5, hx d' hd' h1 h2 x k7.1 k6 ⟨_, k4⟩, k7⟩)
  · intro d1 h1 d2 h2 l1 l2
    exact hJ.inj d1 h1 d2 h2 (hback _ l1).2 (hback _ l2).2

theorem J.looks {pre : List Did} {listed : Array Bool} {bd : Nat → Option Nat} {σ : Inj} {R : PlanTab.Fr} {W : AW} {a : Act} {w : World}
    (hJ : J P call ops A nt ng σ0 W0 w0 ds pre listed bd σ R W a w) (hok : ∀ (i : Nat) (o : Oper), ops[i]? = some o → okOper nt ng o = true) {i : Nat} {o : Oper} (ho : ops[i]? = some o)
    (hp : ∀ d ∈ pre, listed.getD d.i true = false → inD d.o.dst (o.looksAt ops) = false) : ∀ t ∈ o.looksAt ops, VR σ (rget R t) (a.tmps.getD t undef) :=
  fun t ht => hJ.regs t (looks_lt hok ho ht) fun d hd hl e => inD_false (hp d hd hl) e ht

theorem J.pendingEarly {pre : List Did} {listed : Array Bool} {bd : Nat → Option Nat} {σ : Inj} {R : PlanTab.Fr} {W : AW} {a : Act} {w : World}
    (hJ : J P call ops A nt ng σ0 W0 w0 ds pre listed bd σ R W a w) {d : Did} (hd : d ∈ pre) (hl : listed.getD d.i true = false) : d.early = true := by
  cases he : d.early with
  | true => rfl
  | false => rw [hJ.early d hd he] at hl; cases hl

theorem J.fire (hc : CalleeOK P ng call) (hok : ∀ (i : Nat) (o : Oper), ops[i]? = some o → okOper nt ng o = true) (hA : ∀ (i : Nat) (o : Oper), ops[i]? = some o → A.getD i 0 = maskOf A o)
    {pre : List Did} {listed : Array Bool} {bd : Nat → Option Nat} {σ : Inj} {R : PlanTab.Fr} {W : AW} {a : Act} {w : World}
    (hJ : J P call ops A nt ng σ0 W0 w0 ds pre listed bd σ R W a w) {d : Did} (hd : d ∈ pre) (hl : listed.getD d.i true = false)
    (hr : ∀ e ∈ d.o.after, Region.binds .any e = true → listed.getD e.on false = true) {ro : Option Nat} {K : Act → World → Prop} {Q : Exit → Act → World → Prop}
    (hK : ∀ σ' a' w', J P call ops A nt ng σ0 W0 w0 ds pre (listed.setIfInBounds d.i true) bd σ' R W a' w' → K a' w') : wpOpIn (FE ro) 0 P ops Q d.i K a w := by
  have ho := hJ.op d hd
  have hanc : ∀ j, Nat.testBit (A.getD d.i 0) j = true → listed.getD j true = true := fun j hj => hJ.anc hA ho hr hj
  have hlook := hJ.looks hok ho (fun d' hd' hl' => by
    cases hq : inD d'.o.dst (d.o.looksAt ops) with
    | false => rfl
    | true =>
      have := hanc _ (hJ.pairs d hd d' hd' (hJ.pendingEarly hd' hl') hq).1
      rw [hl'] at this; cases this)
  have hρ := operands_rel hJ.glob (hok _ _ ho) hlook
  have hwe := wanted_eq hlook
  have hk3 := hJ.kind d hd (hJ.pendingEarly hd hl)
  have hnd := notDefer hk3
  unfold wpOpIn
  rw [ho]
  simp only [hwe]
  rcases hJ.pend d hd hl with ⟨h1, h2, h3⟩ | ⟨h1, h2, h3, v, h4, h5⟩ | ⟨h1, obj, mk, x, h2, h3, h4, h5, h6, h7⟩
  · rw [h1, if_neg (by simp)]
    refine ⟨fun f _ => trivial, hK σ _ w (hJ.mark hd undef (.refl _) hJ.wrel hJ.ext (fun t ht => by rw [h3 t ht]; exact .undef) (fun _ _ _ _ _ _ h _ => h) hanc)⟩
  · rw [h1, if_pos rfl]
    refine aOpC_wp hc hJ.wrel hJ.glob h4 hρ fun σ' v' w' hv hw he => ?_
    exact hK σ' _ w' (hJ.mark hd v' he.sub hw (hJ.ext.trans he) (fun t ht => by rw [h5 t ht]; exact hv) (fun d' _ _ _ x _ h6 ⟨ob, hx⟩ => (he.ghost _ _ hx h6).2) hanc)
  · rw [h1, if_pos rfl]
    obtain ⟨v', xo, e, r1, r2, r3⟩ := h2 σ a.eval w x hρ h6
    refine ⟨fun f _ => trivial, ?_⟩
    rw [Oper.semAt_eq _ _ _ hnd, r1]
    refine hK (bind1 σ x ⟨w.heap.size, 0, e⟩) _ _ (hJ.mark hd v' (bind1_sub h6) (hJ.wrel.bind h4 h6 r3) (hJ.ext.bind h6 h5 r3 h7.2) (fun t ht => by rw [h3 t ht]; exact r2) ?_ hanc)
    intro d' hd' hne hl' y hy hσ _
    have : y ≠ x := fun e => by subst e; exact hne (hJ.inj d' hd' d hd hl' hl y hy h7.1)
    unfold bind1
    rw [if_neg this]; exact hσ

theorem J.force (hc : CalleeOK P ng call) (hok : ∀ (i : Nat) (o : Oper), ops[i]? = some o → okOper nt ng o = true) (hA : ∀ (i : Nat) (o : Oper), ops[i]? = some o → A.getD i 0 = maskOf A o)
    {pre : List Did} {listed : Array Bool} {bd : Nat → Option Nat} {σ : Inj} {R R' : PlanTab.Fr} {W W' : AW} {a : Act} {w : World} {i : Nat} {re : List Nat} {rest : List (Nat × List Nat)} {o : Oper}
    (hJ : J P call ops A nt ng σ0 W0 w0 ds pre listed bd σ R W a w) (hh : Head ops A pre i re rest o false) (hs : aStep P call ops o R W = some (R', W')) (hre : re.all (again P call ops R' W') = true)
    (hr : ∀ e ∈ o.after, Region.binds .any e = true → listed.getD e.on false = true) {ro : Option Nat} {K : Act → World → Prop} {Q : Exit → Act → World → Prop}
    (hK : ∀ σ' a' w', J P call ops A nt ng σ0 W0 w0 ds (⟨i, o, false⟩ :: pre) (listed.setIfInBounds i true) bd σ' R' W' a' w' → K a' w') : wpOpIn (FE ro) 0 P ops Q i K a w := by
  have ho := hh.op
  have hi : i < listed.size := by rw [hJ.lsz]; exact (Array.getElem?_eq_some_iff.1 ho).1
  have hanc : ∀ j, Nat.testBit (A.getD i 0) j = true → listed.getD j true = true := fun j hj => hJ.anc hA ho hr hj
  have hheld : ∀ d ∈ pre, listed.getD d.i true = false → inD d.o.dst (o.looksAt ops) = false ∧ inD o.dst (namesOf ops d.o) = false ∧ (kindE d.o = 0 ∨ kindE d.o = 2 ∨ d.i ∈ re) := by
    intro d hd hl
    rcases hh.held d hd (hJ.pendingEarly hd hl) with h1 | ⟨h1, h2⟩
    · rw [hanc _ h1] at hl; cases hl
    · rcases h2 with h2 | ⟨h2, h3⟩
      · cases h2
      · exact ⟨h1, h2, h3⟩
  have hlook := hJ.looks hok ho (fun d hd hl => (hheld d hd hl).1)
  have hρ := operands_rel hJ.glob (hok _ _ ho) hlook
  have hwe := wanted_eq hlook
  have hback : ∀ k, (listed.setIfInBounds i true).getD k true = false → k ≠ i ∧ listed.getD k true = false := fun k hk => by
    by_cases e : i = k
    · subst e; rw [set_same hi] at hk; cases hk
    · rw [set_ne e] at hk; exact ⟨Ne.symm e, hk⟩
  have hmono : ∀ k, listed.getD k true = true → (listed.setIfInBounds i true).getD k true = true := fun k hk => by
    by_cases e : i = k
    · subst e; exact set_same hi _
    · rw [set_ne e]; exact hk
  have build : ∀ (σ' : Inj) (u u' : Value) (w' : World), R' = rput R o.dst u → VR σ' u u' → WRel σ' W' w'.heap → Ext σ W w σ' W' w' →
      J P call ops A nt ng σ0 W0 w0 ds (⟨i, o, false⟩ :: pre) (listed.setIfInBounds i true) bd σ' R' W' (a.put o.dst u') w' := by
    intro σ' u u' w' hR' hu hw he
    refine ⟨hw, hJ.glob.mono he.sub, hJ.ext.trans he, by rw [put_size]; exact hJ.tsz, by rw [put_defers]; exact hJ.dfs, by simp [hJ.lsz], ?_, ?_, ?_, ?_, ?_, ?_, ?_, ?_, ?_⟩
    · intro t ht hno
      by_cases hdt : o.dst = some t
      · rw [put_getD hdt (by rw [hJ.tsz]; exact ht), hR', rget_rput hdt]; exact hu
      · rw [put_getD_ne hdt, hR', rget_rput_ne hdt]
        refine (hJ.regs t ht fun d' hd' hl => ?_).mono he.sub
        exact hno d' (by simp [hd']) (by rw [set_ne (Ne.symm (hh.new d' hd'))]; exact hl)
    · intro k hk hl
      by_cases e : i = k
      · exact ⟨⟨i, o, false⟩, by simp, e⟩
      · rw [set_ne e] at hl
        obtain ⟨d, hd, e⟩ := hJ.sub k hk hl
        exact ⟨d, by simp [hd], e⟩
    · intro d hd
      rcases List.mem_cons.1 hd with rfl | hd
      · exact ho
      · exact hJ.op d hd
    · intro d hd h
      rcases List.mem_cons.1 hd with rfl | hd
      · exact set_same hi _
      · exact hmono _ (hJ.early d hd h)
    · intro d hd h
      rcases List.mem_cons.1 hd with rfl | hd
      · cases h
      · exact hJ.kind d hd h
    · intro k j hk hl hb
      by_cases e : i = k
      · subst e; exact hmono _ (hanc j hb)
      · rw [set_ne e] at hl; exact hmono _ (hJ.down k j hk hl hb)
    · intro d hd d' hd' hde hin
      rcases List.mem_cons.1 hd' with rfl | hd'
      · cases hde
      · rcases List.mem_cons.1 hd with rfl | hd
        · rcases hh.held d' hd' hde with h1 | ⟨h1, _⟩
          · exact ⟨h1, fun e => hh.new d' hd' e.symm⟩
          · simp only at hin; rw [h1] at hin; cases hin
        · exact hJ.pairs d hd d' hd' hde hin
    · intro d hd hl
      rcases List.mem_cons.1 hd with rfl | hd
      · rw [set_same hi] at hl; cases hl
      · have hl' := (hback _ hl).2
        obtain ⟨g1, g2, g3⟩ := hheld d hd hl'
        have hnames : ∀ t ∈ namesOf ops d.o, rget R' t = rget R t := fun t ht => by
          rw [hR']; exact rget_rput_ne fun e => inD_false g2 e ht
        obtain ⟨ha, hwd⟩ := agree_of (ops := ops) (o := d.o) fun t ht => hnames t (names_looks ht)
        rcases hJ.pend d hd hl' with ⟨h1, h2, h3⟩ | ⟨h1, h2, h3, v, h4, h5⟩ | ⟨h1, obj, mk, x, h2, h3, h4, h5, h6, h7⟩
        · exact .inl ⟨by rw [hwd]; exact h1, h2, fun t ht => by rw [hnames t (names_dst ht)]; exact h3 t ht⟩
        · refine .inr (.inl ⟨by rw [hwd]; exact h1, h2, h3, ?_⟩)
          rcases g3 with g3 | g3 | g3
          · exact ⟨v, (keep_step h3 h4).2 R' W' ha (.inl g3), fun t ht => by rw [hnames t (names_dst ht)]; exact h5 t ht⟩
          · omega
          · have hag := List.all_eq_true.1 hre d.i g3
            unfold again at hag
            rw [hJ.op d hd] at hag
            simp only [hwd, h1, if_true] at hag
            split at hag
            · rename_i u W2 hop
              have := (keep_step h3 hop).1
              subst this
              refine ⟨u, hop, fun t ht => ?_⟩
              rw [ht] at hag
              exact (vsame_eq hag).symm
            · cases hag
        · obtain ⟨k1, k2⟩ := he.ghost _ _ h4 h6
          exact .inr (.inr ⟨by rw [hwd]; exact h1, obj, mk, x, h2.agree ha, fun t ht => by rw [hnames t (names_dst ht)]; exact h3 t ht, k1, h5, k2, h7⟩)
    · intro d1 h1 d2 h2 l1 l2 x hx1 hx2
      rcases List.mem_cons.1 h1 with rfl | h1
      · rw [set_same hi] at l1; cases l1
      · rcases List.mem_cons.1 h2 with rfl | h2
        · rw [set_same hi] at l2; cases l2
        · exact hJ.inj d1 h1 d2 h2 (hback _ l1).2 (hback _ l2).2 x hx1 hx2
  unfold wpOpIn
  rw [ho]
  simp only [hwe]
  unfold aStep at hs
  split at hs
  · rename_i hw
    rw [if_pos hw]
    split at hs
    · rename_i v W1 hop
      injection hs with hs
      injection hs with hs1 hs2
      subst hs1; subst hs2
      exact aOpC_wp hc hJ.wrel hJ.glob hop hρ fun σ' v' w' hv hw' he => hK σ' _ w' (build σ' v v' w' rfl hv hw' he)
    · cases hs
  · rename_i hw
    rw [if_neg hw]
    injection hs with hs
    injection hs with hs1 hs2
    subst hs1; subst hs2
    exact ⟨fun f _ => trivial, hK σ _ w (build σ undef undef w rfl .undef hJ.wrel (.refl _ _ _))⟩
end
end Go.Eng
