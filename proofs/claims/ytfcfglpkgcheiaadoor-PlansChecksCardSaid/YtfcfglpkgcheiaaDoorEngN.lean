/- A region that draws its order: the engine's order stands for all. -/
import Derived.Test.YtfcfglpkgcheiaaDoorEngM
namespace Go.Eng
open Go
set_option linter.unusedSectionVars false
set_option linter.unusedSimpArgs false
variable [PlanTab]

theorem nbeq_ne {a b : Nat} (h : Nat.beq a b = false) : a ≠ b := fun e => by rw [e, Nat.beq_refl] at h; cases h
theorem mask_bit {A : List Nat} {o : Oper} {j : Nat} (h : Nat.testBit (maskOf A o) j = true) :
    ∃ e ∈ o.after, Region.binds .any e = true ∧ (j = e.on ∨ Nat.testBit (A.getD e.on 0) j = true) := by
  have key : ∀ l : List Edge, Nat.testBit (l.foldr (fun e m => if Region.binds .any e then Nat.lor (Nat.lor (2 ^ e.on) (A.getD e.on 0)) m else m) 0) j = true →
      ∃ e ∈ l, Region.binds .any e = true ∧ (j = e.on ∨ Nat.testBit (A.getD e.on 0) j = true) := by
    intro l
    induction l with
    | nil => intro h; simp at h
    | cons e l ih =>
      intro h
      simp only [List.foldr_cons] at h
      split at h
      · rename_i hb
        have h' : Nat.testBit ((2 ^ e.on ||| A.getD e.on 0) ||| (l.foldr (fun e m => if Region.binds .any e then Nat.lor (Nat.lor (2 ^ e.on) (A.getD e.on 0)) m else m) 0)) j = true := h
        rw [Nat.testBit_or, Nat.testBit_or, Bool.or_eq_true, Bool.or_eq_true] at h'
        rcases h' with (h1 | h1) | h1
        · rw [Nat.testBit_two_pow] at h1
          exact ⟨e, by simp, hb, .inl (of_decide_eq_true h1).symm⟩
        · exact ⟨e, by simp, hb, .inr h1⟩
        · obtain ⟨e', a, b⟩ := ih h1
          exact ⟨e', by simp [a], b⟩
      · obtain ⟨e', a, b⟩ := ih h
        exact ⟨e', by simp [a], b⟩
  obtain ⟨e, a, b⟩ := key o.after.toList h
  exact ⟨e, by simpa using a, b⟩

structure Head (ops : Array Oper) (A : List Nat) (pre : List Did) (i : Nat) (re : List Nat) (rest : List (Nat × List Nat)) (o : Oper) (e : Bool) : Prop where
  op : ops[i]? = some o
  early : e = true → kindE o < 3 ∧ inD o.dst (o.looksAt ops) = false ∧ ∀ d ∈ pre, inD o.dst (namesOf ops d.o) = false
  new : ∀ d ∈ pre, d.i ≠ i
  top : ∀ ed ∈ o.after, Region.binds .any ed = true → ∃ d ∈ pre, d.i = ed.on
  held : ∀ d ∈ pre, d.early = true → Nat.testBit (A.getD i 0) d.i = true ∨ (inD d.o.dst (o.looksAt ops) = false ∧ (e = true ∨ (inD o.dst (namesOf ops d.o) = false ∧ (kindE d.o = 0 ∨ kindE d.o = 2 ∨ d.i ∈ re))))
  last : e = true ∨ ∀ k ∈ rest, ∃ ok, ops[k.1]? = some ok ∧ ∃ ed ∈ ok.after, Region.binds .any ed = true ∧ ∀ d ∈ pre, d.i ≠ ed.on
  go : planGo ops A (⟨i, o, e⟩ :: pre) rest = true

theorem planGo_cons {ops : Array Oper} {A : List Nat} {pre : List Did} {i : Nat} {re : List Nat} {rest : List (Nat × List Nat)} (h : planGo ops A pre ((i, re) :: rest) = true) :
    ∃ o e, Head ops A pre i re rest o e := by
  unfold planGo at h
  split at h
  · cases h
  · rename_i o ho
    simp only [Bool.and_eq_true] at h
    obtain ⟨⟨⟨⟨h1, h2⟩, h3⟩, h4⟩, h5⟩ := h
    refine ⟨o, _, ⟨ho, ?_, ?_, ?_, ?_, ?_, h5⟩⟩
    · intro he
      simp only [Bool.and_eq_true, List.all_eq_true, Bool.not_eq_true'] at he
      obtain ⟨⟨a, b⟩, c⟩ := he
      exact ⟨by simpa [Nat.blt_eq] using a, b, c⟩
    · intro d hd
      rw [List.all_eq_true] at h1
      have := h1 d hd
      exact nbeq_ne (by simpa only [Bool.not_eq_true'] using this)
    · intro ed hed hb
      rw [List.all_eq_true] at h2
      have := h2 ed (by simpa using hed)
      rw [hb] at this
      simpa using this
    · intro d hd hde
      rw [List.all_eq_true] at h3
      have := h3 d hd
      rw [hde] at this
      simp only [Bool.not_true, Bool.false_or, Bool.or_eq_true, Bool.and_eq_true, Bool.not_eq_true', Nat.beq_eq, inL_iff, or_assoc] at this
      simpa only [Bool.and_eq_true, Bool.not_eq_true', or_assoc] using this
    · rw [Bool.or_eq_true] at h4
      refine h4.imp id fun h4 => ?_
      intro k hk
      rw [List.all_eq_true] at h4
      have := h4 k hk
      split at this
      · rename_i ok hok
        rw [List.any_eq_true] at this
        obtain ⟨ed, hed, hq⟩ := this
        simp only [Bool.and_eq_true, List.all_eq_true, Bool.not_eq_true'] at hq
        refine ⟨ok, hok, ed, by simpa using hed, hq.1, fun d hd => ?_⟩
        have := hq.2 d hd
        exact nbeq_ne this
      · cases this

section
variable {P : Program} {call : Callee} {ops : Array Oper} {A : List Nat} {nt : Nat} {ng : List Nat} {σ0 : Inj} {W0 : AW} {w0 : World} {ds : List Deferred}

def Held (P : Program) (call : Callee) (ops : Array Oper) (W0 : AW) (bd : Nat → Option Nat) (σ : Inj) (R : PlanTab.Fr) (W : AW) (d : Did) : Prop :=
  (wantedA ops R d.o = false ∧ bd d.i = none ∧ ∀ t, d.o.dst = some t → rget R t = undef) ∨
  (wantedA ops R d.o = true ∧ bd d.i = none ∧ kindE d.o ≤ 1 ∧ ∃ v, aOpC P call d.o R W = some (v, W) ∧ ∀ t, d.o.dst = some t → rget R t = v) ∨
  (wantedA ops R d.o = true ∧ ∃ obj mk x, Lays P R d.o obj mk ∧ (∀ t, d.o.dst = some t → rget R t = mk x) ∧ W.get x = some obj ∧ W0.get x = none ∧ σ x = none ∧ bd d.i = some x ∧ ∀ cs, obj ≠ .ro cs)

theorem names_looks {o : Oper} {t : Tmp} (h : t ∈ o.looksAt ops) : t ∈ namesOf ops o := by unfold namesOf; simp [h]
theorem names_dst {o : Oper} {t : Tmp} (h : o.dst = some t) : t ∈ namesOf ops o := by unfold namesOf; simp [h]

theorem Held.mono {bd bd' : Nat → Option Nat} {σ σ' : Inj} {R R' : PlanTab.Fr} {W W' : AW} {d : Did} (h : Held P call ops W0 bd σ R W d)
    (hb : bd' d.i = bd d.i) (hR : ∀ t ∈ namesOf ops d.o, rget R' t = rget R t) (hg : Grow W W') (hσ : ∀ x o, W.get x = some o → σ x = none → σ' x = none) :
    Held P call ops W0 bd' σ' R' W' d := by
  obtain ⟨ha, hw⟩ := agree_of (ops := ops) (o := d.o) fun t ht => hR t (names_looks ht)
  rcases h with ⟨h1, h2, h3⟩ | ⟨h1, h2, h3, v, h4, h5⟩ | ⟨h1, obj, mk, x, h2, h3, h4, h5, h6, h7⟩
  · exact .inl ⟨by rw [hw]; exact h1, by rw [hb]; exact h2, fun t ht => by rw [hR t (names_dst ht)]; exact h3 t ht⟩
  · exact .inr (.inl ⟨by rw [hw]; exact h1, by rw [hb]; exact h2, h3, v, (keep_step h3 h4).2 R' W' ha (.inr hg), fun t ht => by rw [hR t (names_dst ht)]; exact h5 t ht⟩)
  · exact .inr (.inr ⟨by rw [hw]; exact h1, obj, mk, x, h2.agree ha, fun t ht => by rw [hR t (names_dst ht)]; exact h3 t ht, hg _ _ h4, h5, hσ _ _ h4 h6, by rw [hb]; exact h7⟩)

structure J (P : Program) (call : Callee) (ops : Array Oper) (A : List Nat) (nt : Nat) (ng : List Nat) (σ0 : Inj) (W0 : AW) (w0 : World) (ds : List Deferred)
    (pre : List Did) (listed : Array Bool) (bd : Nat → Option Nat) (σ : Inj) (R : PlanTab.Fr) (W : AW) (a : Act) (w : World) : Prop where
  wrel : WRel σ W w.heap
  glob : Glob σ ng
  ext : Ext σ0 W0 w0 σ W w
  tsz : a.tmps.size = nt
  dfs : a.defers = ds
  lsz : listed.size = ops.size
  regs : ∀ t, t < nt → (∀ d ∈ pre, listed.getD d.i true = false → d.o.dst ≠ some t) → VR σ (rget R t) (a.tmps.getD t undef)
  sub : ∀ i, i < ops.size → listed.getD i true = true → ∃ d ∈ pre, d.i = i
  op : ∀ d ∈ pre, ops[d.i]? = some d.o
  early : ∀ d ∈ pre, d.early = false → listed.getD d.i true = true
  kind : ∀ d ∈ pre, d.early = true → kindE d.o < 3
  down : ∀ i j, i < ops.size → listed.getD i true = true → Nat.testBit (A.getD i 0) j = true → listed.getD j true = true
  pairs : ∀ d ∈ pre, ∀ d' ∈ pre, d'.early = true → inD d'.o.dst (d.o.looksAt ops) = true → Nat.testBit (A.getD d.i 0) d'.i = true ∧ d.i ≠ d'.i
  pend : ∀ d ∈ pre, listed.getD d.i true = false → Held P call ops W0 bd σ R W d
  inj : ∀ d ∈ pre, ∀ d' ∈ pre, listed.getD d.i true = false → listed.getD d'.i true = false → ∀ x, bd d.i = some x → bd d'.i = some x → d.i = d'.i

/-- one operation more, ahead -/
theorem J.advance {pre : List Did} {listed : Array Bool} {bd : Nat → Option Nat} {σ : Inj} {R R' : PlanTab.Fr} {W W' : AW} {a : Act} {w : World} {i : Nat} {re : List Nat} {rest : List (Nat × List Nat)} {o : Oper}
    (hJ : J P call ops A nt ng σ0 W0 w0 ds pre listed bd σ R W a w) (hh : Head ops A pre i re rest o true) (hs : aStep P call ops o R W = some (R', W')) :
    ∃ bd', J P call ops A nt ng σ0 W0 w0 ds (⟨i, o, true⟩ :: pre) listed bd' σ R' W' a w := by
  obtain ⟨hk3, hself, hfresh⟩ := hh.early rfl
  have hi : i < ops.size := (Array.getElem?_eq_some_iff.1 hh.op).1
  have hnl : listed.getD i true = false := by
    cases hq : listed.getD i true with
    | false => rfl
    | true => obtain ⟨d, hd, e⟩ := hJ.sub i hi hq; exact absurd e (hh.new d hd)
  have hnext : W.get W.next = none := hJ.wrel.free _ (Nat.le_refl _)
  -- what is common
  have build : ∀ (bd' : Nat → Option Nat) (u : Value), R' = rput R o.dst u → WRel σ W' w.heap → Ext σ0 W0 w0 σ W' w → Grow W W' → (∀ k, k ≠ i → bd' k = bd k) →
      Held P call ops W0 bd' σ R' W' ⟨i, o, true⟩ → (∀ x, bd' i = some x → W.get x = none) → J P call ops A nt ng σ0 W0 w0 ds (⟨i, o, true⟩ :: pre) listed bd' σ R' W' a w := by
    intro bd' u hR' hwr hext hg hbd hheld hbx
    have hnames : ∀ d ∈ pre, ∀ t ∈ namesOf ops d.o, rget R' t = rget R t := fun d hd t ht => by
      rw [hR']
      exact rget_rput_ne fun e => inD_false (hfresh d hd) e ht
    have hold : ∀ d ∈ pre, listed.getD d.i true = false → Held P call ops W0 bd' σ R' W' d := fun d hd hl =>
      (hJ.pend d hd hl).mono (hbd _ (hh.new d hd)) (hnames d hd) hg (fun _ _ _ h => h)
    have hpx : ∀ d ∈ pre, listed.getD d.i true = false → ∀ x, bd d.i = some x → ∃ ob, W.get x = some ob := by
      intro d hd hl x hx
      rcases hJ.pend d hd hl with ⟨_, h2, _⟩ | ⟨_, h2, _⟩ | ⟨_, obj, mk, y, _, _, h4, _, _, h7⟩
      · rw [h2] at hx; cases hx
      · rw [h2] at hx; cases hx
      · rw [h7.1] at hx; injection hx with hx; subst hx; exact ⟨obj, h4⟩
    refine ⟨hwr, hJ.glob, hext, hJ.tsz, hJ.dfs, hJ.lsz, ?_, ?_, ?_, ?_, ?_, hJ.down, ?_, ?_, ?_⟩
    · intro t ht hno
      have h1 : o.dst ≠ some t := hno ⟨i, o, true⟩ (by simp) hnl
      rw [hR', rget_rput_ne h1]
      exact hJ.regs t ht fun d hd => hno d (by simp [hd])
    · intro k hk hl
      obtain ⟨d, hd, e⟩ := hJ.sub k hk hl
      exact ⟨d, by simp [hd], e⟩
    · intro d hd
      rcases List.mem_cons.1 hd with rfl | hd
      · exact hh.op
      · exact hJ.op d hd
    · intro d hd he
      rcases List.mem_cons.1 hd with rfl | hd
      · cases he
      · exact hJ.early d hd he
    · intro d hd he
      rcases List.mem_cons.1 hd with rfl | hd
      · exact hk3
      · exact hJ.kind d hd he
    · intro d hd d' hd' he hin
      rcases List.mem_cons.1 hd with rfl | hd
      · rcases List.mem_cons.1 hd' with rfl | hd'
        · simp only at hin; rw [hself] at hin; cases hin
        · rcases hh.held d' hd' he with h1 | ⟨h1, _⟩
          · exact ⟨h1, fun e => hh.new d' hd' e.symm⟩
          · simp only at hin; rw [h1] at hin; cases hin
      · rcases List.mem_cons.1 hd' with rfl | hd'
        · exfalso
          have h1 := hfresh d hd
          obtain ⟨t, ht, hm⟩ := inD_iff.1 hin
          exact inD_false h1 ht (names_looks hm)
        · exact hJ.pairs d hd d' hd' he hin
    · intro d hd hl
      rcases List.mem_cons.1 hd with rfl | hd
      · exact hheld
      · exact hold d hd hl
    · intro d hd d' hd' hl hl' x hx hx'
      rcases List.mem_cons.1 hd with rfl | hd
      · rcases List.mem_cons.1 hd' with rfl | hd'
        · rfl
        · rw [hbd _ (hh.new d' hd')] at hx'
          obtain ⟨ob, h1⟩ := hpx d' hd' hl' x hx'
          rw [hbx x hx] at h1; cases h1
      · rcases List.mem_cons.1 hd' with rfl | hd'
        · rw [hbd _ (hh.new d hd)] at hx
          obtain ⟨ob, h1⟩ := hpx d hd hl x hx
          rw [hbx x hx'] at h1; cases h1
        · rw [hbd _ (hh.new d hd)] at hx
          rw [hbd _ (hh.new d' hd')] at hx'
          exact hJ.inj d hd d' hd' hl hl' x hx hx'
  have hag : ∀ u, (∀ t ∈ o.looksAt ops, rget (rput R o.dst u) t = rget R t) := fun u t ht => rget_rput_ne fun e => inD_false hself e ht
  unfold aStep at hs
  split at hs
  · rename_i hw
    split at hs
    · rename_i v W1 hop
      injection hs with hs
      injection hs with hs1 hs2
      subst hs1; subst hs2
      obtain ⟨ha, hwa⟩ := agree_of (hag v)
      by_cases hk1 : kindE o ≤ 1
      · obtain ⟨hW1, hk⟩ := keep_step hk1 hop
        subst hW1
        refine ⟨fun k => if k = i then none else bd k, build _ v rfl hJ.wrel hJ.ext (.refl _) (fun k hk => by simp [hk]) (.inr (.inl ⟨by rw [hwa]; exact hw, by simp, hk1, v, hk _ _ ha (.inr (.refl _)), fun t ht => rget_rput ht⟩)) (fun x hx => by simp at hx)⟩
      · have hk2 : kindE o = 2 := by omega
        obtain ⟨obj, mk, hro, rfl, rfl, hl⟩ := lay_step hk2 hop
        have hW0x : W0.get W.next = none := by
          cases hq : W0.get W.next with
          | none => rfl
          | some ob =>
            cases hq2 : σ0 W.next with
            | none => rw [(hJ.ext.ghost _ _ hq hq2).1] at hnext; cases hnext
            | some g => have := (hJ.wrel.dom _ _ (hJ.ext.sub _ _ hq2)).1; omega
        refine ⟨fun k => if k = i then some W.next else bd k, build _ _ rfl (hJ.wrel.ghost obj) (hJ.ext.ghost_add hnext obj) (.add hnext obj) (fun k hk => by simp [hk])
          (.inr (.inr ⟨by rw [hwa]; exact hw, obj, mk, W.next, hl.agree ha, fun t ht => rget_rput ht, AW.get_add _ _, hW0x, hJ.wrel.fresh, by simp, hro⟩)) (fun x hx => by simp at hx; subst hx; exact hnext)⟩
    · cases hs
  · rename_i hw
    injection hs with hs
    injection hs with hs1 hs2
    subst hs1; subst hs2
    obtain ⟨ha, hwa⟩ := agree_of (hag undef)
    refine ⟨fun k => if k = i then none else bd k, build _ undef rfl hJ.wrel hJ.ext (.refl _) (fun k hk => by simp [hk]) (.inl ⟨by rw [hwa]; simpa using hw, by simp, fun t ht => rget_rput ht⟩) (fun x hx => by simp at hx)⟩
end
end Go.Eng
