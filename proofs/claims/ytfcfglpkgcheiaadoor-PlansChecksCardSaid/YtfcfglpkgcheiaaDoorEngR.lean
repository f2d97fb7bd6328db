/- Code, walked. -/
import Derived.Test.YtfcfglpkgcheiaaDoorEngQ
namespace Go.Eng
open Go
set_option linter.unusedSectionVars false
set_option linter.unusedSimpArgs false
variable [PlanTab]

section
variable {P : Program}

theorem loop_state_ne {st : LoopState} (h : st ≠ .busy) : st ≠ LoopState.busy := h

theorem map_normal {x : X} {R' : PlanTab.Fr} {W' : AW} {y : Option (PlanTab.Fr × AW)} (h : (y.map fun r => ((X.normal, r.1, r.2) : X × PlanTab.Fr × AW)) = some (x, R', W')) : x = .normal ∧ y = some (R', W') := by
  cases y with
  | none => cases h
  | some r =>
    simp only [Option.map_some, Option.some.injEq, Prod.mk.injEq] at h
    obtain ⟨h1, h2, h3⟩ := h
    exact ⟨h1.symm, by rw [← h2, ← h3]⟩

/-- what a text is shown to do -/
def Walks (P : Program) (ng : List Nat) (nt n0 : Nat) (ro : Option Nat) (c : Code) (x : X) (R : PlanTab.Fr) (W : AW) (R' : PlanTab.Fr) (W' : AW) : Prop :=
  ∀ (σ : Inj) (a : Act) (w : World) (Q : Exit → Act → World → Prop), WRel σ W w.heap → Glob σ ng → RegRel nt σ R a.tmps → Marks n0 σ w a.defers → n0 ≤ w.heap.size →
    (∀ σ' a' w', RegRel nt σ' R' a'.tmps → Marks n0 σ' w' a'.defers → WRel σ' W' w'.heap → Ext σ W w σ' W' w' → Q x.to a' w') → c.wpIn (FE ro) 0 P Q a w

theorem then_ne {x : X} (hx : x ≠ .normal) {N : Act → World → Prop} {Q : Exit → Act → World → Prop} {a : Act} {w : World} (h : Q x.to a w) : Exit.then N Q x.to a w := by
  cases x with
  | normal => exact absurd rfl hx
  | exit id => exact h
  | ret => exact h
theorem block_to {x : X} {id : Nat} {Q : Exit → Act → World → Prop} {a : Act} {w : World} (h : (match x with | .exit i => if i = id then Q .normal a w else Q (.exit i) a w | x => Q x.to a w)) : Exit.inBlock id Q x.to a w := by
  cases x with
  | normal => exact h
  | exit i => exact h
  | ret => exact h

theorem aLoop_wp {ng : List Nat} {nt n0 : Nat} {ro : Option Nat} {b : Code} {body : PlanTab.Fr → AW → Option (X × PlanTab.Fr × AW)} (hb : ∀ x R W R' W', body R W = some (x, R', W') → Walks P ng nt n0 ro b x R W R' W') :
    ∀ (m : Nat) (x : X) (R : PlanTab.Fr) (W : AW) (R' : PlanTab.Fr) (W' : AW), aLoop body m R W = some (x, R', W') → x ≠ .normal ∧ ∀ (σ : Inj) (a : Act) (w : World) (Q : Exit → Act → World → Prop), WRel σ W w.heap → Glob σ ng → RegRel nt σ R a.tmps → Marks n0 σ w a.defers → n0 ≤ w.heap.size →
      (∀ σ' a' w', RegRel nt σ' R' a'.tmps → Marks n0 σ' w' a'.defers → WRel σ' W' w'.heap → Ext σ W w σ' W' w' → Q x.to a' w') → Code.roundsIn (FE ro) 0 P b Q m a w := by
  intro m
  induction m with
  | zero => intro x R W R' W' h; cases h
  | succ m ih =>
    intro x R W R' W' h
    unfold aLoop at h
    split at h
    · rename_i R1 W1 h1
      obtain ⟨hx, hrest⟩ := ih x R1 W1 R' W' h
      refine ⟨hx, fun σ a w Q hW hG hR hM hn hQ => ?_⟩
      refine hb _ _ _ _ _ h1 σ a w _ hW hG hR hM hn fun σ1 a1 w1 k1 k2 k3 k4 => ?_
      exact hrest σ1 a1 w1 Q k3 (hG.mono k4.sub) k1 k2 (Nat.le_trans hn k4.size) fun σ2 a2 w2 g1 g2 g3 g4 => hQ σ2 a2 w2 g1 g2 g3 (k4.trans g4)
    · rename_i hne
      have hx : x ≠ .normal := by
        rintro rfl
        exact hne R' W' h
      refine ⟨hx, fun σ a w Q hW hG hR hM hn hQ => ?_⟩
      exact hb _ _ _ _ _ h σ a w _ hW hG hR hM hn fun σ1 a1 w1 k1 k2 k3 k4 => then_ne hx (hQ σ1 a1 w1 k1 k2 k3 k4)

theorem aCode_walks (hm : P.follows .mixedOrders = true) {ng : List Nat} {nt n0 : Nat} (hng : ng = PlanTab.ng) {call : Callee} (hc : CalleeOK P ng call) {top : Bool} {ro : Option Nat} (hro : top = true → ro = none) :
    ∀ (c : Code), codeOk nt ng c = true → ∀ (x : X) (R : PlanTab.Fr) (W : AW) (R' : PlanTab.Fr) (W' : AW), aCode P call top nt c R W = some (x, R', W') → Walks P ng nt n0 ro c x R W R' W' := by
  intro c
  induction c with
  | skip =>
    intro _ x R W R' W' h σ a w Q hW hG hR hM hn hQ
    injection h with h; injection h with h1 h2; injection h2 with h2 h3; subst h1; subst h2; subst h3
    exact wpIn_skip (hQ σ a w hR hM hW (.refl _ _ _))
  | label l =>
    intro _ x R W R' W' h σ a w Q hW hG hR hM hn hQ
    injection h with h; injection h with h1 h2; injection h2 with h2 h3; subst h1; subst h2; subst h3
    exact wpIn_label (hQ σ a w hR hM hW (.refl _ _ _))
  | exit id =>
    intro _ x R W R' W' h σ a w Q hW hG hR hM hn hQ
    injection h with h; injection h with h1 h2; injection h2 with h2 h3; subst h1; subst h2; subst h3
    exact wpIn_exit (hQ σ a w hR hM hW (.refl _ _ _))
  | ret =>
    intro _ x R W R' W' h σ a w Q hW hG hR hM hn hQ
    injection h with h; injection h with h1 h2; injection h2 with h2 h3; subst h1; subst h2; subst h3
    exact wpIn_ret (hQ σ a w hR hM hW (.refl _ _ _))
  | goto l => intro _ x R W R' W' h; cases h
  | scope b _ => intro _ x R W R' W' h; cases h
  | refuse s => intro _ x R W R' W' h; cases h
  | region id ops draw =>
    intro hok x R W R' W' h σ a w Q hW hG hR hM hn hQ
    simp only [codeOk, Bool.and_eq_true, Bool.or_eq_true, Bool.not_eq_true'] at hok
    have hok' : ∀ (i : Nat) (o : Oper), ops[i]? = some o → okOper nt ng o = true := fun i o ho => List.all_eq_true.1 hok.1 o (by have := Array.mem_of_getElem? ho; simpa using this)
    unfold aCode at h
    split at h
    · obtain ⟨hx, hy⟩ := map_normal h
      subst hx
      refine wpIn_region (ops_wp hc hok' (List.range ops.size) σ R W a w (by simp) hW hG hR (by rw [range_ops]; exact hy) fun σ' a' w' k1 k2 k3 k4 => ?_)
      exact hQ σ' a' w' k1 (by rw [k2]; exact hM.ext k4) k3 k4
    · have hpl : planOK ops (planOf ops (PlanTab.D id ops)) = true := hok.2.resolve_left (by simp)
      split at h
      · rename_i hD
        obtain ⟨hx, hy⟩ := map_normal h
        subst hx
        rw [hD] at hpl
        refine drawn_wp hm hc hok.1 hpl hW hG hR (Rf := R') (Wf := W') ?_ fun σ' a' w' k1 k2 k3 k4 => hQ σ' a' w' k1 (by rw [k2]; exact hM.ext k4) k3 k4
        show aPlan P call ops ((List.range ops.size).map fun i => (i, [])) R W = _
        rw [aOps_aPlan _ _ _ (by simp), range_ops]
        exact hy
      · rename_i pl hD
        obtain ⟨hx, hy⟩ := map_normal h
        subst hx
        rw [hD] at hpl
        exact drawn_wp hm hc hok.1 hpl hW hG hR hy fun σ' a' w' k1 k2 k3 k4 => hQ σ' a' w' k1 (by rw [k2]; exact hM.ext k4) k3 k4
  | seq b c ihb ihc =>
    intro hok x R W R' W' h σ a w Q hW hG hR hM hn hQ
    simp only [codeOk, Bool.and_eq_true] at hok
    unfold aCode at h
    split at h
    · rename_i R1 W1 h1
      refine wpIn_seq (ihb hok.1 _ _ _ _ _ h1 σ a w _ hW hG hR hM hn fun σ1 a1 w1 k1 k2 k3 k4 => ?_)
      exact ihc hok.2 _ _ _ _ _ h σ1 a1 w1 Q k3 (hG.mono k4.sub) k1 k2 (Nat.le_trans hn k4.size) fun σ2 a2 w2 g1 g2 g3 g4 => hQ σ2 a2 w2 g1 g2 g3 (k4.trans g4)
    · rename_i hne
      have hx : x ≠ .normal := by rintro rfl; exact hne R' W' h
      exact wpIn_seq (ihb hok.1 _ _ _ _ _ h σ a w _ hW hG hR hM hn fun σ1 a1 w1 k1 k2 k3 k4 => then_ne hx (hQ σ1 a1 w1 k1 k2 k3 k4))
  | cond o b c ihb ihc =>
    intro hok x R W R' W' h σ a w Q hW hG hR hM hn hQ
    simp only [codeOk, Bool.and_eq_true] at hok
    obtain ⟨⟨h1, h2⟩, h3⟩ := hok
    have hv := aEval_rel hR hG h1
    unfold aCode at h
    split at h
    · rename_i he
      rw [he] at hv
      exact wpIn_cond_true hv.bool_inv (ihb h2 _ _ _ _ _ h σ a w Q hW hG hR hM hn hQ)
    · rename_i he
      rw [he] at hv
      exact wpIn_cond_false hv.bool_inv (ihc h3 _ _ _ _ _ h σ a w Q hW hG hR hM hn hQ)
    · cases h
  | block id b ih =>
    intro hok x R W R' W' h σ a w Q hW hG hR hM hn hQ
    simp only [codeOk] at hok
    unfold aCode at h
    split at h
    · rename_i i R1 W1 h1
      refine wpIn_block (ih hok _ _ _ _ _ h1 σ a w _ hW hG hR hM hn fun σ1 a1 w1 k1 k2 k3 k4 => block_to ?_)
      simp only
      split at h
      · rename_i hi
        injection h with h; injection h with e1 e2; injection e2 with e2 e3; subst e1; subst e2; subst e3
        rw [if_pos hi]; exact hQ σ1 a1 w1 k1 k2 k3 k4
      · rename_i hi
        injection h with h; injection h with e1 e2; injection e2 with e2 e3; subst e1; subst e2; subst e3
        rw [if_neg hi]; exact hQ σ1 a1 w1 k1 k2 k3 k4
    · rename_i hne
      refine wpIn_block (ih hok _ _ _ _ _ h σ a w _ hW hG hR hM hn fun σ1 a1 w1 k1 k2 k3 k4 => block_to ?_)
      cases x with
      | normal => exact hQ σ1 a1 w1 k1 k2 k3 k4
      | exit i => exact absurd h (hne i R' W')
      | ret => exact hQ σ1 a1 w1 k1 k2 k3 k4
  | loop b ih =>
    intro hok x R W R' W' h σ a w Q hW hG hR hM hn hQ
    simp only [codeOk] at hok
    unfold aCode at h
    exact wpIn_loop_rounds _ ((aLoop_wp (fun x R W R' W' hh => ih hok x R W R' W' hh) _ x R W R' W' h).2 σ a w Q hW hG hR hM hn hQ)
  | rangeFunc f ps as bd _ _ =>
    intro hok x R W R' W' h σ a w Q hW hG hR hM hn hQ
    simp only [codeOk, Bool.and_eq_true] at hok
    obtain ⟨⟨⟨h1, h2⟩, h3⟩, h4⟩ := hok
    unfold aCode at h
    split at h
    · cases h
    have hro' : ro = none := hro rfl
    subst hro'
    split at h
    case h_2 => cases h
    rename_i i0 fs0 cs0 hf0
    rw [AW.new_eq] at h
    split at h
    case h_2 => cases h
    rename_i u W2 hcall
    split at h
    case h_2 => cases h
    rename_i st pend R9 nt9 ps9 as9 bd9 hget
    -- the world at the call
    obtain ⟨p1, p2⟩ := hW.push (.deferred (some [])) (fun _ _ _ e => by cases e)
    let w0 : World := { w with heap := w.heap.push (.deferred (some [])) }
    let rec_ : Nat → Loop := fun fn => { state := .ready, pending := none, fn, tmps := a.tmps, params := ps, assign := as, body := bd, defers := w.heap.size }
    refine wpIn_rangeFunc fun fn _ => ?_
    have hsub0 : Sub σ (bind1 σ W.next ⟨w0.heap.size, 0, 1⟩) := bind1_sub hW.fresh
    obtain ⟨q1, q2⟩ := WRel.alloc (w := w0) p1 (o := .loop .ready none R nt ps as bd) (x := .loop (rec_ fn)) (e := 1)
      ⟨rfl, rfl, rec_ fn, by simp, rfl, rfl, hR.mono hsub0, rfl, rfl, rfl, ⟨by rw [← hng]; exact hG.mono hsub0, by rw [← hng]; exact h3⟩, ⟨by rw [← hng]; exact hG.mono hsub0, by rw [← hng]; exact h4⟩, h2⟩
    have hfv := (aEval_rel hR hG h1).mono hsub0
    rw [hf0] at hfv
    have hargs : LR (bind1 σ W.next ⟨w0.heap.size, 0, 1⟩) [.func (.yield W.next) #[] #[]] [.func (.yield w0.heap.size) #[] #[]] :=
      .cons (.func _ _ _ _ _ _ (.yield _ _ bind1_same) rfl (fun i v v' x => by simp at x) rfl (fun i v v' x => by simp at x)) .nil
    have hcv := hc _ _ _ _ _ hcall _ { w0 with heap := w0.heap.push (.loop (rec_ fn)) } _ _ q1 (hG.mono hsub0) hfv hargs
    have hszl : w0.heap.size = w.heap.size + 1 := by simp [w0]
    have hmark0 : Marks n0 (bind1 σ W.next ⟨w0.heap.size, 0, 1⟩) { w0 with heap := w0.heap.push (.loop (rec_ fn)) } ([{ target := .collected w.heap.size, args := #[] }] ++ a.defers) := by
      refine ⟨⟨w.heap.size, rfl, hn, ?_, ?_, ?_⟩, (hM.ext p2).ext q2⟩
      · show (w0.heap.push _)[w.heap.size]? = _
        rw [Array.getElem?_push, if_neg (by omega)]
        simp [w0]
      · intro b g hg e
        unfold bind1 at hg
        split at hg
        · injection hg with hg; subst hg; simp at e; omega
        · have := (hW.dom b g hg).2; omega
      · intro d' hd' r' ht e
        have : ∀ {ds : List Deferred}, Marks n0 σ w ds → ∀ d' ∈ ds, ∀ r', d'.target = .collected r' → r' < w.heap.size := by
          intro ds
          induction ds with
          | nil => intro _ d' hd'; cases hd'
          | cons d ds ih =>
            rintro ⟨⟨r, e1, e2, e3, _⟩, hds⟩ d' hd' r' ht
            rcases List.mem_cons.1 hd' with rfl | hd'
            · rw [e1] at ht; injection ht with ht; subst ht; exact (Array.getElem?_eq_some_iff.1 e3).1
            · exact ih hds d' hd' r' ht
        have := this hM d' hd' r' ht
        omega
    unfold CallV at hcv
    split at hcv
    case h_3 => exact hcv.elim
    · rename_i fv i fs cs heq
      obtain ⟨c1, c2⟩ := hcv
      refine ⟨w0.heap.size, [{ target := .collected w.heap.size, args := #[] }], { w0 with heap := w0.heap.push (.loop (rec_ fn)) }, { target := .fn (.func i) cs, args := fs ++ #[.func (.yield w0.heap.size) #[] #[]] }, { w0 with heap := w0.heap.push (.loop (rec_ fn)) }, i, fs ++ #[.func (.yield w0.heap.size) #[] #[]] ++ cs, { w0 with heap := w0.heap.push (.loop (rec_ fn)) }, ?_, ?_, fun _ _ => trivial, ?_, fun hd => by rw [FE_depth] at hd; simp at hd, ?_⟩
      · show (Instr.enterLoop fn a.tmps ps as bd none).run P w = _
        rw [run_enterLoop_outer, hszl]
        rfl
      · show (resolve a.eval (rangeCall f w0.heap.size) 0).run P _ = .ok _ { w0 with heap := w0.heap.push (.loop (rec_ fn)) }
        have : a.eval f = .func (.func i) fs cs := heq
        have hcst : a.eval (.const (.func (.yield w0.heap.size) #[] #[])) = .func (.yield w0.heap.size) #[] #[] := rfl
        simp [resolve, rangeCall, this, Deferred.ofValue, hcst]
      · show (invoke (.fn (.func i) cs) (fs ++ #[.func (.yield w0.heap.size) #[] #[]])).run P _ = _
        have c1' : (callFunc i (fs ++ #[.func (.yield w0.heap.size) #[] #[]] ++ cs)).run P { w0 with heap := w0.heap.push (.loop (rec_ fn)) } = _ := c1
        simpa [invoke] using c1'
      · refine CallsIn.mono (callsIn_FE c2) ?_
        rintro e w' ⟨v', rfl, σ', k1, k2, k3⟩
        obtain ⟨hz, hzz⟩ : σ' W.next = some ⟨w0.heap.size, 0, 1⟩ ∧ True := ⟨k3.sub _ _ bind1_same, trivial⟩
        obtain ⟨_, _, r, r1, r2, r3, r4, r5, r6, r7, r8, r9, r10⟩ := k2.obj _ _ _ hget hz
        have hstb : st ≠ .busy := by rintro rfl; simp at h
        have hend := run_endLoop (P := P) r1 (by rw [r2]; exact hstb)
        obtain ⟨s1, s2⟩ := k2.setObj (w := w') (o' := .loop .exhausted pend R9 nt9 ps9 as9 bd9) (x := .loop { r with state := .exhausted }) hget (fun _ => by simp) hz ⟨rfl, rfl⟩ (fun c t fr e => by rw [r1] at e; cases e)
          ⟨rfl, rfl, { r with state := .exhausted }, by simp [(k2.dom _ _ hz).2], rfl, r3, r4, r5, r6, r7, r8, r9, r10⟩
        obtain ⟨t1, t2⟩ := WRel.kill (w := { w' with heap := w'.heap.setIfInBounds w0.heap.size (.loop { r with state := .exhausted }) }) s1 (b := W.next) (g0 := ⟨w0.heap.size, 0, 1⟩) (fun cs => by rw [AW.get_put]; simp) hz
        have hkill : (W2.put W.next (.loop .exhausted pend R9 nt9 ps9 as9 bd9)).kill W.next = W2.kill W.next := by
          simp only [AW.kill, AW.put]
          congr 1
          exact T.set_set _ _ _ _
        rw [hkill] at t1 t2
        have hext : Ext σ W w σ' (W2.kill W.next) { w' with heap := w'.heap.setIfInBounds w0.heap.size (.loop { r with state := .exhausted }) } :=
          (((p2.trans q2).trans k3).trans s2).trans t2
        have hmarks : Marks n0 σ' { w' with heap := w'.heap.setIfInBounds w0.heap.size (.loop { r with state := .exhausted }) } ([{ target := .collected w.heap.size, args := #[] }] ++ a.defers) :=
          ((hmark0.ext k3).ext s2).ext t2
        refine ⟨pend, { w' with heap := w'.heap.setIfInBounds w0.heap.size (.loop { r with state := .exhausted }) }, by rw [hend, r3]; rfl, ?_⟩
        have fin : ∀ x', x = x' → R' = R → W' = W2.kill W.next → Q x'.to { a with defers := [{ target := .collected w.heap.size, args := #[] }] ++ a.defers } { w' with heap := w'.heap.setIfInBounds w0.heap.size (.loop { r with state := .exhausted }) } := by
          rintro x' rfl rfl rfl
          exact hQ σ' _ _ (hR.mono hext.sub) hmarks t1 hext
        cases pend with
        | none =>
          have : x = .normal ∧ R' = R ∧ W' = W2.kill W.next := by cases st <;> simp at h <;> simp_all
          exact fin .normal this.1 this.2.1 this.2.2
        | some cc =>
          cases cc <;> first
            | (exfalso; cases st <;> simp at h; done)
            | skip
          · rename_i id
            have : x = .exit id ∧ R' = R ∧ W' = W2.kill W.next := by cases st <;> simp at h <;> simp_all
            exact wpIn_exit (fin (.exit id) this.1 this.2.1 this.2.2)
          · have : x = .ret ∧ R' = R ∧ W' = W2.kill W.next := by cases st <;> simp at h <;> simp_all
            exact wpIn_ret (fin .ret this.1 this.2.1 this.2.2)
    · rename_i fv l fs cs heq
      exfalso
      obtain ⟨fn', fs', cs', k1, _, _, k4⟩ := hfv.func_inv
      cases k1
      rw [heq] at k4
      cases k4
end
end Go.Eng
