/- What a call made and nobody holds is dropped; calls at whatever depth. -/
import Derived.Test.YtfcfglpkgcheiaaDoorOpnD
namespace Go.Eng
open Go
set_option linter.unusedSectionVars false
set_option linter.unusedSimpArgs false
set_option linter.unusedVariables false
variable [PlanTab]

theorem FnR.back {σ σ' : Inj} (hs : Sub σ σ') {f u u' : Fn} (h : FnR σ f u) (k : FnR σ' f u') : FnR σ f u' := by
  cases h with
  | func f => cases k; exact .func f
  | yield l g hg =>
    cases k with
    | yield _ g' hg' =>
      have := (hs _ _ hg).symm.trans hg'
      injection this with this
      subst this
      exact .yield l g hg
theorem VR.back {σ σ' : Inj} (hs : Sub σ σ') {v u : Value} (h : VR σ v u) : ∀ {u' : Value}, VR σ' v u' → VR σ v u' := by
  induction h with
  | bool b => intro u' k; cases k; exact .bool b
  | int k n => intro u' k; cases k; exact .int _ _
  | float k n => intro u' k; cases k; exact .float _ _
  | string s => intro u' k; cases k; exact .string s
  | pnil => intro u' k; cases k; exact .pnil
  | ptr a g hg hsp =>
    intro u' k
    cases k with
    | ptr _ g' hg' hs' =>
      have := (hs _ _ hg).symm.trans hg'
      injection this with this
      subst this
      exact .ptr a g hg hsp
  | snil l c => intro u' k; cases k; exact .snil _ _
  | slice a l c c' g hg hsp hc =>
    intro u' k
    cases k with
    | slice _ _ _ c2 g' hg' hs' hc' =>
      have := (hs _ _ hg).symm.trans hg'
      injection this with this
      subst this
      exact .slice a l c c2 g hg hsp hc'
    | sliceE _ a' _ g' hg' hc' =>
      have := (hs _ _ hg).symm.trans hg'
      injection this with this
      subst this
      exact .sliceE a a' c g hg hc'
  | sliceE a a' c g hg hc =>
    intro u' k
    cases k with
    | slice _ _ _ c2 g' hg' hs' hc' =>
      have := (hs _ _ hg).symm.trans hg'
      injection this with this
      subst this
      exact .slice a 0 c c2 g hg hs' hc'
    | sliceE _ a2 _ g' hg' hc' => exact .sliceE a a2 c g hg hc'
  | mnil => intro u' k; cases k; exact .mnil
  | map r g hg =>
    intro u' k
    cases k with
    | map _ g' hg' =>
      have := (hs _ _ hg).symm.trans hg'
      injection this with this
      subst this
      exact .map r g hg
  | nilFunc => intro u' k; cases k; exact .nilFunc
  | func fn fn' fs fs' cs cs' hf h1 _ h3 _ ih1 ih2 =>
    intro u' k
    cases k with
    | func _ fn2 _ fs2 _ cs2 kf k1 k2 k3 k4 =>
      refine .func _ _ _ _ _ _ (hf.back hs kf) k1 (fun i v v' a b => ?_) k3 (fun i v v' a b => ?_)
      · have hi : i < fs'.size := by rw [← h1]; exact (Array.getElem?_eq_some_iff.1 a).1
        exact ih1 i v _ a (Array.getElem?_eq_getElem hi) (k2 i v v' a b)
      · have hi : i < cs'.size := by rw [← h3]; exact (Array.getElem?_eq_some_iff.1 a).1
        exact ih2 i v _ a (Array.getElem?_eq_getElem hi) (k4 i v v' a b)
  | nilIface => intro u' k; cases k; exact .nilIface
  | iface t v v' _ ih =>
    intro u' k
    cases k with
    | iface _ _ v2 k => exact .iface t v v2 (ih k)
  | agg cs cs' h1 _ ih =>
    intro u' k
    cases k with
    | agg _ cs2 k1 k2 =>
      refine .agg _ _ k1 fun i v v' a b => ?_
      have hi : i < cs'.size := by rw [← h1]; exact (Array.getElem?_eq_some_iff.1 a).1
      exact ih i v _ a (Array.getElem?_eq_getElem hi) (k2 i v v' a b)
  | tuple cs cs' h1 _ ih =>
    intro u' k
    cases k with
    | tuple _ cs2 k1 k2 =>
      refine .tuple _ _ k1 fun i v v' a b => ?_
      have hi : i < cs'.size := by rw [← h1]; exact (Array.getElem?_eq_some_iff.1 a).1
      exact ih i v _ a (Array.getElem?_eq_getElem hi) (k2 i v v' a b)
theorem ORel.back {σ σ' : Inj} (hs : Sub σ σ') {h h' : Array Obj} {g : Seg} {o : AObj} (a : ORel σ h g o) (b : ORel σ' h' g o) : ORel σ h' g o := by
  cases o with
  | cells cs =>
    obtain ⟨c1, t1, _, _, _, e4⟩ := a
    obtain ⟨c2, t2, f1, f2, f3, f4⟩ := b
    refine ⟨c2, t2, f1, f2, f3, fun i v hv => ?_⟩
    obtain ⟨v1, _, x⟩ := e4 i v hv
    obtain ⟨v2, y1, y2⟩ := f4 i v hv
    exact ⟨v2, y1, x.back hs y2⟩
  | ro cs =>
    obtain ⟨c1, t1, fr1, _, _, e4⟩ := a
    obtain ⟨c2, t2, fr2, f1, f2, f4⟩ := b
    refine ⟨c2, t2, fr2, f1, f2, fun i v hv => ?_⟩
    obtain ⟨v1, _, x⟩ := e4 i v hv
    obtain ⟨v2, y1, y2⟩ := f4 i v hv
    exact ⟨v2, y1, x.back hs y2⟩
  | map es clock =>
    obtain ⟨e1, e2, es1, _, ⟨e3, e4⟩⟩ := a
    obtain ⟨f1, f2, es2, f3, ⟨f4, f5⟩⟩ := b
    refine ⟨f1, f2, es2, f3, f4, fun i e e' x y => ?_⟩
    have hi : i < es1.toList.length := by rw [← e3]; exact (List.getElem?_eq_some_iff.1 x).1
    obtain ⟨p1, p2, _⟩ := e4 i e _ x (List.getElem?_eq_getElem hi)
    obtain ⟨q1, q2, q3⟩ := f5 i e e' x y
    exact ⟨p1.back hs q1, p2.back hs q2, q3⟩
  | loop st pend R nt ps as bd =>
    obtain ⟨_, _, r1, _, _, _, ⟨_, e4⟩, _, _, _, e8, e9, e10⟩ := a
    obtain ⟨f1, f2, r2, f3, f4, f5, ⟨f6, f7⟩, f8, f9, f10, _, _, _⟩ := b
    exact ⟨f1, f2, r2, f3, f4, f5, ⟨f6, fun t ht => (e4 t ht).back hs (f7 t ht)⟩, f8, f9, f10, e8, e9, e10⟩
  | siter s pos => exact b

/-- W' is W and more -/
structure Le (W W' : AW) : Prop where
  next : W.next ≤ W'.next
  get : ∀ b, b < W.next → W'.get b = W.get b
theorem Le.refl (W : AW) : Le W W := ⟨Nat.le_refl _, fun _ _ => rfl⟩
theorem Le.trans {A B C : AW} (h : Le A B) (k : Le B C) : Le A C := ⟨Nat.le_trans h.next k.next, fun b hb => (k.get b (Nat.lt_of_lt_of_le hb h.next)).trans (h.get b hb)⟩
theorem Le.add {W W' : AW} (h : Le W W') (o : AObj) : Le W (W'.add o) :=
  ⟨Nat.le_trans h.next (by rw [AW.add_next]; omega), fun b hb => by rw [AW.get_add_ne _ _ (by have := h.next; omega)]; exact h.get b hb⟩
theorem Le.put {W W' : AW} (h : Le W W') {b : Nat} (hb : W.next ≤ b) (o : AObj) : Le W (W'.put b o) :=
  ⟨h.next, fun c hc => by rw [AW.get_put_ne _ _ (by omega)]; exact h.get c hc⟩
theorem Le.kill {W W' : AW} (h : Le W W') {b : Nat} (hb : W.next ≤ b) : Le W (W'.kill b) :=
  ⟨h.next, fun c hc => by rw [AW.get_kill_ne _ (by omega)]; exact h.get c hc⟩

theorem drop_ok {σ σ' : Inj} {W W' : AW} {w w' : World} (hW : WRel σ W w.heap) (hle : Le W W') (h1 : WRel σ' W' w'.heap) (he : Ext σ W w σ' W' w') : WRel σ W w'.heap ∧ Ext σ W w σ W w' := by
  have hlt : ∀ b o, W.get b = some o → b < W.next := fun b o hb => by
    rcases Nat.lt_or_ge b W.next with h | h
    · exact h
    · rw [hW.free b h] at hb; cases hb
  refine ⟨⟨hW.free, fun b g hg => ⟨(hW.dom b g hg).1, Nat.lt_of_lt_of_le (hW.dom b g hg).2 he.size⟩, fun b o g hb hg => ?_, fun b1 b2 o1 o2 g1 g2 hne a1 a2 k1 k2 hr => ?_⟩,
    ⟨.refl _, fun _ _ h => h, he.size, he.os, he.tape, he.output, he.keep, fun _ _ h k => ⟨h, k⟩, fun b g hg _ => .inl hg, he.fr⟩⟩
  · exact (hW.obj b o g hb hg).back he.sub (h1.obj b o g (by rw [hle.get b (hlt b o hb)]; exact hb) (he.sub _ _ hg))
  · exact hW.disj b1 b2 o1 o2 g1 g2 hne a1 a2 k1 k2 hr

def isU : Value → Bool
  | .tuple vs => vs.isEmpty
  | _ => false
noncomputable def gc (W : AW) (r : Value × AW) : Value × AW :=
  open Classical in if (plain r.1 && !isU r.1) = true ∧ Le W r.2 then (r.1, W) else r
theorem gc_plain {W W' : AW} {v : Value} (hv : (plain v && !isU v) = true) (h : Le W W') : gc W (v, W') = (v, W) := by
  unfold gc; rw [if_pos ⟨hv, h⟩]
theorem gc_not {W W' : AW} {v : Value} (hv : (plain v && !isU v) = false) : gc W (v, W') = (v, W') := by
  unfold gc; rw [if_neg (by simp only [hv]; simp)]
/-- a function's call is cleared, a round is not -/
noncomputable def gcF (f : Value) (W : AW) (r : Value × AW) : Value × AW := match f with
  | .func (.func _) _ _ => gc W r
  | _ => r
theorem gc_ok {P : Program} {ng : List Nat} {c : Callee} (hc : CalleeOK P ng c) : CalleeOK P ng fun f a W => (c f a W).map (gcF f W) := by
  intro f args W v W' h σ w f' args' hW hG hf hargs
  simp only at h
  cases hr : c f args W with
  | none => rw [hr] at h; cases h
  | some q =>
    rw [hr] at h
    obtain ⟨v1, W1⟩ := q
    have hk := hc f args W v1 W1 hr σ w f' args' hW hG hf hargs
    simp only [Option.map_some, Option.some.injEq] at h
    unfold gcF at h
    split at h
    case h_2 => injection h with e1 e2; subst e1; subst e2; exact hk
    unfold gc at h
    split at h
    · rename_i hp
      injection h with e1 e2
      subst e1; subst e2
      have hpl : plain v1 = true := (Bool.and_eq_true _ _ ▸ hp.1).1
      have key : ∀ (R R' : Value → World → Prop), (∀ v' w', R v' w' → R' v' w') → CallV P f' args' w R → CallV P f' args' w R' := by
        intro R R' hRR hC
        unfold CallV at hC ⊢
        split at hC
        · exact ⟨hC.1, CallsIn.mono hC.2 fun e w' ⟨u, hu, hr⟩ => ⟨u, hu, hRR _ _ hr⟩⟩
        · obtain ⟨f, tmps, as, bd, k1, k2⟩ := hC
          exact ⟨f, tmps, as, bd, k1, RoundIn.mono k2 fun e w' ⟨u, hu, hr⟩ => ⟨u, hu, hRR _ _ hr⟩⟩
        · exact hC.elim
      refine key _ _ (fun v' w' ⟨σ', k1, k2, k3⟩ => ?_) hk
      obtain ⟨d1, d2⟩ := drop_ok hW hp.2 k2 k3
      have : v' = v1 := plain_eq hpl k1
      subst this
      exact ⟨σ, plain_refl hpl, d1, d2⟩
    · injection h with e1 e2; subst e1; subst e2; exact hk

/-! ### calls at whatever depth -/
section
variable (P : Program) (bad : List Nat) (spec : Callee)
noncomputable def gC : Nat → Callee
  | 0 => fun _ _ _ => none
  | n + 1 => fun f a W => (bodyC P bad spec (gC n) f a W).map (gcF f W)
theorem gC_up : ∀ n, CLe (gC P bad spec n) (gC P bad spec (n + 1)) := by
  intro n
  induction n with
  | zero => intro f a W r h; cases h
  | succ n ih =>
    intro f a W r h
    have h' : (bodyC P bad spec (gC P bad spec n) f a W).map (gcF f W) = some r := h
    show (bodyC P bad spec (gC P bad spec (n + 1)) f a W).map (gcF f W) = some r
    cases hb : bodyC P bad spec (gC P bad spec n) f a W with
    | none => rw [hb] at h'; cases h'
    | some q => rw [hb] at h'; rw [bodyC_le ih _ _ _ _ hb]; exact h'
/-- what is answered at some depth -/
noncomputable def om : Callee := fun f a W => open Classical in if h : ∃ r n, gC P bad spec n f a W = some r then some (Classical.choose h) else none
theorem om_lim : Lim (gC P bad spec) (om P bad spec) := by
  refine ⟨gC_up P bad spec, fun f a W r h => ?_⟩
  unfold om at h
  split at h
  · rename_i hx
    injection h with h
    subst h
    exact Classical.choose_spec hx
  · cases h
theorem om_ge {n : Nat} {f : Value} {a : List Value} {W : AW} {r : Value × AW} (h : gC P bad spec n f a W = some r) : om P bad spec f a W = some r := by
  have hx : ∃ r n, gC P bad spec n f a W = some r := ⟨r, n, h⟩
  unfold om
  rw [dif_pos hx]
  obtain ⟨m, hm⟩ := Classical.choose_spec hx
  have h1 := (om_lim P bad spec).le (Nat.le_max_left n m) _ _ _ _ h
  have h2 := (om_lim P bad spec).le (Nat.le_max_right n m) _ _ _ _ hm
  rw [h1] at h2
  exact h2.symm
/-- THE BODY, ITS CALLS ANSWERED, ANSWERS -/
theorem om_body {f : Value} {a : List Value} {W : AW} {r : Value × AW} (h : bodyC P bad spec (om P bad spec) f a W = some r) : om P bad spec f a W = some (gcF f W r) := by
  obtain ⟨n, hn⟩ := bodyC_lim (om_lim P bad spec) h
  refine om_ge P bad spec (n := n + 1) ?_
  show (bodyC P bad spec (gC P bad spec n) f a W).map (gcF f W) = _
  rw [hn]; rfl
variable {P bad spec}
theorem gC_ok (hm : P.follows .mixedOrders = true) (hP : funsOk PlanTab.ng bad 0 P.funcs.toList = true) (hs : CalleeOK P PlanTab.ng spec) : ∀ n, CalleeOK P PlanTab.ng (gC P bad spec n)
  | 0 => fun f args W v W' h => by cases h
  | n + 1 => gc_ok (callee_step hm rfl hP hs (gC_ok hm hP hs n))
theorem om_ok (hm : P.follows .mixedOrders = true) (hP : funsOk PlanTab.ng bad 0 P.funcs.toList = true) (hs : CalleeOK P PlanTab.ng spec) : CalleeOK P PlanTab.ng (om P bad spec) := by
  intro f args W v W' h
  obtain ⟨n, hn⟩ := (om_lim P bad spec).of _ _ _ _ h
  exact gC_ok hm hP hs n f args W v W' hn
theorem om_fun {i : Nat} {fn : Func} {c : Code} (hb : inL i bad = false) (hf : P.funcs[i]? = some fn) (hc : fn.body = some c) {fs cs : Array Value} {args : List Value}
    (hn : Nat.ble (fs.toList.length + (args.length + cs.toList.length)) fn.ntmps = true) {W : AW} {r : Value × AW} (h : kFun P (om P bad spec) fn.ntmps c fn.results (fs.toList ++ (args ++ cs.toList)) W = some r) :
    om P bad spec (.func (.func i) fs cs) args W = some (gc W r) := om_body P bad spec (bodyC_fun hb hf hc hn h)
theorem om_yield {l nt : Nat} {R : PlanTab.Fr} {ps : Array Tmp} {as bd : Code} {W : AW} (hl : W.get l = some (.loop .ready none R nt ps as bd)) {fs cs : Array Value} {args : List Value} (hn : fs.toList.length + args.length = ps.size)
    {r : Value × AW} (h : kYield P (om P bad spec) l nt as bd (zipGo ps.toList (fs.toList ++ args) R) W = some r) : om P bad spec (.func (.yield l) fs cs) args W = some r := om_body P bad spec (bodyC_yield hl hn h)
/-- a callee that is answered for -/
theorem om_spec {i : Nat} (hb : inL i bad = true) {fs cs : Array Value} {args : List Value} {W : AW} {r : Value × AW} (h : spec (.func (.func i) fs cs) args W = some r) :
    om P bad spec (.func (.func i) fs cs) args W = some (gc W r) := by
  refine om_body P bad spec ?_
  unfold bodyC
  simp only [hb]
  exact h
end
end Go.Eng
