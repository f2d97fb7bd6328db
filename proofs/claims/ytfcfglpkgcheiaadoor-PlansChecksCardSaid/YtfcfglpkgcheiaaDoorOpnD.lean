/- Calls answered at whatever depth; what a call made and nobody holds is dropped. -/
import Derived.Test.YtfcfglpkgcheiaaDoorOpnC
namespace Go.Eng
open Go
set_option linter.unusedSectionVars false
set_option linter.unusedSimpArgs false
set_option linter.unusedVariables false
variable [PlanTab]

/-! ### more is answered where more is answered -/
def CLe (c d : Callee) : Prop := ∀ f a W r, c f a W = some r → d f a W = some r
theorem CLe.refl (c : Callee) : CLe c c := fun _ _ _ _ h => h
theorem CLe.trans {a b c : Callee} (h : CLe a b) (k : CLe b c) : CLe a c := fun f x W r e => k _ _ _ _ (h _ _ _ _ e)
section
variable {P : Program}
theorem aOpC_dep (P : Program) (o : Oper) (R : PlanTab.Fr) (W : AW) : (∀ c d : Callee, aOpC P c o R W = aOpC P d o R W) ∨ ∃ f a, ∀ c : Callee, aOpC P c o R W = c f a W := by
  simp only [aOpC_eq]
  obtain ⟨dst, op, type, pos, after, guard⟩ := o
  cases op with
  | call k =>
    obtain ⟨callee, args, ts⟩ := k
    cases callee with
    | builtin b => exact .inl fun _ _ => rfl
    | value f => exact .inr ⟨_, _, fun _ => rfl⟩
    | invoke r name =>
      simp only [aOpS]
      cases aEval R r with
      | iface t v =>
        simp only
        cases methodOf P t name with
        | none => exact .inl fun _ _ => rfl
        | some f => exact .inr ⟨_, _, fun _ => rfl⟩
      | _ => exact .inl fun _ _ => rfl
  | _ => exact .inl fun _ _ => rfl
theorem aOpC_le {c d : Callee} (h : CLe c d) {o : Oper} {R : PlanTab.Fr} {W : AW} {r : Value × AW} (e : aOpC P c o R W = some r) : aOpC P d o R W = some r := by
  rcases aOpC_dep P o R W with hd | ⟨f, a, hd⟩
  · rw [← e]; exact hd _ _
  · rw [hd] at e ⊢; exact h _ _ _ _ e
theorem aStep_le {c d : Callee} (h : CLe c d) {ops : Array Oper} {o : Oper} {R : PlanTab.Fr} {W : AW} {r : PlanTab.Fr × AW} (e : aStep P c ops o R W = some r) : aStep P d ops o R W = some r := by
  unfold aStep at e ⊢
  split
  · rename_i hw
    rw [if_pos hw] at e
    cases ho : aOpC P c o R W with
    | none => rw [ho] at e; cases e
    | some q => rw [ho] at e; rw [aOpC_le h ho]; exact e
  · rename_i hw; rw [if_neg hw] at e; exact e
theorem aOps_le {c d : Callee} (h : CLe c d) {ops : Array Oper} : ∀ {l : List Oper} {R : PlanTab.Fr} {W : AW} {r : PlanTab.Fr × AW}, aOps P c ops l R W = some r → aOps P d ops l R W = some r := by
  intro l
  induction l with
  | nil => intro R W r e; exact e
  | cons o l ih =>
    intro R W r e
    rw [aOps] at e ⊢
    cases hs : aStep P c ops o R W with
    | none => rw [hs] at e; cases e
    | some q => rw [hs] at e; rw [aStep_le h hs]; exact ih e
theorem again_le {c d : Callee} (h : CLe c d) {ops : Array Oper} {R : PlanTab.Fr} {W : AW} {j : Nat} (e : again P c ops R W j = true) : again P d ops R W j = true := by
  unfold again at e ⊢
  cases hj : ops[j]? with
  | none => rw [hj] at e; cases e
  | some o =>
    rw [hj] at e
    simp only at e ⊢
    split
    · rename_i hw
      rw [if_pos hw] at e
      cases ho : aOpC P c o R W with
      | none => rw [ho] at e; cases e
      | some q => rw [ho] at e; rw [aOpC_le h ho]; exact e
    · rfl
theorem aPlan_le {c d : Callee} (h : CLe c d) {ops : Array Oper} : ∀ {l : List (Nat × List Nat)} {R : PlanTab.Fr} {W : AW} {r : PlanTab.Fr × AW}, aPlan P c ops l R W = some r → aPlan P d ops l R W = some r := by
  intro l
  induction l with
  | nil => intro R W r e; exact e
  | cons p l ih =>
    intro R W r e
    obtain ⟨i, re⟩ := p
    rw [aPlan] at e ⊢
    cases hi : ops[i]? with
    | none => rw [hi] at e; cases e
    | some o =>
      rw [hi] at e
      simp only at e ⊢
      cases hs : aStep P c ops o R W with
      | none => rw [hs] at e; cases e
      | some q =>
        rw [hs] at e
        rw [aStep_le h hs]
        simp only at e ⊢
        split at e
        · rename_i hr
          rw [if_pos (List.all_eq_true.2 fun j hj => again_le h (List.all_eq_true.1 hr j hj))]
          exact ih e
        · cases e
theorem aCode_le {c d : Callee} (h : CLe c d) {top : Bool} {nt : Nat} : ∀ (k : Code) {R : PlanTab.Fr} {W : AW} {r : LT}, aCode P c top nt k R W = some r → aCode P d top nt k R W = some r := by
  intro k
  induction k with
  | skip => intro R W r e; exact e
  | label l => intro R W r e; exact e
  | exit id => intro R W r e; exact e
  | ret => intro R W r e; exact e
  | goto l => intro R W r e; exact e
  | scope b _ => intro R W r e; exact e
  | refuse s => intro R W r e; exact e
  | region id ops draw =>
    intro R W r e
    unfold aCode at e ⊢
    cases draw with
    | false =>
      simp only at e ⊢
      cases hs : aOps P c ops ops.toList R W with
      | none => rw [hs] at e; cases e
      | some q => rw [hs] at e; rw [aOps_le h hs]; exact e
    | true =>
      simp only at e ⊢
      cases hD : PlanTab.D id ops with
      | none =>
        rw [hD] at e
        simp only at e ⊢
        cases hs : aOps P c ops ops.toList R W with
        | none => rw [hs] at e; cases e
        | some q => rw [hs] at e; rw [aOps_le h hs]; exact e
      | some pl =>
        rw [hD] at e
        simp only at e ⊢
        cases hs : aPlan P c ops pl R W with
        | none => rw [hs] at e; cases e
        | some q => rw [hs] at e; rw [aPlan_le h hs]; exact e
  | seq a b iha ihb =>
    intro R W r e
    rw [aCode] at e ⊢
    cases ha : aCode P c top nt a R W with
    | none => rw [ha] at e; cases e
    | some q =>
      rw [ha] at e
      rw [iha ha]
      obtain ⟨x, R', W'⟩ := q
      cases x with
      | normal => exact ihb e
      | exit i => exact e
      | ret => exact e
  | cond o a b iha ihb =>
    intro R W r e
    rw [aCode] at e ⊢
    cases ho : aEval R o with
    | bool t => rw [ho] at e; cases t with
      | true => exact iha e
      | false => exact ihb e
    | _ => rw [ho] at e; cases e
  | block id b ih =>
    intro R W r e
    rw [aCode] at e ⊢
    cases hb : aCode P c top nt b R W with
    | none => rw [hb] at e; cases e
    | some q => rw [hb] at e; rw [ih hb]; exact e
  | loop b ih =>
    intro R W r e
    rw [aCode] at e ⊢
    exact aLoop_le (fun R W q hq => ih hq) _ _ _ _ e
  | rangeFunc f ps as bd _ _ =>
    intro R W r e
    unfold aCode at e ⊢
    cases top with
    | false => cases e
    | true =>
      simp only at e ⊢
      cases hf : aEval R f with
      | func fn fs cs =>
        rw [hf] at e
        cases fn with
        | func i =>
          simp only [AW.new_eq] at e ⊢
          cases hc : c (.func (.func i) fs cs) [.func (.yield W.next) #[] #[]] (W.add (.loop .ready none R nt ps as bd)) with
          | none => rw [hc] at e; cases e
          | some q => rw [hc] at e; rw [h _ _ _ _ hc]; exact e
        | _ => cases e
      | _ => rw [hf] at e; cases e
theorem bodyC_le {bad : List Nat} {spec c d : Callee} (h : CLe c d) : CLe (bodyC P bad spec c) (bodyC P bad spec d) := by
  intro f a W r e
  unfold bodyC at e ⊢
  cases f with
  | func fn fs cs =>
    cases fn with
    | func i =>
      simp only at e ⊢
      cases hb : inL i bad with
      | true => rw [hb] at e; exact e
      | false =>
        rw [hb] at e
        simp only at e ⊢
        cases hf : P.funcs[i]? with
        | none => rw [hf] at e; cases e
        | some fn =>
          rw [hf] at e
          simp only at e ⊢
          cases hc : fn.body with
          | none => rw [hc] at e; cases e
          | some k =>
            rw [hc] at e
            simp only at e ⊢
            cases hl : Nat.ble (fs.toList.length + (a.length + cs.toList.length)) fn.ntmps with
            | false => rw [hl] at e; cases e
            | true =>
              rw [hl] at e
              simp only at e ⊢
              cases hk : aCode P c true fn.ntmps k (argGo 0 (fs.toList ++ (a ++ cs.toList)) PlanTab.blank) W with
              | none => rw [hk] at e; cases e
              | some q => rw [hk] at e; rw [aCode_le h k hk]; exact e
    | yield l =>
      simp only at e ⊢
      split at e
      case h_2 => cases e
      rename_i R nt ps as bd hl
      cases hn : Nat.beq (fs.toList.length + a.length) ps.size with
      | false => rw [hn] at e; cases e
      | true =>
        rw [hn] at e
        simp only at e ⊢
        cases h1 : aCode P c false nt as (zipGo ps.toList (fs.toList ++ a) R) W with
        | none => rw [h1] at e; cases e
        | some q =>
          rw [h1] at e
          rw [aCode_le h as h1]
          obtain ⟨x, R1, W1⟩ := q
          cases x with
          | normal =>
            simp only at e ⊢
            split at e
            case h_2 => cases e
            rename_i pd9 R9 nt9 ps9 as9 bd9 hg
            cases h2 : aCode P c false nt bd R1 (W1.put l (.loop .busy pd9 R9 nt9 ps9 as9 bd9)) with
            | none => rw [h2] at e; cases e
            | some q2 => rw [h2] at e; rw [aCode_le h bd h2]; exact e
          | exit i => cases e
          | ret => cases e
    | _ => cases e
  | _ => cases e

/-! ### at some depth -/
section
variable {c : Nat → Callee} {o : Callee}
structure Lim (c : Nat → Callee) (o : Callee) : Prop where
  up : ∀ n, CLe (c n) (c (n + 1))
  of : ∀ f a W r, o f a W = some r → ∃ n, c n f a W = some r
theorem Lim.le (h : Lim c o) {m n : Nat} (hmn : m ≤ n) : CLe (c m) (c n) := by
  induction hmn with
  | refl => exact .refl _
  | step _ ih => exact ih.trans (h.up _)
theorem aOpC_lim (h : Lim c o) {op : Oper} {R : PlanTab.Fr} {W : AW} {r : Value × AW} (e : aOpC P o op R W = some r) : ∃ n, aOpC P (c n) op R W = some r := by
  rcases aOpC_dep P op R W with hd | ⟨f, a, hd⟩
  · exact ⟨0, by rw [← e]; exact hd _ _⟩
  · rw [hd] at e
    obtain ⟨n, hn⟩ := h.of _ _ _ _ e
    exact ⟨n, by rw [hd]; exact hn⟩
theorem aStep_lim (h : Lim c o) {ops : Array Oper} {op : Oper} {R : PlanTab.Fr} {W : AW} {r : PlanTab.Fr × AW} (e : aStep P o ops op R W = some r) : ∃ n, aStep P (c n) ops op R W = some r := by
  unfold aStep at e ⊢
  split at e
  · rename_i hw
    cases ho : aOpC P o op R W with
    | none => rw [ho] at e; cases e
    | some q =>
      rw [ho] at e
      obtain ⟨n, hn⟩ := aOpC_lim h ho
      exact ⟨n, by rw [if_pos hw, hn]; exact e⟩
  · rename_i hw; exact ⟨0, by rw [if_neg hw]; exact e⟩
theorem aOps_lim (h : Lim c o) {ops : Array Oper} : ∀ {l : List Oper} {R : PlanTab.Fr} {W : AW} {r : PlanTab.Fr × AW}, aOps P o ops l R W = some r → ∃ n, aOps P (c n) ops l R W = some r := by
  intro l
  induction l with
  | nil => intro R W r e; exact ⟨0, e⟩
  | cons op l ih =>
    intro R W r e
    rw [aOps] at e
    cases hs : aStep P o ops op R W with
    | none => rw [hs] at e; cases e
    | some q =>
      rw [hs] at e
      obtain ⟨n, hn⟩ := aStep_lim h hs
      obtain ⟨m, hm⟩ := ih e
      refine ⟨max n m, ?_⟩
      rw [aOps, aStep_le (h.le (Nat.le_max_left n m)) hn]
      exact aOps_le (h.le (Nat.le_max_right n m)) hm
theorem again_lim (h : Lim c o) {ops : Array Oper} {R : PlanTab.Fr} {W : AW} {j : Nat} (e : again P o ops R W j = true) : ∃ n, again P (c n) ops R W j = true := by
  unfold again at e ⊢
  cases hj : ops[j]? with
  | none => rw [hj] at e; cases e
  | some op =>
    rw [hj] at e
    simp only at e ⊢
    split at e
    · rename_i hw
      cases ho : aOpC P o op R W with
      | none => rw [ho] at e; cases e
      | some q =>
        rw [ho] at e
        obtain ⟨n, hn⟩ := aOpC_lim h ho
        exact ⟨n, by rw [if_pos hw, hn]; exact e⟩
    · rename_i hw; exact ⟨0, by rw [if_neg hw]⟩
theorem all_again_lim (h : Lim c o) {ops : Array Oper} {R : PlanTab.Fr} {W : AW} : ∀ {l : List Nat}, l.all (again P o ops R W) = true → ∃ n, l.all (again P (c n) ops R W) = true := by
  intro l
  induction l with
  | nil => intro _; exact ⟨0, rfl⟩
  | cons j l ih =>
    intro e
    simp only [List.all_cons, Bool.and_eq_true] at e
    obtain ⟨n, hn⟩ := again_lim h e.1
    obtain ⟨m, hm⟩ := ih e.2
    refine ⟨max n m, ?_⟩
    simp only [List.all_cons, Bool.and_eq_true]
    exact ⟨again_le (h.le (Nat.le_max_left n m)) hn, List.all_eq_true.2 fun j hj => again_le (h.le (Nat.le_max_right n m)) (List.all_eq_true.1 hm j hj)⟩
theorem aPlan_lim (h : Lim c o) {ops : Array Oper} : ∀ {l : List (Nat × List Nat)} {R : PlanTab.Fr} {W : AW} {r : PlanTab.Fr × AW}, aPlan P o ops l R W = some r → ∃ n, aPlan P (c n) ops l R W = some r := by
  intro l
  induction l with
  | nil => intro R W r e; exact ⟨0, e⟩
  | cons p l ih =>
    intro R W r e
    obtain ⟨i, re⟩ := p
    rw [aPlan] at e
    cases hi : ops[i]? with
    | none => rw [hi] at e; cases e
    | some op =>
      rw [hi] at e
      simp only at e
      cases hs : aStep P o ops op R W with
      | none => rw [hs] at e; cases e
      | some q =>
        rw [hs] at e
        simp only at e
        split at e
        · rename_i hr
          obtain ⟨n, hn⟩ := aStep_lim h hs
          obtain ⟨m, hm⟩ := all_again_lim h hr
          obtain ⟨k, hk⟩ := ih e
          refine ⟨max n (max m k), ?_⟩
          rw [aPlan, hi]
          simp only
          rw [aStep_le (h.le (Nat.le_max_left n _)) hn]
          simp only
          rw [if_pos (List.all_eq_true.2 fun j hj => again_le (h.le (by omega)) (List.all_eq_true.1 hm j hj))]
          exact aPlan_le (h.le (by omega)) hk
        · cases e
theorem aLoop_lim (h : Lim c o) {top : Bool} {nt : Nat} {k : Code} (ih : ∀ {R : PlanTab.Fr} {W : AW} {r : LT}, aCode P o top nt k R W = some r → ∃ n, aCode P (c n) top nt k R W = some r) :
    ∀ (m : Nat) {R : PlanTab.Fr} {W : AW} {r : LT}, aLoop (aCode P o top nt k) m R W = some r → ∃ n, aLoop (aCode P (c n) top nt k) m R W = some r := by
  intro m
  induction m with
  | zero => intro R W r e; cases e
  | succ m ihm =>
    intro R W r e
    unfold aLoop at e
    cases hb : aCode P o top nt k R W with
    | none => rw [hb] at e; cases e
    | some q =>
      rw [hb] at e
      obtain ⟨n, hn⟩ := ih hb
      obtain ⟨x, R', W'⟩ := q
      cases x with
      | normal =>
        obtain ⟨j, hj⟩ := ihm e
        refine ⟨max n j, ?_⟩
        unfold aLoop
        rw [aCode_le (h.le (Nat.le_max_left n j)) k hn]
        exact aLoop_le (fun R W q hq => aCode_le (h.le (Nat.le_max_right n j)) k hq) _ _ _ _ hj
      | exit i => exact ⟨n, by unfold aLoop; rw [hn]; exact e⟩
      | ret => exact ⟨n, by unfold aLoop; rw [hn]; exact e⟩
theorem aCode_lim (h : Lim c o) {top : Bool} {nt : Nat} : ∀ (k : Code) {R : PlanTab.Fr} {W : AW} {r : LT}, aCode P o top nt k R W = some r → ∃ n, aCode P (c n) top nt k R W = some r := by
  intro k
  induction k with
  | skip => intro R W r e; exact ⟨0, e⟩
  | label l => intro R W r e; exact ⟨0, e⟩
  | exit id => intro R W r e; exact ⟨0, e⟩
  | ret => intro R W r e; exact ⟨0, e⟩
  | goto l => intro R W r e; exact ⟨0, e⟩
  | scope b _ => intro R W r e; exact ⟨0, e⟩
  | refuse s => intro R W r e; exact ⟨0, e⟩
  | region id ops draw =>
    intro R W r e
    unfold aCode at e ⊢
    cases draw with
    | false =>
      simp only at e ⊢
      cases hs : aOps P o ops ops.toList R W with
      | none => rw [hs] at e; cases e
      | some q => rw [hs] at e; obtain ⟨n, hn⟩ := aOps_lim h hs; exact ⟨n, by rw [hn]; exact e⟩
    | true =>
      simp only at e ⊢
      cases hD : PlanTab.D id ops with
      | none =>
        rw [hD] at e
        simp only at e ⊢
        cases hs : aOps P o ops ops.toList R W with
        | none => rw [hs] at e; cases e
        | some q => rw [hs] at e; obtain ⟨n, hn⟩ := aOps_lim h hs; exact ⟨n, by rw [hn]; exact e⟩
      | some pl =>
        rw [hD] at e
        simp only at e ⊢
        cases hs : aPlan P o ops pl R W with
        | none => rw [hs] at e; cases e
        | some q => rw [hs] at e; obtain ⟨n, hn⟩ := aPlan_lim h hs; exact ⟨n, by rw [hn]; exact e⟩
  | seq a b iha ihb =>
    intro R W r e
    rw [aCode] at e
    cases ha : aCode P o top nt a R W with
    | none => rw [ha] at e; cases e
    | some q =>
      rw [ha] at e
      obtain ⟨n, hn⟩ := iha ha
      obtain ⟨x, R', W'⟩ := q
      cases x with
      | normal =>
        obtain ⟨m, hm⟩ := ihb e
        refine ⟨max n m, ?_⟩
        rw [aCode, aCode_le (h.le (Nat.le_max_left n m)) a hn]
        exact aCode_le (h.le (Nat.le_max_right n m)) b hm
      | exit i => exact ⟨n, by rw [aCode, hn]; exact e⟩
      | ret => exact ⟨n, by rw [aCode, hn]; exact e⟩
  | cond q a b iha ihb =>
    intro R W r e
    rw [aCode] at e
    cases ho : aEval R q with
    | bool t => rw [ho] at e; cases t with
      | true => obtain ⟨n, hn⟩ := iha e; exact ⟨n, by rw [aCode, ho]; exact hn⟩
      | false => obtain ⟨n, hn⟩ := ihb e; exact ⟨n, by rw [aCode, ho]; exact hn⟩
    | _ => rw [ho] at e; cases e
  | block id b ih =>
    intro R W r e
    rw [aCode] at e
    cases hb : aCode P o top nt b R W with
    | none => rw [hb] at e; cases e
    | some q => rw [hb] at e; obtain ⟨n, hn⟩ := ih hb; exact ⟨n, by rw [aCode, hn]; exact e⟩
  | loop b ih =>
    intro R W r e
    rw [aCode] at e
    obtain ⟨n, hn⟩ := aLoop_lim h (fun e => ih e) _ e
    exact ⟨n, by rw [aCode]; exact hn⟩
  | rangeFunc f ps as bd _ _ =>
    intro R W r e
    unfold aCode at e ⊢
    cases top with
    | false => cases e
    | true =>
      simp only at e ⊢
      cases hf : aEval R f with
      | func fn fs cs =>
        rw [hf] at e
        cases fn with
        | func i =>
          simp only [AW.new_eq] at e ⊢
          cases hc : o (.func (.func i) fs cs) [.func (.yield W.next) #[] #[]] (W.add (.loop .ready none R nt ps as bd)) with
          | none => rw [hc] at e; cases e
          | some q => rw [hc] at e; obtain ⟨n, hn⟩ := h.of _ _ _ _ hc; exact ⟨n, by rw [hn]; exact e⟩
        | _ => cases e
      | _ => rw [hf] at e; cases e
theorem bodyC_lim (h : Lim c o) {bad : List Nat} {spec : Callee} {f : Value} {a : List Value} {W : AW} {r : Value × AW} (e : bodyC P bad spec o f a W = some r) : ∃ n, bodyC P bad spec (c n) f a W = some r := by
  unfold bodyC at e ⊢
  cases f with
  | func fn fs cs =>
    cases fn with
    | func i =>
      simp only at e ⊢
      cases hb : inL i bad with
      | true => rw [hb] at e; exact ⟨0, e⟩
      | false =>
        rw [hb] at e
        simp only at e ⊢
        cases hf : P.funcs[i]? with
        | none => rw [hf] at e; cases e
        | some fn =>
          rw [hf] at e
          simp only at e ⊢
          cases hc : fn.body with
          | none => rw [hc] at e; cases e
          | some k =>
            rw [hc] at e
            simp only at e ⊢
            cases hl : Nat.ble (fs.toList.length + (a.length + cs.toList.length)) fn.ntmps with
            | false => rw [hl] at e; cases e
            | true =>
              rw [hl] at e
              simp only at e ⊢
              cases hk : aCode P o true fn.ntmps k (argGo 0 (fs.toList ++ (a ++ cs.toList)) PlanTab.blank) W with
              | none => rw [hk] at e; cases e
              | some q => rw [hk] at e; obtain ⟨n, hn⟩ := aCode_lim h k hk; exact ⟨n, by rw [hn]; exact e⟩
    | yield l =>
      simp only at e ⊢
      split at e
      case h_2 => cases e
      rename_i R nt ps as bd hl
      cases hn : Nat.beq (fs.toList.length + a.length) ps.size with
      | false => rw [hn] at e; cases e
      | true =>
        rw [hn] at e
        simp only at e ⊢
        cases h1 : aCode P o false nt as (zipGo ps.toList (fs.toList ++ a) R) W with
        | none => rw [h1] at e; cases e
        | some q =>
          rw [h1] at e
          obtain ⟨n, hn1⟩ := aCode_lim h as h1
          obtain ⟨x, R1, W1⟩ := q
          cases x with
          | normal =>
            simp only at e
            split at e
            case h_2 => cases e
            rename_i pd9 R9 nt9 ps9 as9 bd9 hg
            cases h2 : aCode P o false nt bd R1 (W1.put l (.loop .busy pd9 R9 nt9 ps9 as9 bd9)) with
            | none => rw [h2] at e; cases e
            | some q2 =>
              rw [h2] at e
              obtain ⟨m, hm⟩ := aCode_lim h bd h2
              refine ⟨max n m, ?_⟩
              rw [aCode_le (h.le (Nat.le_max_left n m)) as hn1]
              simp only
              rw [hg]
              simp only
              rw [aCode_le (h.le (Nat.le_max_right n m)) bd hm]
              exact e
          | exit i => cases e
          | ret => cases e
    | _ => cases e
  | _ => cases e
end
end
end Go.Eng
