/- Code in continuations. -/
import Derived.Test.YtfcfglpkgcheiaaDoorOpnA
namespace Go.Eng
open Go
set_option linter.unusedSectionVars false
set_option linter.unusedSimpArgs false
set_option linter.unusedVariables false
variable [PlanTab]

theorem bndX : ∃ f : (∀ (α ρ : Type), Option α → (α → Option ρ) → Option ρ), f = fun _ _ x g => x.bind g := ⟨_, rfl⟩
/-- one behind the other; shut to the kernel, so that two texts go in step -/
noncomputable def bnd {α ρ : Type} (x : Option α) (g : α → Option ρ) : Option ρ := Classical.choose bndX α ρ x g
theorem bnd_eq {α ρ : Type} (x : Option α) (g : α → Option ρ) : bnd x g = x.bind g := by unfold bnd; rw [Classical.choose_spec bndX]
abbrev KT (ρ : Type) := X → PlanTab.Fr → AW → Option ρ
abbrev LT := X × PlanTab.Fr × AW
noncomputable def wnt (v : Value) (w : Bool) : Bool := match v with | .bool b => b == w | _ => false
noncomputable def kWant (ops : Array Oper) (R : PlanTab.Fr) (o : Oper) : Bool := match o.guard with
  | none => true
  | some (j, w) => match (ops[j]?).bind (·.dst) with
    | some t => wnt (rget R t) w
    | none => false
theorem kWant_eq (ops : Array Oper) (R : PlanTab.Fr) (o : Oper) : kWant ops R o = wantedA ops R o := by
  unfold kWant wantedA
  cases o.guard with
  | none => rfl
  | some p =>
    obtain ⟨j, w⟩ := p
    simp only
    cases (ops[j]?).bind (·.dst) <;> rfl
noncomputable def bIf {ρ : Type} (c : Bool) (a b : ρ) : ρ := Bool.rec (motive := fun _ => ρ) b a c
noncomputable def kStep (P : Program) (call : Callee) (ops : Array Oper) (o : Oper) (R : PlanTab.Fr) (W : AW) : Option (Value × AW) :=
  bIf (kWant ops R o) (kOp P call o R W) (some (undef, W))
noncomputable def kOps (P : Program) (call : Callee) (ops : Array Oper) {ρ : Type} (K : PlanTab.Fr → AW → Option ρ) (l : List Oper) : PlanTab.Fr → AW → Option ρ :=
  List.rec (motive := fun _ => PlanTab.Fr → AW → Option ρ) (fun R W => K R W) (fun o _ ih R W => bnd (kStep P call ops o R W) fun r => ih (rput R o.dst r.1) r.2) l
noncomputable def agV (w : Bool) (r : Option (Value × AW)) (v : Value) : Bool := bIf w (match r with | some (u, _) => vsame u v | none => false) true
noncomputable def agN (w : Bool) (r : Option (Value × AW)) : Bool := bIf w r.isSome true
noncomputable def kAgain (P : Program) (call : Callee) (ops : Array Oper) (R : PlanTab.Fr) (W : AW) (j : Nat) : Bool := match ops[j]? with
  | none => false
  | some o => match o.dst with
    | some t => agV (kWant ops R o) (kOp P call o R W) (rget R t)
    | none => agN (kWant ops R o) (kOp P call o R W)
noncomputable def kPlan (P : Program) (call : Callee) (ops : Array Oper) {ρ : Type} (K : PlanTab.Fr → AW → Option ρ) (l : List (Nat × List Nat)) : PlanTab.Fr → AW → Option ρ :=
  List.rec (motive := fun _ => PlanTab.Fr → AW → Option ρ) (fun R W => K R W) (fun p _ ih R W => match ops[p.1]? with
    | none => none
    | some o => bnd (kStep P call ops o R W) fun r => bIf (p.2.all (kAgain P call ops (rput R o.dst r.1) r.2)) (ih (rput R o.dst r.1) r.2) none) l

noncomputable def kNorm {ρ : Type} (x : X) (a b : Option ρ) : Option ρ := X.rec (motive := fun _ => Option ρ) a (fun _ => b) b x
noncomputable def kExit {ρ : Type} (id : Nat) (x : X) (a b : Option ρ) : Option ρ := X.rec (motive := fun _ => Option ρ) b (fun i => bIf (Nat.beq i id) a b) b x
noncomputable def kFin {ρ : Type} (x : X) (a : Option ρ) : Option ρ := X.rec (motive := fun _ => Option ρ) a (fun _ => none) a x
noncomputable def vIf {ρ : Type} (v : Value) (a b : Option ρ) : Option ρ := match v with | .bool c => bIf c a b | _ => none

abbrev CT := ∀ ρ : Type, PlanTab.Fr → AW → KT ρ → Option ρ
noncomputable def kEnd {ρ : Type} (R : PlanTab.Fr) (W : AW) (K : KT ρ) : Option ρ := K .normal R W
noncomputable def ret3 : KT LT := fun x R W => some (x, R, W)
noncomputable def kSkipC : CT := fun _ R W K => K .normal R W
noncomputable def kRegionC (P : Program) (call : Callee) (id : Nat) (ops : Array Oper) (draw : Bool) : CT := fun _ R W K => match draw with
  | false => kOps P call ops (K .normal) ops.toList R W
  | true => match PlanTab.D id ops with
    | none => kOps P call ops (K .normal) ops.toList R W
    | some pl => kPlan P call ops (K .normal) pl R W
noncomputable def kSeqC (_ _ : Code) (ia ib : CT) : CT := fun ρ R W K => ia ρ R W fun x R' W' => X.rec (motive := fun _ => Option ρ) (ib ρ R' W' K) (fun _ => K x R' W') (K x R' W') x
noncomputable def kCondC (c : Operand) (_ _ : Code) (ia ib : CT) : CT := fun ρ R W K => vIf (aEval R c) (ia ρ R W K) (ib ρ R W K)
noncomputable def kBlockC (id : Nat) (_ : Code) (ib : CT) : CT := fun ρ R W K => ib ρ R W fun x R' W' => X.rec (motive := fun _ => Option ρ) (K x R' W') (fun i => Bool.rec (motive := fun _ => Option ρ) (K x R' W') (K .normal R' W') (Nat.beq i id)) (K x R' W') x
/-- by which ways a text may be left: the blocks, and whether it returns -/
noncomputable def exIns (i : Nat) : List Nat → List Nat := List.rec [i] fun x l ih => Bool.rec (x :: ih) (x :: l) (Nat.beq x i)
noncomputable def exJoin (a b : List Nat) : List Nat := List.rec b (fun x _ ih => exIns x ih) a
noncomputable def exCut (i : Nat) (a : List Nat) : List Nat := List.rec [] (fun x _ ih => Bool.rec (x :: ih) ih (Nat.beq x i)) a
noncomputable def exs : Code → List Nat × Bool :=
  Code.rec (motive := fun _ => List Nat × Bool) ([], false) (fun _ _ _ => ([], false)) (fun _ _ a b => (exJoin a.1 b.1, a.2 || b.2)) (fun _ _ _ a b => (exJoin a.1 b.1, a.2 || b.2)) (fun i _ b => (exCut i b.1, b.2)) (fun _ b => b)
    (fun _ _ _ _ a b => (exJoin a.1 b.1, a.2 || b.2)) (fun i => ([i], false)) (fun _ b => b) (fun _ => ([], false)) (fun _ => ([], false)) ([], true) (fun _ => ([], false))
noncomputable def kRetX {ρ : Type} (x : X) (a : Option ρ) : Option ρ := X.rec (motive := fun _ => Option ρ) none (fun _ => none) a x
noncomputable def kPick' {ρ : Type} (x : X) (k : X → Option ρ) (ret : Bool) (l : List Nat) : Option ρ :=
  List.rec (motive := fun _ => Option ρ) (bIf ret (kRetX x (k .ret)) none) (fun i _ ih => kExit i x (k (.exit i)) ih) l
theorem kPick_some {ρ : Type} {x : X} {k : X → Option ρ} {ret : Bool} {r : ρ} : ∀ {l : List Nat}, kPick' x k ret l = some r → k x = some r
  | [], h => by
    cases ret with
    | false => cases h
    | true => cases x <;> first | exact h | cases h
  | i :: l, h => by
    cases x with
    | normal => exact kPick_some (l := l) h
    | ret => exact kPick_some (l := l) h
    | exit j =>
      have h' : bIf (Nat.beq j i) (k (.exit i)) (kPick' (.exit j) k ret l) = some r := h
      cases hb : Nat.beq j i with
      | true => rw [hb] at h'; have := Nat.eq_of_beq_eq_true hb; subst this; exact h'
      | false => rw [hb] at h'; exact kPick_some (l := l) h'
theorem loopX : ∃ f : (PlanTab.Fr → AW → Option LT) → Nat → PlanTab.Fr → AW → Option LT, f = aLoop := ⟨aLoop, rfl⟩
/-- a loop, shut to the kernel -/
noncomputable def loopO : (PlanTab.Fr → AW → Option LT) → PlanTab.Fr → AW → Option LT := fun f => Classical.choose loopX f 1000000
theorem loopO_eq (f : PlanTab.Fr → AW → Option LT) : loopO f = aLoop f 1000000 := by unfold loopO; rw [Classical.choose_spec loopX]
noncomputable def kLoopC (b : Code) (ib : CT) : CT := fun _ R W K => bnd (loopO (fun R W => ib LT R W ret3) R W) fun r => kPick' r.1 (fun x => K x r.2.1 r.2.2) (exs b).2 (exs b).1
noncomputable def oRange (call : Callee) (f : Value) (obj : AObj) (W : AW) : Option (X × AW) := match f with
  | .func (.func i) fs cs => match call (.func (.func i) fs cs) [.func (.yield W.next) #[] #[]] (W.add obj) with
    | some (_, W2) => match W2.get W.next with
      | some (.loop st pend _ _ _ _ _) => (match st with
        | .busy => none
        | _ => match pend with
          | none => some (.normal, W2.kill W.next)
          | some (.exit i) => some (.exit i, W2.kill W.next)
          | some .ret => some (.ret, W2.kill W.next)
          | _ => none)
      | _ => none
    | none => none
  | _ => none
noncomputable def kRangeC (call : Callee) (top : Bool) (nt : Nat) (f : Operand) (ps : Array Tmp) (as bd : Code) (_ _ : CT) : CT := fun _ R W K => match top with
  | false => none
  | true => bnd (oRange call (aEval R f) (.loop .ready none R nt ps as bd) W) fun r => kNorm r.1 (K .normal R r.2) (kPick' r.1 (fun x => K x R r.2) (exs bd).2 (exs bd).1)
noncomputable def kExitC (id : Nat) : CT := fun _ R W K => K (.exit id) R W
noncomputable def kRetC : CT := fun _ R W K => K .ret R W
noncomputable def kLabelC (_ : Nat) : CT := fun _ R W K => K .normal R W
noncomputable def kNoneC (_ : Nat) : CT := fun _ _ _ _ => none
noncomputable def kScopeC (_ : Code) (_ : CT) : CT := fun _ _ _ _ => none
noncomputable def kRefuseC (_ : String) : CT := fun _ _ _ _ => none
noncomputable def kCode (P : Program) (call : Callee) (top : Bool) (nt : Nat) : Code → CT :=
  Code.rec (motive := fun _ => CT) kSkipC (kRegionC P call) kSeqC kCondC kBlockC kLoopC (kRangeC call top nt) kExitC kScopeC kLabelC kNoneC kRetC kRefuseC

section
variable {P : Program} {call : Callee}
theorem kStep_eq {ops : Array Oper} {o : Oper} {R : PlanTab.Fr} {W : AW} : aStep P call ops o R W = (kStep P call ops o R W).map fun r => (rput R o.dst r.1, r.2) := by
  unfold aStep kStep
  rw [kWant_eq, kOp_eq]
  cases wantedA ops R o with
  | true =>
    rw [if_pos rfl]
    show _ = (aOpC P call o R W).map _
    cases aOpC P call o R W <;> rfl
  | false => rw [if_neg (by simp)]; rfl
theorem kOps_eq {ops : Array Oper} {ρ : Type} {K : PlanTab.Fr → AW → Option ρ} : ∀ (l : List Oper) (R : PlanTab.Fr) (W : AW), kOps P call ops K l R W = (aOps P call ops l R W).bind fun r => K r.1 r.2 := by
  intro l
  induction l with
  | nil => intro R W; rfl
  | cons o l ih =>
    intro R W
    show bnd (kStep P call ops o R W) (fun r => kOps P call ops K l (rput R o.dst r.1) r.2) = _
    rw [aOps, kStep_eq, bnd_eq]
    cases kStep P call ops o R W with
    | none => rfl
    | some r => exact ih _ _
theorem kAgain_eq {ops : Array Oper} {R : PlanTab.Fr} {W : AW} (j : Nat) : kAgain P call ops R W j = again P call ops R W j := by
  unfold kAgain again
  cases ops[j]? with
  | none => rfl
  | some o =>
    simp only
    rw [kWant_eq, kOp_eq]
    cases hd : o.dst with
    | none =>
      simp only [agN]
      cases wantedA ops R o with
      | false => rfl
      | true => cases aOpC P call o R W <;> rfl
    | some t =>
      simp only [agV]
      cases wantedA ops R o with
      | false => rfl
      | true => cases aOpC P call o R W <;> rfl
theorem kPlan_eq {ops : Array Oper} {ρ : Type} {K : PlanTab.Fr → AW → Option ρ} : ∀ (l : List (Nat × List Nat)) (R : PlanTab.Fr) (W : AW), kPlan P call ops K l R W = (aPlan P call ops l R W).bind fun r => K r.1 r.2 := by
  intro l
  induction l with
  | nil => intro R W; rfl
  | cons p l ih =>
    intro R W
    obtain ⟨i, re⟩ := p
    show (match ops[i]? with
      | none => none
      | some o => bnd (kStep P call ops o R W) fun r => bIf (re.all (kAgain P call ops (rput R o.dst r.1) r.2)) (kPlan P call ops K l (rput R o.dst r.1) r.2) none) = _
    rw [aPlan]
    cases ops[i]? with
    | none => rfl
    | some o =>
      simp only
      rw [kStep_eq, bnd_eq]
      cases kStep P call ops o R W with
      | none => rfl
      | some r =>
        simp only [Option.bind_some, Option.map_some]
        rw [show kAgain P call ops (rput R o.dst r.1) r.2 = again P call ops (rput R o.dst r.1) r.2 from funext kAgain_eq]
        cases re.all (again P call ops (rput R o.dst r.1) r.2) with
        | false => rfl
        | true => exact ih _ _
theorem aLoop_le {f g : PlanTab.Fr → AW → Option LT} (h : ∀ R W r, f R W = some r → g R W = some r) : ∀ (n : Nat) (R : PlanTab.Fr) (W : AW) (r : LT), aLoop f n R W = some r → aLoop g n R W = some r := by
  intro n
  induction n with
  | zero => intro R W r hr; cases hr
  | succ n ih =>
    intro R W r hr
    unfold aLoop at hr ⊢
    cases hf : f R W with
    | none => rw [hf] at hr; cases hr
    | some q =>
      rw [h _ _ _ hf]
      rw [hf] at hr
      obtain ⟨x, R', W'⟩ := q
      cases x with
      | normal => exact ih _ _ _ hr
      | exit i => exact hr
      | ret => exact hr
/-- WHAT THE CONTINUATIONS ANSWER, THE TEXT ANSWERS -/
theorem kCode_le {top : Bool} {nt : Nat} : ∀ (c : Code) (ρ : Type) (R : PlanTab.Fr) (W : AW) (K : KT ρ) (r : ρ), kCode P call top nt c ρ R W K = some r → (aCode P call top nt c R W).bind (fun r => K r.1 r.2.1 r.2.2) = some r := by
  intro c
  induction c with
  | skip => intro ρ R W K r h; exact h
  | label l => intro ρ R W K r h; exact h
  | exit id => intro ρ R W K r h; exact h
  | ret => intro ρ R W K r h; exact h
  | goto l => intro ρ R W K r h; exact h
  | scope b _ => intro ρ R W K r h; cases h
  | refuse s => intro ρ R W K r h; cases h
  | region id ops draw =>
    intro ρ R W K r h
    rw [← h]
    show _ = kRegionC P call id ops draw ρ R W K
    unfold kRegionC aCode
    cases draw with
    | false =>
      simp only
      rw [kOps_eq]
      cases aOps P call ops ops.toList R W <;> rfl
    | true =>
      simp only
      cases PlanTab.D id ops with
      | none =>
        simp only
        rw [kOps_eq]
        cases aOps P call ops ops.toList R W <;> rfl
      | some pl =>
        simp only
        rw [kPlan_eq]
        cases aPlan P call ops pl R W <;> rfl
  | seq a b iha ihb =>
    intro ρ R W K r h
    have h1 := iha ρ R W _ r h
    rw [aCode]
    cases ha : aCode P call top nt a R W with
    | none => rw [ha] at h1; cases h1
    | some q =>
      rw [ha] at h1
      obtain ⟨x, R', W'⟩ := q
      cases x with
      | normal => exact ihb _ _ _ _ _ h1
      | exit i => exact h1
      | ret => exact h1
  | cond c a b iha ihb =>
    intro ρ R W K r h
    have h' : vIf (aEval R c) (kCode P call top nt a ρ R W K) (kCode P call top nt b ρ R W K) = some r := h
    rw [aCode]
    cases hc : aEval R c with
    | bool d =>
      rw [hc] at h'
      cases d with
      | true => exact iha _ _ _ _ _ h'
      | false => exact ihb _ _ _ _ _ h'
    | _ => rw [hc] at h'; cases h'
  | block id b ih =>
    intro ρ R W K r h
    have h1 := ih ρ R W _ r h
    rw [aCode]
    cases ha : aCode P call top nt b R W with
    | none => rw [ha] at h1; cases h1
    | some q =>
      rw [ha] at h1
      obtain ⟨x, R', W'⟩ := q
      cases x with
      | normal => exact h1
      | ret => exact h1
      | exit i =>
        have h2 : bIf (Nat.beq i id) (K .normal R' W') (K (.exit i) R' W') = some r := h1
        by_cases hi : i = id
        · subst hi
          rw [Nat.beq_refl] at h2
          simp only [if_true, Option.bind_some]
          exact h2
        · have : Nat.beq i id = false := by
            cases hb : Nat.beq i id with
            | true => exact absurd (Nat.eq_of_beq_eq_true hb) hi
            | false => rfl
          rw [this] at h2
          simp only [if_neg hi, Option.bind_some]
          exact h2
  | loop b ih =>
    intro ρ R W K r h
    have h' : bnd (loopO (fun R W => kCode P call top nt b LT R W ret3) R W) (fun q => kPick' q.1 (fun x => K x q.2.1 q.2.2) (exs b).2 (exs b).1) = some r := h
    rw [bnd_eq, loopO_eq] at h'
    cases hl : aLoop (fun R W => kCode P call top nt b LT R W ret3) 1000000 R W with
    | none => rw [hl] at h'; cases h'
    | some q =>
      rw [hl] at h'
      have := aLoop_le (g := aCode P call top nt b) (fun R W q hq => by
        have := ih LT R W ret3 q hq
        cases ha : aCode P call top nt b R W with
        | none => rw [ha] at this; cases this
        | some q' => rw [ha] at this; exact this) _ _ _ _ hl
      rw [aCode, this]
      exact kPick_some (show kPick' q.1 (fun x => K x q.2.1 q.2.2) (exs b).2 (exs b).1 = some r from h')
  | rangeFunc f ps as bd _ _ =>
    intro ρ R W K r h
    have h' : kRangeC call top nt f ps as bd (kCode P call top nt as) (kCode P call top nt bd) ρ R W K = some r := h
    unfold kRangeC at h'
    cases top with
    | false => cases h'
    | true =>
      simp only [bnd_eq] at h'
      have h2 : (oRange call (aEval R f) (.loop .ready none R nt ps as bd) W).bind (fun q => K q.1 R q.2) = some r := by
        cases ho : oRange call (aEval R f) (.loop .ready none R nt ps as bd) W with
        | none => rw [ho] at h'; cases h'
        | some q =>
          rw [ho] at h'
          obtain ⟨x, W'⟩ := q
          cases x with
          | normal => exact h'
          | exit i => exact kPick_some (show kPick' (.exit i) (fun x => K x R W') (exs bd).2 (exs bd).1 = some r from h')
          | ret => exact kPick_some (show kPick' .ret (fun x => K x R W') (exs bd).2 (exs bd).1 = some r from h')
      rw [← h2]
      unfold aCode oRange
      simp only
      cases aEval R f with
      | func fn fs cs =>
        cases fn with
        | func i =>
          simp only [AW.new_eq]
          cases call (.func (.func i) fs cs) [.func (.yield W.next) #[] #[]] (W.add (.loop .ready none R nt ps as bd)) with
          | none => rfl
          | some r =>
            obtain ⟨v, W2⟩ := r
            simp only
            cases W2.get W.next with
            | none => rfl
            | some obj =>
              cases obj with
              | loop st pend tm n p a b =>
                cases st <;> simp only <;> (cases pend with
                  | none => rfl
                  | some c => cases c <;> rfl)
              | _ => rfl
        | _ => rfl
      | _ => rfl
theorem kCode_ret {top : Bool} {nt : Nat} {c : Code} {R : PlanTab.Fr} {W : AW} {r : LT} (h : kCode P call top nt c LT R W ret3 = some r) : aCode P call top nt c R W = some r := by
  have := kCode_le c LT R W ret3 r h
  cases ha : aCode P call top nt c R W with
  | none => rw [ha] at this; cases this
  | some q => rw [ha] at this; exact this
end

/-! ### functions -/
noncomputable def oResL (P : Program) (W : AW) : List (Value × Option TypeId) → Option (List Value)
  | [] => some []
  | (v, none) :: l => match oResL P W l with
    | some vs => some (v :: vs)
    | none => none
  | (a, some t) :: l => match aLoad P W t a with
    | some v => match oResL P W l with
      | some vs => some (v :: vs)
      | none => none
    | none => none
noncomputable def oRes (P : Program) (l : List (Value × Option TypeId)) (W : AW) : Option (Value × AW) := match oResL P W l with
  | some [v] => some (v, W)
  | some vs => some (.tuple vs.toArray, W)
  | none => none
noncomputable def rv (R : PlanTab.Fr) : ResultVar → Value × Option TypeId := ResultVar.rec (fun t => (rget R t, none)) (fun a t => (rget R a, some t))
theorem oResL_eq (P : Program) (W : AW) (R : PlanTab.Fr) : ∀ l : List ResultVar, aRes P W R l = oResL P W (l.map (rv R))
  | [] => rfl
  | .tmp t :: l => by
    show (match aRes P W R l with | some vs => some (rget R t :: vs) | none => none) = (match oResL P W (l.map (rv R)) with | some vs => some (rget R t :: vs) | none => none)
    rw [oResL_eq P W R l]
  | .cell a t :: l => by
    show (match aLoad P W t (rget R a) with | some v => (match aRes P W R l with | some vs => some (v :: vs) | none => none) | none => none) = (match aLoad P W t (rget R a) with | some v => (match oResL P W (l.map (rv R)) with | some vs => some (v :: vs) | none => none) | none => none)
    rw [oResL_eq P W R l]
noncomputable def kFun (P : Program) (call : Callee) (nt : Nat) (c : Code) (rs : Array ResultVar) (vals : List Value) (W : AW) : Option (Value × AW) :=
  kCode P call true nt c (Value × AW) (argGo 0 vals PlanTab.blank) W fun x R W' => X.rec (motive := fun _ => Option (Value × AW)) (oRes P (rs.toList.map (rv R)) W') (fun _ => none) (oRes P (rs.toList.map (rv R)) W') x
theorem bodyC_fun {P : Program} {bad : List Nat} {spec call : Callee} {i : Nat} {fn : Func} {c : Code} (hb : inL i bad = false) (hf : P.funcs[i]? = some fn) (hc : fn.body = some c) {fs cs : Array Value} {args : List Value}
    (hn : Nat.ble (fs.toList.length + (args.length + cs.toList.length)) fn.ntmps = true) {W : AW} {r : Value × AW} (h : kFun P call fn.ntmps c fn.results (fs.toList ++ (args ++ cs.toList)) W = some r) :
    bodyC P bad spec call (.func (.func i) fs cs) args W = some r := by
  unfold kFun at h
  have h1 := kCode_le _ _ _ _ _ _ h
  unfold bodyC
  simp only [hb, hf, hc, hn]
  cases ha : aCode P call true fn.ntmps c (argGo 0 (fs.toList ++ (args ++ cs.toList)) PlanTab.blank) W with
  | none => rw [ha] at h1; cases h1
  | some q =>
    rw [ha] at h1
    obtain ⟨x, R, W'⟩ := q
    simp only [Option.bind_some] at h1
    rw [← h1]
    unfold aResults oRes
    simp only [oResL_eq]
    cases x with
    | exit id => rfl
    | normal =>
      simp only [kFin]
      rcases oResL P W' (fn.results.toList.map (rv R)) with _ | _ | ⟨v, _ | ⟨u, l⟩⟩ <;> rfl
    | ret =>
      simp only [kFin]
      rcases oResL P W' (fn.results.toList.map (rv R)) with _ | _ | ⟨v, _ | ⟨u, l⟩⟩ <;> rfl
/-- a round -/
noncomputable def kYield (P : Program) (call : Callee) (l : Nat) (nt : Nat) (as bd : Code) (R : PlanTab.Fr) (W : AW) : Option (Value × AW) :=
  (kCode P call false nt as LT R W ret3).bind fun r1 => kNorm r1.1 (match r1.2.2.get l with
    | some (.loop .ready pd9 R9 nt9 ps9 as9 bd9) => (kCode P call false nt bd LT r1.2.1 (r1.2.2.put l (.loop .busy pd9 R9 nt9 ps9 as9 bd9)) ret3).bind fun r2 => (match r2.2.2.get l with
      | some (.loop _ _ R8 nt8 ps8 as8 bd8) => (match r2.1 with
        | .normal => some (.bool true, r2.2.2.put l (.loop .ready none R8 nt8 ps8 as8 bd8))
        | x => some (.bool false, r2.2.2.put l (.loop .done x.jump R8 nt8 ps8 as8 bd8)))
      | _ => none)
    | _ => none) none
theorem bodyC_yield {P : Program} {bad : List Nat} {spec call : Callee} {l nt : Nat} {R : PlanTab.Fr} {ps : Array Tmp} {as bd : Code} {W : AW} (hl : W.get l = some (.loop .ready none R nt ps as bd)) {fs cs : Array Value} {args : List Value} (hn : fs.toList.length + args.length = ps.size)
    {r : Value × AW} (h : kYield P call l nt as bd (zipGo ps.toList (fs.toList ++ args) R) W = some r) :
    bodyC P bad spec call (.func (.yield l) fs cs) args W = some r := by
  unfold kYield at h
  have hb : Nat.beq (fs.toList.length + args.length) ps.size = true := by rw [hn]; exact Nat.beq_refl _
  unfold bodyC
  simp only [hl, hb]
  cases h1 : kCode P call false nt as LT (zipGo ps.toList (fs.toList ++ args) R) W ret3 with
  | none => rw [h1] at h; cases h
  | some q =>
    rw [h1] at h
    rw [kCode_ret h1]
    obtain ⟨x, R1, W1⟩ := q
    simp only [Option.bind_some] at h
    cases x with
    | exit id => cases h
    | ret => cases h
    | normal =>
      simp only [kNorm] at h ⊢
      cases hg : W1.get l with
      | none => rw [hg] at h; cases h
      | some obj =>
        rw [hg] at h
        cases obj with
        | loop st pd9 R9 nt9 ps9 as9 bd9 =>
          cases st with
          | ready =>
            simp only at h ⊢
            cases h2 : kCode P call false nt bd LT R1 (W1.put l (.loop .busy pd9 R9 nt9 ps9 as9 bd9)) ret3 with
            | none => rw [h2] at h; cases h
            | some q2 =>
              rw [h2] at h
              rw [kCode_ret h2]
              obtain ⟨x2, R2, W2⟩ := q2
              simp only [Option.bind_some] at h ⊢
              cases hg2 : W2.get l with
              | none => rw [hg2] at h; cases h
              | some obj2 =>
                rw [hg2] at h
                cases obj2 with
                | loop st8 pd8 R8 nt8 ps8 as8 bd8 => cases x2 <;> exact h
                | _ => cases h
          | _ => cases h
        | _ => cases h
end Go.Eng
