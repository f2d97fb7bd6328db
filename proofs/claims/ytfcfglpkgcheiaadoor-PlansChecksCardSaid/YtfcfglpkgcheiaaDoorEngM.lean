/- Regions: one operation after the other, and in whatever order. -/
import Derived.Test.YtfcfglpkgcheiaaDoorEngL
namespace Go.Eng
open Go
set_option linter.unusedSectionVars false
set_option linter.unusedSimpArgs false
variable [PlanTab]

theorem inD_iff {d : Option Tmp} {l : List Tmp} : inD d l = true ↔ ∃ t, d = some t ∧ t ∈ l := by
  cases d with
  | none => simp [inD]
  | some d => simp [inD, inL_iff]
theorem inD_false {d : Option Tmp} {l : List Tmp} (h : inD d l = false) {t : Tmp} (ht : d = some t) : t ∉ l := fun hm => by
  have := inD_iff.2 ⟨t, ht, hm⟩
  rw [h] at this; cases this

noncomputable def wantedA (ops : Array Oper) (R : PlanTab.Fr) (o : Oper) : Bool :=
  match o.guard with
  | none => true
  | some (j, w) => match (ops[j]?).bind (·.dst) with
    | some t => (match rget R t with | .bool b => b == w | _ => false)
    | none => false

theorem looks_op {ops : Array Oper} {o : Oper} {t : Tmp} (h : Operand.tmp t ∈ o.op.operands) : t ∈ o.looksAt ops := by
  unfold Oper.looksAt
  refine List.mem_append.2 (.inl (List.mem_filterMap.2 ⟨.tmp t, by simpa using h, rfl⟩))
theorem looks_guard {ops : Array Oper} {o : Oper} {j : Nat} {w : Bool} {t : Tmp} (h : o.guard = some (j, w)) (ht : (ops[j]?).bind (·.dst) = some t) : t ∈ o.looksAt ops := by
  unfold Oper.looksAt
  refine List.mem_append.2 (.inr ?_)
  rw [h]
  simp only
  rw [ht]
  simp
theorem aEval_agree {R R' : PlanTab.Fr} {x : Operand} (h : ∀ t, x = .tmp t → rget R' t = rget R t) : aEval R' x = aEval R x := by
  cases x with
  | tmp t => exact h t rfl
  | _ => rfl
theorem agree_of {ops : Array Oper} {o : Oper} {R R' : PlanTab.Fr} (h : ∀ t ∈ o.looksAt ops, rget R' t = rget R t) : Agree o R R' ∧ wantedA ops R' o = wantedA ops R o := by
  refine ⟨fun x hx => aEval_agree fun t ht => h t (looks_op (by rw [← ht]; exact hx)), ?_⟩
  unfold wantedA
  split
  · rfl
  · rename_i j w hg
    split
    · rename_i t ht
      rw [h t (looks_guard hg ht)]
    · rfl
theorem VR.bool_back {σ : Inj} {v : Value} {b : Bool} (h : VR σ v (.bool b)) : v = .bool b := by cases h; rfl
theorem wanted_eq {ops : Array Oper} {o : Oper} {σ : Inj} {R : PlanTab.Fr} {a : Act} (h : ∀ t ∈ o.looksAt ops, VR σ (rget R t) (a.tmps.getD t undef)) :
    Region.wanted o (yielded ops a.tmps) = wantedA ops R o := by
  unfold Region.wanted wantedA
  cases hg : o.guard with
  | none => rfl
  | some jw =>
    obtain ⟨j, w⟩ := jw
    simp only
    unfold yielded
    cases ht : (ops[j]?).bind (·.dst) with
    | none => rfl
    | some t =>
      have hv := h t (looks_guard hg ht)
      simp only [Option.bind_some]
      cases hq : a.tmps[t]? with
      | none =>
        have he : a.tmps.getD t undef = undef := by simp [hq]
        rw [he] at hv
        have : ∀ b, rget R t ≠ .bool b := fun b hb => by rw [hb] at hv; have := hv.bool_inv; simp [undef] at this
        simp only
        first
          | rfl
          | (split
             · rename_i b hb; exact absurd hb (this b)
             · rfl)
      | some u =>
        have he : a.tmps.getD t undef = u := by simp [hq]
        rw [he] at hv
        cases hr : rget R t with
        | bool b => rw [hr] at hv; have := hv.bool_inv; subst this; simp
        | _ =>
          simp only
          split
          · rename_i b hb; injection hb with hb; subst hb; have := hv.bool_back; rw [hr] at this; cases this
          · rfl

noncomputable def aStep (P : Program) (call : Callee) (ops : Array Oper) (o : Oper) (R : PlanTab.Fr) (W : AW) : Option (PlanTab.Fr × AW) :=
  if wantedA ops R o then
    match aOpC P call o R W with
    | some (v, W') => some (rput R o.dst v, W')
    | none => none
  else some (rput R o.dst undef, W)
noncomputable def aOps (P : Program) (call : Callee) (ops : Array Oper) : List Oper → PlanTab.Fr → AW → Option (PlanTab.Fr × AW)
  | [], R, W => some (R, W)
  | o :: l, R, W => match aStep P call ops o R W with
    | some (R', W') => aOps P call ops l R' W'
    | none => none

def bytesEq (a b : ByteArray) : Bool := decide (a.data.toList = b.data.toList)
def addrEq (a b : Addr) : Bool := Nat.beq a.block b.block && Nat.beq a.off b.off && a.spot.isNone && b.spot.isNone
def vs1 : Value → Value → Bool
  | .bool a, .bool b => a == b
  | .int k a, .int j b => decide (k = j) && decide (a = b)
  | .string a, .string b => bytesEq a b
  | .pointer none, .pointer none => true
  | .pointer (some a), .pointer (some b) => addrEq a b
  | .slice none l c, .slice none l' c' => Nat.beq l l' && Nat.beq c c'
  | .slice (some a) l c, .slice (some b) l' c' => addrEq a b && Nat.beq l l' && Nat.beq c c'
  | .map none, .map none => true
  | .map (some a), .map (some b) => Nat.beq a b
  | .nilFunc, .nilFunc => true
  | .nilIface, .nilIface => true
  | _, _ => false
def vsL : List Value → List Value → Bool
  | [], [] => true
  | a :: l, b :: m => vs1 a b && vsL l m
  | _, _ => false
def vsame : Value → Value → Bool
  | .agg a, .agg b => vsL a.toList b.toList
  | .tuple a, .tuple b => vsL a.toList b.toList
  | .iface t a, .iface u b => Nat.beq t u && vs1 a b
  | a, b => vs1 a b
theorem bytesEq_eq {a b : ByteArray} (h : bytesEq a b = true) : a = b := by
  have := of_decide_eq_true h
  cases a; cases b
  simp only [ByteArray.mk.injEq]
  exact Array.toList_inj.1 this
theorem addrEq_eq {a b : Addr} (h : addrEq a b = true) : a = b := by
  simp only [addrEq, Bool.and_eq_true, Nat.beq_eq] at h
  obtain ⟨⟨⟨h1, h2⟩, h3⟩, h4⟩ := h
  obtain ⟨b1, o1, s1⟩ := a
  obtain ⟨b2, o2, s2⟩ := b
  cases s1 <;> cases s2 <;> simp_all
theorem vs1_eq {a b : Value} (h : vs1 a b = true) : a = b := by
  unfold vs1 at h
  split at h <;> first
    | rfl
    | (simp at h; done)
    | (simp only [Bool.and_eq_true, Nat.beq_eq, beq_iff_eq, decide_eq_true_eq] at h; simp [h]; done)
    | (rw [bytesEq_eq h]; done)
    | (rw [addrEq_eq h]; done)
    | (simp only [Bool.and_eq_true, Nat.beq_eq] at h; obtain ⟨⟨h1, h2⟩, h3⟩ := h; rw [addrEq_eq h1, h2, h3]; done)
theorem vsL_eq {a b : List Value} (h : vsL a b = true) : a = b := by
  induction a generalizing b with
  | nil => cases b with | nil => rfl | cons x l => cases h
  | cons x l ih =>
    cases b with
    | nil => cases h
    | cons y m =>
      simp only [vsL, Bool.and_eq_true] at h
      rw [vs1_eq h.1, ih h.2]
theorem vsame_eq {a b : Value} (h : vsame a b = true) : a = b := by
  unfold vsame at h
  split at h
  · rw [Array.toList_inj.1 (vsL_eq h)]
  · rw [Array.toList_inj.1 (vsL_eq h)]
  · simp only [Bool.and_eq_true, Nat.beq_eq] at h; rw [h.1, vs1_eq h.2]
  · exact vs1_eq h

noncomputable def again (P : Program) (call : Callee) (ops : Array Oper) (R : PlanTab.Fr) (W : AW) (j : Nat) : Bool :=
  match ops[j]? with
  | none => false
  | some o => if wantedA ops R o then
      match aOpC P call o R W with
      | some (v, _) => (match o.dst with | some t => vsame v (rget R t) | none => true)
      | none => false
    else true
noncomputable def aPlan (P : Program) (call : Callee) (ops : Array Oper) : List (Nat × List Nat) → PlanTab.Fr → AW → Option (PlanTab.Fr × AW)
  | [], R, W => some (R, W)
  | (i, re) :: l, R, W => match ops[i]? with
    | none => none
    | some o => match aStep P call ops o R W with
      | some (R', W') => if re.all (again P call ops R' W') then aPlan P call ops l R' W' else none
      | none => none

theorem aOps_aPlan {P : Program} {call : Callee} {ops : Array Oper} : ∀ (l : List Nat) (R : PlanTab.Fr) (W : AW), (∀ i ∈ l, i < ops.size) →
    aPlan P call ops (l.map fun i => (i, [])) R W = aOps P call ops (l.filterMap fun i => ops[i]?) R W := by
  intro l
  induction l with
  | nil => intro R W _; rfl
  | cons i l ih =>
    intro R W h
    have hi : i < ops.size := h i (by simp)
    have hg : ops[i]? = some ops[i] := Array.getElem?_eq_getElem hi
    simp only [List.map_cons, aPlan, hg, List.filterMap_cons, aOps]
    split
    · rename_i R' W' hs
      simp only [List.all_nil, if_true]
      exact ih R' W' fun j hj => h j (by simp [hj])
    · rfl

theorem rget_rput_ne {R : PlanTab.Fr} {d : Option Tmp} {v : Value} {t : Tmp} (h : d ≠ some t) : rget (rput R d v) t = rget R t := by
  cases d with
  | none => rfl
  | some d => exact rget_rset_ne R v (fun e => h (by rw [e]))
theorem rget_rput {R : PlanTab.Fr} {d : Option Tmp} {v : Value} {t : Tmp} (h : d = some t) : rget (rput R d v) t = v := by
  subst h; exact rget_rset R t v
theorem put_getD_ne {a : Act} {d : Option Tmp} {v : Value} {t : Tmp} (h : d ≠ some t) : (a.put d v).tmps.getD t undef = a.tmps.getD t undef := by
  cases d with
  | none => rfl
  | some d =>
    have : d ≠ t := fun e => h (by rw [e])
    simp [Act.put, Array.getElem?_setIfInBounds_ne this]
theorem put_getD {a : Act} {d : Option Tmp} {v : Value} {t : Tmp} (h : d = some t) (ht : t < a.tmps.size) : (a.put d v).tmps.getD t undef = v := by
  subst h
  simp [Act.put, Array.getElem?_setIfInBounds, ht]
theorem put_size {a : Act} {d : Option Tmp} {v : Value} : (a.put d v).tmps.size = a.tmps.size := by cases d <;> simp [Act.put]
end Go.Eng
