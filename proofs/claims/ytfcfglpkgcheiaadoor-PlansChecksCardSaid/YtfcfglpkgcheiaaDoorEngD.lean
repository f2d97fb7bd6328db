/- Operations on plain values; slices, append, make, build. -/
import Derived.Test.YtfcfglpkgcheiaaDoorEngC
namespace Go.Eng
open Go
set_option linter.unusedSectionVars false
variable [PlanTab]
set_option linter.unusedSimpArgs false

/-! ### the model's own operations, where they ask nothing of the world -/
noncomputable def pureRun (P : Program) {α : Type} (s : Sem α) : Option α :=
  Sem.rec (motive := fun _ => Option α) (fun a => some a) (fun _ _ _ _ => none) (fun _ _ _ _ _ => none) (fun _ _ _ => none) (fun _ _ _ => none) (fun _ _ _ _ => none) (fun _ _ _ => none) (fun _ _ _ => none) (fun _ _ _ _ => none) (fun _ _ _ => none) (fun _ _ _ => none) (fun _ ih => ih P) (fun _ _ _ => none) (fun _ => none) s
theorem pureRun_run {P : Program} {α : Type} (s : Sem α) {a : α} (h : pureRun P s = some a) (w : World) : s.run P w = .ok a w := by
  induction s generalizing w with
  | pure b => simp only [pureRun] at h; injection h with h; subst h; rfl
  | program k ih => exact ih P h w
  | load m b k ih => simp [pureRun] at h
  | store m b v k ih => simp [pureRun] at h
  | new o k ih => simp [pureRun] at h
  | shape r k ih => simp [pureRun] at h
  | freeze b n k ih => simp [pureRun] at h
  | frozen b k ih => simp [pureRun] at h
  | getObj r k ih => simp [pureRun] at h
  | setObj r o k ih => simp [pureRun] at h
  | choose q k ih => simp [pureRun] at h
  | sys c k ih => simp [pureRun] at h
  | mark m k ih => simp [pureRun] at h
  | halt x => simp [pureRun] at h

noncomputable def aEval (R : PlanTab.Fr) (o : Operand) : Value :=
  match o with
  | .tmp t => rget R t
  | .const v => v
  | .global g => .pointer (some ⟨g, 0, none⟩)
  | .func f => .func (.func f) #[] #[]
theorem aEval_rel {nt : Nat} {ng : List Nat} {σ : Inj} {R : PlanTab.Fr} {a : Act} (hR : RegRel nt σ R a.tmps) (hG : Glob σ ng) {o : Operand} (ho : okOperand nt ng o = true) : VR σ (aEval R o) (a.eval o) := by
  cases o with
  | tmp t => exact hR.2 t (by simpa [okOperand] using ho)
  | const v => exact plain_refl ho
  | global g =>
    obtain ⟨e, he⟩ := hG g (inL_iff.1 ho)
    have := VR.ptr (σ := σ) ⟨g, 0, none⟩ _ he rfl
    simpa [aEval, Act.eval] using this
  | func f => exact .func _ _ _ _ _ _ (.func f) rfl (fun i v v' h => by simp at h) rfl (fun i v v' h => by simp at h)

noncomputable def nextVal : Option Next → Option Value
  | some (.value v) => some v
  | _ => none
def notSelect : Op → Bool
  | .select .. => false
  | _ => true
noncomputable def aPure (P : Program) (R : PlanTab.Fr) (o : Oper) : Option Value :=
  if notSelect o.op && o.op.operands.toList.all (fun x => plain (aEval R x)) then
    match nextVal (pureRun P (execOp (aEval R) o)) with
    | some v => if plain v then some v else none
    | none => none
  else none
theorem aPure_run {P : Program} {σ : Inj} {R : PlanTab.Fr} {ρ : Operand → Value} {o : Oper} {v : Value} (h : aPure P R o = some v)
    (hρ : ∀ x ∈ o.op.operands, VR σ (aEval R x) (ρ x)) (w : World) : (execOp ρ o).run P w = .ok (.value v) w ∧ VR σ v v := by
  unfold aPure at h
  split at h
  · rename_i hc
    simp only [Bool.and_eq_true, List.all_eq_true] at hc
    obtain ⟨hns, hpl⟩ := hc
    have hcong : execOp (aEval R) o = execOp ρ o := execOp_congr o (fun cs b e => by rw [e] at hns; simp [notSelect] at hns) (fun x hx => (plain_eq (hpl x (by simpa using hx)) (hρ x hx)).symm)
    rw [hcong] at h
    split at h
    · rename_i u hu
      split at h
      · rename_i hp
        injection h with h
        subst h
        cases hr : pureRun P (execOp ρ o) with
        | none => rw [hr] at hu; cases hu
        | some nx =>
          rw [hr] at hu
          cases nx <;> first | (simp only [nextVal] at hu; injection hu with hu; subst hu; exact ⟨pureRun_run _ hr w, plain_refl hp⟩) | (simp [nextVal] at hu)
      · cases h
    · cases h
  · cases h

/-! ### arrays of values -/
def AR (σ : Inj) (a a' : Array Value) : Prop := LR σ a.toList a'.toList
theorem AR.size {σ : Inj} {a a' : Array Value} (h : AR σ a a') : a.size = a'.size := by have := h.1; simpa using this
theorem AR.set {σ : Inj} {a a' : Array Value} (h : AR σ a a') (n : Nat) {x x' : Value} (hx : VR σ x x') : AR σ (a.setIfInBounds n x) (a'.setIfInBounds n x') := by
  unfold AR
  simp only [Array.toList_setIfInBounds]
  exact LR.set h n hx
theorem fold_set {σ : Inj} (off : Nat) : ∀ (l l' : List Value) (k : Nat) (a a' : Array Value), LR σ l l' → AR σ a a' →
    AR σ ((l.zipIdx k).foldl (fun cs p => cs.setIfInBounds (off + p.2) p.1) a) ((l'.zipIdx k).foldl (fun cs p => cs.setIfInBounds (off + p.2) p.1) a') := by
  intro l
  induction l with
  | nil => intro l' k a a' h ha; have := h.of_nil; subst this; exact ha
  | cons v l ih =>
    intro l' k a a' h ha
    obtain ⟨v', l'', rfl, hv, hl⟩ := h.of_cons
    simp only [List.zipIdx_cons, List.foldl_cons]
    exact ih l'' (k + 1) _ _ hl (ha.set _ hv)
/-- the parts of a literal -/
def PR (σ : Inj) (ps ps' : List (Nat × Value)) : Prop := ps.length = ps'.length ∧ ∀ (i : Nat) (p p' : Nat × Value), ps[i]? = some p → ps'[i]? = some p' → p.1 = p'.1 ∧ VR σ p.2 p'.2
theorem PR.of_cons {σ : Inj} {p : Nat × Value} {l m : List (Nat × Value)} (h : PR σ (p :: l) m) : ∃ v' l', m = (p.1, v') :: l' ∧ VR σ p.2 v' ∧ PR σ l l' := by
  cases m with
  | nil => have := h.1; simp at this
  | cons q l' =>
    have h0 := h.2 0 p q (by simp) (by simp)
    refine ⟨q.2, l', ?_, h0.2, by have := h.1; simpa using this, fun i u u' a b => h.2 (i + 1) u u' (by simpa using a) (by simpa using b)⟩
    rw [h0.1]
theorem fill_rel {σ : Inj} (place : Nat → Option (Nat × Nat)) : ∀ (ps ps' : List (Nat × Value)) (a a' out : Array Value), PR σ ps ps' → AR σ a a' → Instr.fill place a ps = some out →
    ∃ out', Instr.fill place a' ps' = some out' ∧ AR σ out out' := by
  intro ps
  induction ps with
  | nil =>
    intro ps' a a' out h ha hf
    have : ps' = [] := by have := h.1; simp at this; exact List.eq_nil_of_length_eq_zero this.symm
    subst this
    simp only [Instr.fill] at hf ⊢
    injection hf with hf
    subst hf
    exact ⟨a', rfl, ha⟩
  | cons p ps ih =>
    intro ps' a a' out h ha hf
    obtain ⟨v', l', rfl, hv, hl⟩ := h.of_cons
    obtain ⟨i, v⟩ := p
    simp only [Instr.fill] at hf ⊢
    cases hp : place i with
    | none => rw [hp] at hf; cases hf
    | some os =>
      obtain ⟨off, size⟩ := os
      rw [hp] at hf
      simp only at hf ⊢
      have hcs : v.cells.size = v'.cells.size := by have := hv.cells.1; simpa using this
      rw [← hcs, ← ha.size]
      split at hf
      · cases hf
      · rename_i hcond
        rw [if_neg hcond]
        refine ih l' _ _ out hl ?_ hf
        have := fold_set off v.cells.toList v'.cells.toList 0 a a' hv.cells ha
        have e1 : ∀ (u : Value) (b : Array Value), Array.foldl (fun cs (x : Value × Nat) => cs.setIfInBounds (off + x.2) x.1) b u.cells.zipIdx = (u.cells.toList.zipIdx 0).foldl (fun cs p => cs.setIfInBounds (off + p.2) p.1) b := fun u b => by
          rw [← Array.foldl_toList, Array.toList_zipIdx]
        rw [← e1, ← e1] at this
        exact this

section
variable {P : Program} {σ : Inj} {W : AW} {w : World}

def tZero (P : Program) (t : TypeId) : Option Value := match (P.info? t).bind (·.zero) with | some z => if z.cells.toList.all scalar then some z else none | none => none
theorem tZero_run {t : TypeId} {z : Value} (h : tZero P t = some z) (w : World) : (zeroValue t).run P w = .ok z w ∧ z.cells.toList.all scalar = true := by
  unfold tZero at h
  split at h
  · rename_i z0 hz
    split at h
    · rename_i hs
      injection h with h
      subst h
      cases hi : P.info? t with
      | none => rw [hi] at hz; cases hz
      | some i =>
        rw [hi] at hz
        simp only [Option.bind_some] at hz
        exact ⟨by simp [zeroValue, typeInfo, hi, hz], hs⟩
    · cases h
  · cases h
theorem zero_AR {z : Value} (h : z.cells.toList.all scalar = true) : AR σ z.cells z.cells := LR.refl_of (fun _ => scalar_refl) h

/-! ### build -/
noncomputable def parts (R : PlanTab.Fr) (ps : Array (Nat × Operand)) : List (Nat × Value) := ps.toList.map fun p => (p.1, aEval R p.2)
theorem parts_rel {R : PlanTab.Fr} {ρ : Operand → Value} (ps : Array (Nat × Operand)) (h : ∀ p ∈ ps.toList, VR σ (aEval R p.2) (ρ p.2)) :
    PR σ (parts R ps) (ps.map fun (i, x) => (i, ρ x)).toList := by
  refine ⟨by simp [parts], fun i p p' a b => ?_⟩
  simp only [parts, List.getElem?_map, Array.toList_map] at a b
  cases hq : ps.toList[i]? with
  | none => rw [hq] at a; cases a
  | some q =>
    rw [hq] at a b
    simp at a b
    subst a
    subst b
    exact ⟨rfl, h q (List.mem_of_getElem? hq)⟩
def placesOf (P : Program) : List Field → Option (List (Nat × Nat))
  | [] => some []
  | f :: fs => match tSz P f.type, placesOf P fs with
    | some n, some l => some ((f.offset, n) :: l)
    | _, _ => none
theorem placesOf_run : ∀ (fs : List Field) (l : List (Nat × Nat)), placesOf P fs = some l → ∀ w, ((fs.mapM fun f => do pure (f.offset, ← sizeOf f.type)) : Sem (List (Nat × Nat))).run P w = .ok l w := by
  intro fs
  induction fs with
  | nil => intro l h w; simp only [placesOf] at h; injection h with h; subst h; simp [List.mapM_nil]
  | cons f fs ih =>
    intro l h w
    simp only [placesOf] at h
    split at h
    · rename_i n m hn hm
      injection h with h
      subst h
      have h2 := ih m hm w
      simp only [List.mapM_cons, Sem.run_bind, run_sizeOf' hn, Result.andThen_ok, Sem.run_pure, h2]
    · cases h
/- filling, told quickly -/
noncomputable def lputU (vs : List Value) : List Value → Option (List Value) :=
  List.rec (motive := fun _ => List Value → Option (List Value)) (fun cs => some cs)
    (fun v _ ih cs => List.rec (motive := fun _ => Option (List Value)) none (fun _ t _ => Option.rec (motive := fun _ => Option (List Value)) none (fun r => some (v :: r)) (ih t)) cs) vs
theorem lputU_eq (vs : List Value) : ∀ cs, lputU vs cs = if vs.length ≤ cs.length then some (vs ++ cs.drop vs.length) else none := by
  induction vs with
  | nil => intro cs; simp [lputU]
  | cons v vs ih =>
    intro cs
    cases cs with
    | nil => simp [lputU]
    | cons c t =>
      show Option.rec (motive := fun _ => Option (List Value)) none (fun r => some (v :: r)) (lputU vs t) = _
      rw [ih t]
      by_cases h : vs.length ≤ t.length
      · rw [if_pos h, if_pos (by simp only [List.length_cons]; omega)]; simp
      · rw [if_neg h, if_neg (by simp only [List.length_cons]; omega)]
noncomputable def lwriteU (cs : List Value) : Nat → List Value → Option (List Value) :=
  List.rec (motive := fun _ => Nat → List Value → Option (List Value)) (fun n vs => Nat.rec (motive := fun _ => Option (List Value)) (lputU vs []) (fun _ _ => none) n)
    (fun c t ih n vs => Nat.rec (motive := fun _ => Option (List Value)) (lputU vs (c :: t)) (fun m _ => Option.rec (motive := fun _ => Option (List Value)) none (fun r => some (c :: r)) (ih m vs)) n) cs
theorem lwriteU_eq (cs : List Value) : ∀ (off : Nat) (vs : List Value), lwriteU cs off vs = if off + vs.length ≤ cs.length then some (setN cs off vs) else none := by
  induction cs with
  | nil =>
    intro off vs
    cases off with
    | zero => show lputU vs [] = _; rw [lputU_eq]; simp [setN]
    | succ n => show (none : Option (List Value)) = _; rw [if_neg (by simp)]
  | cons c t ih =>
    intro off vs
    cases off with
    | zero => show lputU vs (c :: t) = _; rw [lputU_eq]; simp [setN]
    | succ n =>
      show Option.rec (motive := fun _ => Option (List Value)) none (fun r => some (c :: r)) (lwriteU t n vs) = _
      rw [ih n vs]
      have e : n + 1 + vs.length = (n + vs.length) + 1 := by omega
      by_cases h : n + vs.length ≤ t.length
      · rw [if_pos h, if_pos (by simp only [List.length_cons]; omega)]
        simp [setN, e]
      · rw [if_neg h, if_neg (by simp only [List.length_cons]; omega)]
theorem setN_set (cs : List Value) (o : Nat) (v : Value) (vs : List Value) (h : o + (vs.length + 1) ≤ cs.length) : setN (cs.set o v) (o + 1) vs = setN cs o (v :: vs) := by
  unfold setN
  apply List.ext_getElem?
  intro i
  rw [list_seg _ _ _ (by rw [List.length_set]; omega), list_seg _ _ _ (by simp only [List.length_cons]; omega)]
  by_cases h1 : i = o
  · subst h1
    rw [if_neg (by omega), if_pos (by simp only [List.length_cons]; omega), List.getElem?_set]
    simp; omega
  · by_cases h2 : o + 1 ≤ i ∧ i < o + 1 + vs.length
    · rw [if_pos h2, if_pos (by simp only [List.length_cons]; omega)]
      obtain ⟨k, rfl⟩ : ∃ k, i = o + 1 + k := ⟨i - (o + 1), by omega⟩
      rw [show o + 1 + k - (o + 1) = k by omega, show o + 1 + k - o = k + 1 by omega, List.getElem?_cons_succ]
    · rw [if_neg h2, if_neg (by simp only [List.length_cons]; omega), List.getElem?_set, if_neg (fun e => h1 e.symm)]
theorem fold_setN (off : Nat) : ∀ (vs : List Value) (k : Nat) (cells : Array Value), off + k + vs.length ≤ cells.size →
    (List.foldl (fun (cs : Array Value) (p : Value × Nat) => cs.setIfInBounds (off + p.2) p.1) cells (vs.zipIdx k)).toList = setN cells.toList (off + k) vs
  | [], k, cells, _ => by simp [setN]
  | v :: vs, k, cells, h => by
    rw [List.zipIdx_cons, List.foldl_cons, fold_setN off vs (k + 1) _ (by simp only [Array.size_setIfInBounds]; simp only [List.length_cons] at h; omega)]
    rw [Array.toList_setIfInBounds]
    exact setN_set _ _ _ _ (by simp only [List.length_cons] at h; simp; omega)
noncomputable def fillF (place : Nat → Option (Nat × Nat)) : List (Nat × Value) → List Value → Option (List Value)
  | [], cells => some cells
  | (i, v) :: rest, cells => match place i with
    | none => none
    | some (off, size) => match Nat.beq v.cells.size size with
      | true => (match lwriteU cells off v.cells.toList with
        | some c => fillF place rest c
        | none => none)
      | false => none
noncomputable def fillQ (place : Nat → Option (Nat × Nat)) (cells : Array Value) (l : List (Nat × Value)) : Option (Array Value) := (fillF place l cells.toList).map List.toArray
theorem fillQ_eq (place : Nat → Option (Nat × Nat)) : ∀ (l : List (Nat × Value)) (cells : Array Value), fillQ place cells l = Instr.fill place cells l
  | [], cells => by simp [fillQ, fillF, Instr.fill]
  | (i, v) :: rest, cells => by
    unfold Instr.fill
    show (fillF place ((i, v) :: rest) cells.toList).map List.toArray = _
    unfold fillF
    cases place i with
    | none => rfl
    | some p =>
      obtain ⟨off, size⟩ := p
      simp only
      by_cases hs : v.cells.size = size
      · have hb : Nat.beq v.cells.size size = true := by rw [Nat.beq_eq]; exact hs
        rw [hb]
        simp only
        rw [lwriteU_eq]
        by_cases hl : off + v.cells.size ≤ cells.size
        · rw [if_pos (by simpa using hl), if_neg (by simp [hs]; omega)]
          simp only
          rw [← fillQ_eq place rest]
          show _ = (fillF place rest _).map List.toArray
          congr 2
          have hf := fold_setN off v.cells.toList 0 cells (by simpa using hl)
          rw [Nat.add_zero] at hf
          rw [← hf, ← Array.foldl_toList, Array.toList_zipIdx]
        · rw [if_neg (by simpa using hl), if_pos (by simp [hs]; omega)]
          rfl
      · have hb : Nat.beq v.cells.size size = false := by
          cases hq : Nat.beq v.cells.size size with
          | false => rfl
          | true => exact absurd (Nat.eq_of_beq_eq_true hq) hs
        rw [hb, if_pos (by simp [hs])]
        rfl
noncomputable def aBuild (P : Program) (R : PlanTab.Fr) (t : TypeId) (ps : Array (Nat × Operand)) : Option Value :=
  match tZero P t, P.underlying t with
  | some z, some (.struct fs) => match placesOf P fs.toList with
    | some pl => (fillQ (pl.toArray[·]?) z.cells (parts R ps)).map .agg
    | none => none
  | some z, some (.array _ e) => match tSz P e with
    | some n => (fillQ (fun i => some (i * n, n)) z.cells (parts R ps)).map .agg
    | none => none
  | _, _ => none
theorem aBuild_run {R : PlanTab.Fr} {ρ : Operand → Value} {t : TypeId} {ps : Array (Nat × Operand)} {v : Value} (h : aBuild P R t ps = some v)
    (hρ : ∀ p ∈ ps.toList, VR σ (aEval R p.2) (ρ p.2)) (w : World) :
    ∃ v', (Instr.build t (ps.map fun (i, x) => (i, ρ x))).run P w = .ok v' w ∧ VR σ v v' := by
  have hp := parts_rel (σ := σ) (R := R) (ρ := ρ) ps hρ
  unfold aBuild at h
  simp only [fillQ_eq] at h
  split at h
  · rename_i z fs hz hu
    obtain ⟨hz1, hz2⟩ := tZero_run hz w
    split at h
    · rename_i pl hpl
      cases hf : Instr.fill (pl.toArray[·]?) z.cells (parts R ps) with
      | none => rw [hf] at h; cases h
      | some out =>
        rw [hf] at h
        simp only [Option.map_some, Option.some.injEq] at h
        subst h
        obtain ⟨out', h1, h2⟩ := fill_rel _ _ _ _ _ _ hp (zero_AR hz2) hf
        have hm := placesOf_run fs.toList pl hpl w
        refine ⟨.agg out', ?_, VR.agg' h2⟩
        have hm' : ((fs.mapM fun f => do pure (f.offset, ← sizeOf f.type)) : Sem (Array (Nat × Nat))).run P w = .ok pl.toArray w := by
          rw [Array.mapM_eq_mapM_toList]
          simp only [Sem.run_map, hm, Result.andThen_ok]
        simp only [Instr.build, Sem.run_bind, hz1, Result.andThen_ok, run_underlying hu, hm', h1, Sem.run_pure]
    · cases h
  · rename_i z len e hz hu
    obtain ⟨hz1, hz2⟩ := tZero_run hz w
    split at h
    · rename_i n hn
      cases hf : Instr.fill (fun i => some (i * n, n)) z.cells (parts R ps) with
      | none => rw [hf] at h; cases h
      | some out =>
        rw [hf] at h
        simp only [Option.map_some, Option.some.injEq] at h
        subst h
        obtain ⟨out', h1, h2⟩ := fill_rel _ _ _ _ _ _ hp (zero_AR hz2) hf
        exact ⟨.agg out', by simp only [Instr.build, Sem.run_bind, hz1, Result.andThen_ok, run_underlying hu, run_sizeOf' hn, h1, Sem.run_pure], VR.agg' h2⟩
    · cases h
  · cases h

/-- rows of zero values -/
noncomputable def zrow (z : Value) (n : Nat) : Array Value := (Array.range n).map (z.cells[· % z.cells.size]!)
noncomputable def rowOf (z : Value) (n : Nat) : Array Value := if n = 0 then #[] else zrow z n
theorem rowOf_zero {z : Value} {n : Nat} (h : n = 0) : rowOf z n = #[] := if_pos h
theorem rowOf_pos {z : Value} {n : Nat} (h : n ≠ 0) : rowOf z n = zrow z n := if_neg h
noncomputable def aBuildSliceO (P : Program) (R : PlanTab.Fr) (W : AW) (t : TypeId) (len : Nat) (ps : Array (Nat × Operand)) : Option (Value × AW) :=
  match P.underlying t with
  | some (.slice e) => match tSz P e, tZero P e with
    | some n, some z =>
      if len * n ≤ 16777216 ∧ len < BIG ∧ (rowOf z (len * n)).toList.all scalar = true then
        match Instr.fill (fun i => some (i * n, n)) (rowOf z (len * n)) (parts R ps) with
        | some c => some (W.new (.cells c.toList) fun b W' => (Value.slice (some ⟨b, 0, none⟩) len len, W'))
        | none => none
      else none
    | _, _ => none
  | _ => none
/-- rows of zero values, told quickly -/
noncomputable def rowL (cs : List Value) (len : Nat) : List Value := Nat.rec (motive := fun _ => List Value) [] (fun _ ih => cs ++ ih) len
theorem rowL_get (cs : List Value) : ∀ (len i : Nat), i < len * cs.length → (rowL cs len)[i]? = cs[i % cs.length]?
  | 0, i, h => by simp at h
  | len + 1, i, h => by
    show (cs ++ rowL cs len)[i]? = _
    by_cases hi : i < cs.length
    · rw [List.getElem?_append_left hi, Nat.mod_eq_of_lt hi]
    · have h1 : len * cs.length + cs.length = (len + 1) * cs.length := by rw [Nat.add_mul, Nat.one_mul]
      rw [List.getElem?_append_right (by omega), rowL_get cs len (i - cs.length) (by omega)]
      congr 1
      have h2 : i = (i - cs.length) + cs.length := by omega
      generalize i - cs.length = j at h2
      rw [h2, Nat.add_mod_right]
theorem rowL_length (cs : List Value) : ∀ len, (rowL cs len).length = len * cs.length
  | 0 => by show ([] : List Value).length = _; simp
  | len + 1 => by
    show (cs ++ rowL cs len).length = _
    rw [List.length_append, rowL_length cs len, Nat.add_mul, Nat.one_mul, Nat.add_comm]
theorem rowL_all (cs : List Value) (p : Value → Bool) (h : cs.all p = true) : ∀ len, (rowL cs len).all p = true
  | 0 => rfl
  | len + 1 => by
    show (cs ++ rowL cs len).all p = true
    rw [List.all_append, h, rowL_all cs p h len]; rfl
theorem rowOf_eq {z : Value} {len n : Nat} (hn : z.cells.size = n) : rowOf z (len * n) = (rowL z.cells.toList len).toArray := by
  have hl : z.cells.toList.length = n := by simpa using hn
  apply Array.ext'
  apply List.ext_getElem?
  intro i
  unfold rowOf
  split
  · rename_i h0
    have : (rowL z.cells.toList len).length = 0 := by rw [rowL_length, hl, h0]
    rw [List.length_eq_zero_iff.1 this]
  · rename_i h0
    by_cases hi : i < len * n
    · have e1 : (zrow z (len * n)).toList[i]? = some (z.cells[i % z.cells.size]!) := by
        simp [zrow, hi]
      have hpos : 0 < n := by
        rcases Nat.eq_zero_or_pos n with h | h
        · subst h; simp at h0
        · exact h
      have hm : i % n < z.cells.size := by rw [hn]; exact Nat.mod_lt _ hpos
      rw [e1, List.toList_toArray, rowL_get _ _ _ (by rw [hl]; exact hi), hl, hn]
      simp [hm]
    · rw [List.getElem?_eq_none (by simp [zrow]; omega), List.toList_toArray, List.getElem?_eq_none (by rw [rowL_length, hl]; omega)]
noncomputable def aBuildSlice (P : Program) (R : PlanTab.Fr) (W : AW) (t : TypeId) (len : Nat) (ps : Array (Nat × Operand)) : Option (Value × AW) :=
  match P.underlying t with
  | some (.slice e) => match tSz P e, tZero P e with
    | some n, some z =>
      if len * n ≤ 16777216 ∧ len < BIG ∧ (Nat.beq z.cells.size n && z.cells.toList.all scalar) = true then
        match fillQ (fun i => some (i * n, n)) (rowL z.cells.toList len).toArray (parts R ps) with
        | some c => some (W.new (.cells c.toList) fun b W' => (Value.slice (some ⟨b, 0, none⟩) len len, W'))
        | none => none
      else none
    | _, _ => none
  | _ => none
theorem aBuildSlice_imp {P : Program} {R : PlanTab.Fr} {W : AW} {t : TypeId} {len : Nat} {ps : Array (Nat × Operand)} {r : Value × AW} (h : aBuildSlice P R W t len ps = some r) : aBuildSliceO P R W t len ps = some r := by
  unfold aBuildSlice at h
  simp only [fillQ_eq] at h
  unfold aBuildSliceO
  revert h
  generalize P.underlying t = u
  intro h
  split at h
  · rename_i e
    revert h
    generalize tSz P e = x
    generalize tZero P e = y
    intro h
    split at h
    · rename_i n z
      split at h
      · rename_i hc
        obtain ⟨hc1, hc2, hc3⟩ := hc
        rw [Bool.and_eq_true, Nat.beq_eq] at hc3
        have hrow := rowOf_eq (len := len) hc3.1
        try simp only
        rw [hrow, if_pos ⟨hc1, hc2, by rw [List.toList_toArray]; exact rowL_all _ _ hc3.2 _⟩]
        exact h
      · cases h
    · cases h
  · cases h
theorem aBuildSlice_run (hW : WRel σ W w.heap) {R : PlanTab.Fr} {ρ : Operand → Value} {t : TypeId} {len : Nat} {ps : Array (Nat × Operand)} {v : Value} {W' : AW}
    (h : aBuildSlice P R W t len ps = some (v, W')) (hρ : ∀ p ∈ ps.toList, VR σ (aEval R p.2) (ρ p.2)) :
    ∃ σ' v' w', (Instr.buildSlice t len (ps.map fun (i, x) => (i, ρ x))).run P w = .ok v' w' ∧ VR σ' v v' ∧ WRel σ' W' w'.heap ∧ Ext σ W w σ' W' w' := by
  have hp := parts_rel (σ := σ) (R := R) (ρ := ρ) ps hρ
  replace h := aBuildSlice_imp h
  unfold aBuildSliceO at h
  split at h
  · rename_i e hu
    split at h
    · rename_i n z hn hz
      obtain ⟨hz1, hz2⟩ := tZero_run hz w
      split at h
      · rename_i hc
        obtain ⟨hc1, hc2, hc3⟩ := hc
        split at h
        · rename_i c hf
          injection h with h
          rw [AW.new_eq] at h
          injection h with hv hw
          obtain ⟨out', h1, h2⟩ := fill_rel _ _ _ _ _ _ hp (LR.refl_of (σ := σ) (fun _ => scalar_refl) hc3) hf
          have hnr := newRow_run (P := P) hW e (cs := c.toList) (cs' := out'.toList) h2
          refine ⟨_, .slice (some ⟨w.heap.size, 0, none⟩) len len, { w with heap := w.heap.push (.cells out'.toList.toArray e) }, ?_, ?_, by rw [← hw]; exact hnr.2.2.1, by rw [← hw]; exact hnr.2.2.2⟩
          · show (Instr.buildSlice t len _).run P w = .ok (.slice (some ⟨w.heap.size, 0, none⟩) len len) _
            have hlim : ¬ len * n > 2 ^ 24 := by omega
            have hnr1 := hnr.1
            simp only [Array.toArray_toList] at hnr1
            by_cases h0 : len * n = 0
            · rw [rowOf_zero h0] at h1
              simp only [Instr.buildSlice, Sem.run_bind, run_underlying hu, Result.andThen_ok, run_sizeOf' hn, if_neg hlim, Sem.run_pure, if_pos h0]
              rw [show (Array.map (fun x => (#[] : Array Value)[x % (#[] : Array Value).size]!) (Array.range (len * n))) = #[] by rw [h0]; simp, h1]
              simp [hnr1]
            · rw [rowOf_pos h0] at h1
              simp only [Instr.buildSlice, Sem.run_bind, run_underlying hu, Result.andThen_ok, run_sizeOf' hn, if_neg hlim, Sem.run_pure, if_neg h0, hz1]
              rw [show (Array.map (fun x => z.cells[x % z.cells.size]!) (Array.range (len * n))) = zrow z (len * n) from rfl, h1]
              simp [hnr1]
          · rw [← hv]
            have := VR.slice (σ := bind1 σ W.next ⟨w.heap.size, 0, c.toList.length⟩) ⟨W.next, 0, none⟩ len len len _ hnr.2.1 rfl (.known len hc2)
            simpa using this
        · cases h
      · cases h
    · cases h
  · cases h

noncomputable def aMakeSlice (P : Program) (W : AW) (t : TypeId) (l c : Value) : Option (Value × AW) :=
  match P.underlying t with
  | some (.slice e) => match tSz P e, tZero P e, (P.info? e).map (·.bytes), l, c with
    | some n, some z, some bytes, .int _ (.ofNat l), .int _ (.ofNat c) =>
      if l ≤ c ∧ c < 9223372036854775808 ∧ c * bytes ≤ 281474976710656 ∧ (rowOf z (c * n)).toList.all scalar = true then
        some (W.new (.cells (rowOf z (c * n)).toList) fun b W' => (Value.slice (some ⟨b, 0, none⟩) l c, W'))
      else none
    | _, _, _, _, _ => none
  | _ => none
theorem wrap_nat {n : Nat} (h : n < 9223372036854775808) : IntKind.i64.wrap (n : Int) = n := by
  have e1 : IntKind.i64.bits = 64 := rfl
  have e2 : IntKind.i64.signed = true := rfl
  simp only [IntKind.wrap, e1, e2]
  have : (n : Int) % (2 ^ 64 : Int) = n := by omega
  rw [this]
  simp
  omega
theorem aMakeSlice_run (hW : WRel σ W w.heap) {t : TypeId} {l l' c c' : Value} {v : Value} {W' : AW}
    (h : aMakeSlice P W t l c = some (v, W')) (hl : VR σ l l') (hc : VR σ c c') :
    ∃ σ' v' w', (Instr.makeSlice t l' c').run P w = .ok v' w' ∧ VR σ' v v' ∧ WRel σ' W' w'.heap ∧ Ext σ W w σ' W' w' := by
  unfold aMakeSlice at h
  split at h
  · rename_i e hu
    split at h
    · rename_i n z bytes kl l kc c hn hz hb
      cases hl
      cases hc
      obtain ⟨hz1, hz2⟩ := tZero_run hz w
      split at h
      · rename_i hcond
        obtain ⟨c1, c2, c3, c4⟩ := hcond
        injection h with h
        rw [AW.new_eq] at h
        injection h with hv hw
        have hi : ∃ i, P.info? e = some i ∧ i.bytes = bytes := by
          cases hi : P.info? e with
          | none => rw [hi] at hb; cases hb
          | some i => rw [hi] at hb; simp at hb; exact ⟨i, rfl, hb⟩
        obtain ⟨i, hi, hib⟩ := hi
        have hrow : LR σ (rowOf z (c * n)).toList (rowOf z (c * n)).toList :=
          LR.refl_of (fun _ => scalar_refl) c4
        have hnr := newRow_run (P := P) hW e hrow
        refine ⟨_, .slice (some ⟨w.heap.size, 0, none⟩) l c, { w with heap := w.heap.push (.cells (rowOf z (c * n)).toList.toArray e) }, ?_, ?_, by rw [← hw]; exact hnr.2.2.1, by rw [← hw]; exact hnr.2.2.2⟩
        · show (Instr.makeSlice t _ _).run P w = .ok (.slice (some ⟨w.heap.size, 0, none⟩) l c) _
          have hwl : IntKind.i64.wrap (Int.ofNat l) = (l : Int) := wrap_nat (by omega)
          have hwc : IntKind.i64.wrap (Int.ofNat c) = (c : Int) := wrap_nat c2
          have hinfo : (typeInfo e).run P w = .ok i w := by simp [typeInfo, hi]
          have hmul : (bytes : Int) * (c : Int) ≤ 281474976710656 := by
            have : ((c * bytes : Nat) : Int) ≤ 281474976710656 := by omega
            rw [Int.natCast_mul, Int.mul_comm] at this
            exact this
          have hnr1 := hnr.1
          simp only [Array.toArray_toList] at hnr1
          have hcond2 : ¬ (((decide ((c : Int) < 0) || decide ((i.bytes : Int) * (c : Int) > 2 ^ 48)) || decide ((l : Int) < 0) || decide ((l : Int) > (c : Int))) = true) := by
            rw [hib]
            simp
            omega
          simp only [Instr.makeSlice, Sem.run_bind, run_underlying hu, Result.andThen_ok, asInt, asIntOf, Sem.run_pure, hinfo, hwl, hwc, run_sizeOf' hn]
          rw [if_neg (by simpa using hcond2)]
          by_cases h0 : c * n = 0
          · rw [rowOf_zero h0] at hnr1 ⊢
            simp only [Sem.run_bind, run_askRoom, Result.andThen_ok, Int.toNat_natCast, run_sizeOf' hn, if_pos h0, Sem.run_pure]
            rw [show (Array.map (fun x => (#[] : Array Value)[x % (#[] : Array Value).size]!) (Array.range (c * n))) = #[] by rw [h0]; simp, hnr1]
            simp
          · rw [rowOf_pos h0] at hnr1 ⊢
            simp only [Sem.run_bind, run_askRoom, Result.andThen_ok, Int.toNat_natCast, run_sizeOf' hn, if_neg h0, hz1, Sem.run_pure]
            rw [show (Array.map (fun x => z.cells[x % z.cells.size]!) (Array.range (c * n))) = zrow z (c * n) from rfl, hnr1]
            simp
        · rw [← hv]
          have := VR.slice (σ := bind1 σ W.next ⟨w.heap.size, 0, (rowOf z (c * n)).toList.length⟩) ⟨W.next, 0, none⟩ l c c _ hnr.2.1 rfl (.known c (by unfold BIG; omega))
          simpa using this
      · cases h
    · cases h
  · cases h
end
end Go.Eng
