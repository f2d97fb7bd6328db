/- A new block whose number was given out ahead. -/
import Derived.Test.YtfcfglpkgcheiaaDoorEngK
namespace Go.Eng
open Go
set_option linter.unusedSectionVars false
set_option linter.unusedSimpArgs false
variable [PlanTab]

theorem newRow_raw {P : Program} {σ : Inj} {b : Nat} (hb : σ b = none) (w : World) (t : TypeId) {cs cs' : List Value} (hc : LR σ cs cs') :
    (newRow t cs'.toArray).run P w = .ok ⟨w.heap.size, 0, none⟩ { w with heap := w.heap.push (.cells cs'.toArray t) } ∧
    ORel (bind1 σ b ⟨w.heap.size, 0, cs.length⟩) (w.heap.push (.cells cs'.toArray t)) ⟨w.heap.size, 0, cs.length⟩ (.cells cs) := by
  refine ⟨by simp [newRow], ⟨cs'.toArray, t, by simp, by simp, by simp [hc.1], fun i v hv => ?_⟩⟩
  obtain ⟨v', a, b⟩ := hc.get hv
  exact ⟨v', by simpa using a, b.mono (bind1_sub hb)⟩

/-- what a new block's operation does, wherever its number comes from -/
def Lays (P : Program) (R : PlanTab.Fr) (o : Oper) (obj : AObj) (mk : Nat → Value) : Prop :=
  ∀ (σ : Inj) (ρ : Operand → Value) (w : World) (b : Nat), (∀ x ∈ o.op.operands, VR σ (aEval R x) (ρ x)) → σ b = none →
    ∃ v' x e, (execOp ρ o).run P w = .ok (.value v') { w with heap := w.heap.push x } ∧ VR (bind1 σ b ⟨w.heap.size, 0, e⟩) (mk b) v' ∧ ORel (bind1 σ b ⟨w.heap.size, 0, e⟩) (w.heap.push x) ⟨w.heap.size, 0, e⟩ obj
theorem Lays.agree {P : Program} {R R' : PlanTab.Fr} {o : Oper} {obj : AObj} {mk : Nat → Value} (h : Lays P R o obj mk) (ha : Agree o R R') : Lays P R' o obj mk :=
  fun σ ρ w b hρ hb => h σ ρ w b (fun x hx => by rw [← ha x hx]; exact hρ x hx) hb
theorem lays_row {P : Program} {R : PlanTab.Fr} {o : Oper} {t : TypeId} {cs : List Value} (h : ∀ (σ : Inj) (ρ : Operand → Value) (w : World), (∀ x ∈ o.op.operands, VR σ (aEval R x) (ρ x)) →
    ∃ cs', LR σ cs cs' ∧ (execOp ρ o).run P w = ((do pure (.value (.pointer (some (← newRow t cs'.toArray))))) : Sem Next).run P w) :
    Lays P R o (.cells cs) (fun b => .pointer (some ⟨b, 0, none⟩)) := by
  intro σ ρ w b hρ hb
  obtain ⟨cs', hc, hr⟩ := h σ ρ w hρ
  obtain ⟨h1, h2⟩ := newRow_raw (P := P) hb w t hc
  refine ⟨.pointer (some ⟨w.heap.size, 0, none⟩), .cells cs'.toArray t, cs.length, by rw [hr]; simp only [Sem.run_bind, h1, Result.andThen_ok, Sem.run_pure], ?_, h2⟩
  have := VR.ptr (σ := bind1 σ b ⟨w.heap.size, 0, cs.length⟩) ⟨b, 0, none⟩ _ bind1_same rfl
  simpa using this

set_option maxHeartbeats 1000000 in
theorem lay_step {P : Program} {call : Callee} {o : Oper} {R : PlanTab.Fr} {W W1 : AW} {v : Value} (hk : kindE o = 2) (h : aOpC P call o R W = some (v, W1)) :
    ∃ obj mk, (∀ cs, obj ≠ .ro cs) ∧ v = mk W.next ∧ W1 = W.add obj ∧ Lays P R o obj mk := by
  obtain ⟨dst, op, type, pos, after, guard⟩ := o
  cases op <;> simp only [kindE] at hk <;> (try (exfalso; omega)) <;> simp only [aOpC_eq, aOpS, aOp] at h
  case alloc t =>
    split at h
    · rename_i z hz
      injection h with h
      rw [AW.new_eq] at h
      injection h with h1 h2
      refine ⟨.cells z.cells.toList, fun b => .pointer (some ⟨b, 0, none⟩), fun _ => by simp, h1.symm, h2.symm, lays_row (t := t) fun σ ρ w hρ => ?_⟩
      obtain ⟨hz1, hz2⟩ := tZero_run hz w
      refine ⟨z.cells.toList, zero_AR hz2, ?_⟩
      simp [execOp, Instr.alloc, hz1, newVar]
    · cases h
  case box t x =>
    injection h with h
    rw [AW.new_eq] at h
    injection h with h1 h2
    refine ⟨.cells (aEval R x).cells.toList, fun b => .pointer (some ⟨b, 0, none⟩), fun _ => by simp, h1.symm, h2.symm, lays_row (t := t) fun σ ρ w hρ => ?_⟩
    refine ⟨(ρ x).cells.toList, (hρ x (by simp [Op.operands])).cells, ?_⟩
    simp [execOp, Instr.box, newVar]
  case buildSlice t len ps =>
    replace h := aBuildSlice_imp h
    unfold aBuildSliceO at h
    split at h
    · rename_i e hu
      split at h
      · rename_i n z hn hz
        split at h
        · rename_i hc
          obtain ⟨hc1, hc2, hc3⟩ := hc
          split at h
          · rename_i c hf
            injection h with h
            rw [AW.new_eq] at h
            injection h with h1 h2
            refine ⟨.cells c.toList, fun b => .slice (some ⟨b, 0, none⟩) len len, fun _ => by simp, h1.symm, h2.symm, ?_⟩
            intro σ ρ w b hρ hb
            have hp := parts_rel (σ := σ) (R := R) (ρ := ρ) ps (fun p hp => hρ p.2 (by simp [Op.operands]; exact ⟨p.1, by simpa using hp⟩))
            obtain ⟨hz1, hz2⟩ := tZero_run hz w
            obtain ⟨out', h1, h2⟩ := fill_rel _ _ _ _ _ _ hp (LR.refl_of (σ := σ) (fun _ => scalar_refl) hc3) hf
            obtain ⟨k1, k2⟩ := newRow_raw (P := P) hb w e (cs := c.toList) (cs' := out'.toList) h2
            refine ⟨.slice (some ⟨w.heap.size, 0, none⟩) len len, .cells out'.toList.toArray e, c.toList.length, ?_, ?_, k2⟩
            · have hlim : ¬ len * n > 2 ^ 24 := by omega
              simp only [Array.toArray_toList] at k1
              have : (Instr.buildSlice t len (ps.map fun (i, x) => (i, ρ x))).run P w = .ok (.slice (some ⟨w.heap.size, 0, none⟩) len len) { w with heap := w.heap.push (.cells out' e) } := by
                by_cases h0 : len * n = 0
                · rw [rowOf_zero h0] at h1
                  simp only [Instr.buildSlice, Sem.run_bind, run_underlying hu, Result.andThen_ok, run_sizeOf' hn, if_neg hlim, Sem.run_pure, if_pos h0]
                  rw [show (Array.map (fun x => (#[] : Array Value)[x % (#[] : Array Value).size]!) (Array.range (len * n))) = #[] by rw [h0]; simp, h1]
                  simp [k1]
                · rw [rowOf_pos h0] at h1
                  simp only [Instr.buildSlice, Sem.run_bind, run_underlying hu, Result.andThen_ok, run_sizeOf' hn, if_neg hlim, Sem.run_pure, if_neg h0, hz1]
                  rw [show (Array.map (fun x => z.cells[x % z.cells.size]!) (Array.range (len * n))) = zrow z (len * n) from rfl, h1]
                  simp [k1]
              simp only [execOp, Sem.run_bind, this, Result.andThen_ok, Sem.run_pure, Array.toArray_toList]
            · have := VR.slice (σ := bind1 σ b ⟨w.heap.size, 0, c.toList.length⟩) ⟨b, 0, none⟩ len len len _ bind1_same rfl (.known len hc2)
              simpa using this
          · cases h
        · cases h
      · cases h
    · cases h
  case makeSlice t l c =>
    unfold aMakeSlice at h
    split at h
    · rename_i e hu
      split at h
      · rename_i n z bytes kl l0 kc c0 hn hz hbt hel hec
        split at h
        · rename_i hcond
          obtain ⟨c1, c2, c3, c4⟩ := hcond
          injection h with h
          rw [AW.new_eq] at h
          injection h with h1 h2
          refine ⟨.cells (rowOf z (c0 * n)).toList, fun b => .slice (some ⟨b, 0, none⟩) l0 c0, fun _ => by simp, h1.symm, h2.symm, ?_⟩
          intro σ ρ w b hρ hb
          have hl := hρ l (by simp [Op.operands])
          have hc := hρ c (by simp [Op.operands])
          rw [hel] at hl
          rw [hec] at hc
          have hl' := hl.int_inv
          have hc' := hc.int_inv
          obtain ⟨hz1, hz2⟩ := tZero_run hz w
          have hi : ∃ i, P.info? e = some i ∧ i.bytes = bytes := by
            cases hi : P.info? e with
            | none => rw [hi] at hbt; cases hbt
            | some i => rw [hi] at hbt; simp at hbt; exact ⟨i, rfl, hbt⟩
          obtain ⟨i, hi, hib⟩ := hi
          have hrow : LR σ (rowOf z (c0 * n)).toList (rowOf z (c0 * n)).toList := LR.refl_of (fun _ => scalar_refl) c4
          obtain ⟨k1, k2⟩ := newRow_raw (P := P) hb w e hrow
          refine ⟨.slice (some ⟨w.heap.size, 0, none⟩) l0 c0, .cells (rowOf z (c0 * n)).toList.toArray e, _, ?_, ?_, k2⟩
          · have : (Instr.makeSlice t (ρ l) (ρ c)).run P w = .ok (.slice (some ⟨w.heap.size, 0, none⟩) l0 c0) { w with heap := w.heap.push (.cells (rowOf z (c0 * n)).toList.toArray e) } := by
              rw [hl', hc']
              have hwl : IntKind.i64.wrap (Int.ofNat l0) = (l0 : Int) := wrap_nat (by omega)
              have hwc : IntKind.i64.wrap (Int.ofNat c0) = (c0 : Int) := wrap_nat c2
              have hinfo : (typeInfo e).run P w = .ok i w := by simp [typeInfo, hi]
              have hmul : (bytes : Int) * (c0 : Int) ≤ 281474976710656 := by
                have : ((c0 * bytes : Nat) : Int) ≤ 281474976710656 := by omega
                rw [Int.natCast_mul, Int.mul_comm] at this
                exact this
              simp only [Array.toArray_toList] at k1
              have hcond2 : ¬ (((decide ((c0 : Int) < 0) || decide ((i.bytes : Int) * (c0 : Int) > 2 ^ 48)) || decide ((l0 : Int) < 0) || decide ((l0 : Int) > (c0 : Int))) = true) := by
                rw [hib]
                simp
                omega
              simp only [Instr.makeSlice, Sem.run_bind, run_underlying hu, Result.andThen_ok, asInt, asIntOf, Sem.run_pure, hinfo, hwl, hwc, run_sizeOf' hn]
              rw [if_neg (by simpa using hcond2)]
              by_cases h0 : c0 * n = 0
              · rw [rowOf_zero h0] at k1 ⊢
                simp only [Sem.run_bind, run_askRoom, Result.andThen_ok, Int.toNat_natCast, run_sizeOf' hn, if_pos h0, Sem.run_pure]
                rw [show (Array.map (fun x => (#[] : Array Value)[x % (#[] : Array Value).size]!) (Array.range (c0 * n))) = #[] by rw [h0]; simp, k1]
                simp
              · rw [rowOf_pos h0] at k1 ⊢
                simp only [Sem.run_bind, run_askRoom, Result.andThen_ok, Int.toNat_natCast, run_sizeOf' hn, if_neg h0, hz1, Sem.run_pure]
                rw [show (Array.map (fun x => z.cells[x % z.cells.size]!) (Array.range (c0 * n))) = zrow z (c0 * n) from rfl, k1]
                simp
            simp only [execOp, Sem.run_bind, this, Result.andThen_ok, Sem.run_pure]
          · have := VR.slice (σ := bind1 σ b ⟨w.heap.size, 0, (rowOf z (c0 * n)).toList.length⟩) ⟨b, 0, none⟩ l0 c0 c0 _ bind1_same rfl (.known c0 (by unfold BIG; omega))
            simpa using this
        · cases h
      · cases h
    · cases h
  case binOp op t x y yt => split at hk <;> omega
  case makeFunc fn a b => cases fn <;> simp only [kindE] at hk <;> omega
  case call c =>
    obtain ⟨callee, args, argTypes⟩ := c
    cases callee <;> simp only at hk <;> (try omega)
    rename_i b
    cases b <;> simp only at hk <;> omega

section
variable {σ : Inj} {W : AW} {w : World}
/-- a block of the engine's that stands for nothing yet -/
theorem WRel.ghost (h : WRel σ W w.heap) (o : AObj) : WRel σ (W.add o) w.heap := by
  have hne : ∀ {c : Nat} {g : Seg}, σ c = some g → c ≠ W.next := fun hc e => by have := (h.dom _ _ hc).1; omega
  refine ⟨?_, ?_, ?_, ?_⟩
  · intro c hc
    have hc' : W.next + 1 ≤ c := hc
    rw [AW.get_add_ne _ _ (by omega)]
    exact h.free c (by omega)
  · intro c g hc
    have := h.dom c g hc
    simp only [AW.add_next]; omega
  · intro c o2 g hc hg
    rw [AW.get_add_ne _ _ (Ne.symm (hne hg))] at hc
    exact h.obj c o2 g hc hg
  · intro b1 b2 o1 o2 g1 g2 hbb h1 h2 k1 k2 hr
    rw [AW.get_add_ne _ _ (Ne.symm (hne k1))] at h1
    rw [AW.get_add_ne _ _ (Ne.symm (hne k2))] at h2
    exact h.disj _ _ _ _ _ _ hbb h1 h2 k1 k2 hr
/-- it is laid -/
theorem WRel.bind (h : WRel σ W w.heap) {b e : Nat} {o : AObj} {x : Obj} (hb : W.get b = some o) (hfr : σ b = none)
    (hnew : ORel (bind1 σ b ⟨w.heap.size, 0, e⟩) (w.heap.push x) ⟨w.heap.size, 0, e⟩ o) :
    WRel (bind1 σ b ⟨w.heap.size, 0, e⟩) W (w.heap.push x) := by
  have hs : Sub σ (bind1 σ b ⟨w.heap.size, 0, e⟩) := bind1_sub hfr
  have hold : ∀ B, B < w.heap.size → (w.heap.push x)[B]? = w.heap[B]? := fun B hB => by
    rw [Array.getElem?_push]; rw [if_neg (by omega)]
  have hinv : ∀ c g, bind1 σ b ⟨w.heap.size, 0, e⟩ c = some g → (c = b ∧ g = ⟨w.heap.size, 0, e⟩) ∨ (c ≠ b ∧ σ c = some g) := fun c g hc => by
    unfold bind1 at hc
    split at hc
    · rename_i hx; injection hc with hc; exact .inl ⟨hx, hc.symm⟩
    · rename_i hx; exact .inr ⟨hx, hc⟩
  have hbn : b < W.next := by
    rcases Nat.lt_or_ge b W.next with h1 | h1
    · exact h1
    · rw [h.free b h1] at hb; cases hb
  refine ⟨h.free, ?_, ?_, ?_⟩
  · intro c g hc
    rcases hinv c g hc with ⟨rfl, rfl⟩ | ⟨_, h2⟩
    · exact ⟨hbn, by simp⟩
    · have := h.dom c g h2
      simp; omega
  · intro c o2 g hc hk
    rcases hinv c g hk with ⟨rfl, rfl⟩ | ⟨h1, h2⟩
    · rw [hb] at hc; injection hc with hc; subst hc; exact hnew
    · exact ((h.obj c o2 g hc h2).mono hs).same (hold _ (h.dom c g h2).2)
  · intro b1 b2 o1 o2 g1 g2 hbb h1 h2 k1 k2 hr
    rcases hinv b1 g1 k1 with ⟨rfl, rfl⟩ | ⟨x1, y1⟩
    · rcases hinv b2 g2 k2 with ⟨rfl, rfl⟩ | ⟨x2, y2⟩
      · exact absurd rfl hbb
      · have := (h.dom _ _ y2).2
        exact .inl (by simp only [ne_eq]; omega)
    · rcases hinv b2 g2 k2 with ⟨rfl, rfl⟩ | ⟨x2, y2⟩
      · have := (h.dom _ _ y1).2
        exact .inl (by simp only [ne_eq]; omega)
      · exact h.disj _ _ _ _ _ _ hbb h1 h2 y1 y2 hr
theorem Ext.ghost_add {σ0 : Inj} {W0 : AW} {w0 : World} (h : Ext σ0 W0 w0 σ W w) (hw : W.get W.next = none) (o : AObj) : Ext σ0 W0 w0 σ (W.add o) w :=
  ⟨h.sub, fun b cs x => by
      have h1 := h.ro b cs x
      have : W.next ≠ b := fun e => by subst e; rw [hw] at h1; cases h1
      rw [AW.get_add_ne _ _ this]; exact h1,
    h.size, h.os, h.tape, h.output, h.keep, fun b o2 h1 h2 => by
      obtain ⟨a1, a2⟩ := h.ghost b o2 h1 h2
      have : W.next ≠ b := fun e => by subst e; rw [hw] at a1; cases a1
      exact ⟨by rw [AW.get_add_ne _ _ this]; exact a1, a2⟩, h.grow, h.fr⟩
theorem Ext.bind {σ0 : Inj} {W0 : AW} {w0 : World} (h : Ext σ0 W0 w0 σ W w) {b e : Nat} (hfr : σ b = none) (h0 : W0.get b = none) {x : Obj} {o : AObj} (hnew : ORel (bind1 σ b ⟨w.heap.size, 0, e⟩) (w.heap.push x) ⟨w.heap.size, 0, e⟩ o) (hro : ∀ cs, o ≠ .ro cs) :
    Ext σ0 W0 w0 (bind1 σ b ⟨w.heap.size, 0, e⟩) W { w with heap := w.heap.push x } := by
  have hs : Sub σ (bind1 σ b ⟨w.heap.size, 0, e⟩) := bind1_sub hfr
  refine ⟨h.sub.trans hs, h.ro, by have := h.size; simp; omega, h.os, h.tape, h.output, ?_, ?_, ?_, ?_⟩
  · intro B hB hm
    rw [← h.keep B hB hm]
    have := h.size
    show (w.heap.push x)[B]? = _
    rw [Array.getElem?_push, if_neg (by omega)]
  · intro c o2 h1 h2
    obtain ⟨a1, a2⟩ := h.ghost c o2 h1 h2
    have : c ≠ b := fun e => by subst e; rw [h0] at h1; cases h1
    exact ⟨a1, by unfold bind1; rw [if_neg this]; exact a2⟩
  · intro c g hk hB
    unfold bind1 at hk
    split at hk
    · injection hk with hk; subst hk; have := h.size; simp at hB; omega
    · exact h.grow c g hk hB
  · intro a
    rw [← h.fr a]
    by_cases ha : a.block = w.heap.size
    · rw [ORel.cold (w := { w with heap := w.heap.push x }) hnew hro ha]
      unfold World.frozen?
      rw [ha]
      simp
    · refine frozen_same ?_
      show (w.heap.push x)[a.block]? = _
      rw [Array.getElem?_push, if_neg ha]
end
end Go.Eng
