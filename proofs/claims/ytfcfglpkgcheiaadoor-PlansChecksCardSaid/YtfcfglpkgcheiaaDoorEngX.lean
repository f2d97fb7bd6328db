/- A region that makes a map literal of eight entries, keyed by 1, 2, 4 .. 128, in whatever order, and ranges over it. -/
import Derived.Test.YtfcfglpkgcheiaaDoorEngW
import Derived.Maps.RangeWalk
import Derived.Orders
namespace Go.Eng
open Go Go.RowKit
open Go.Maps (Keyed)
set_option linter.unusedSectionVars false
set_option linter.unusedSimpArgs false
set_option linter.unusedVariables false
variable [PlanTab]

section
variable {H : Type}
def ent (j : Nat) (g b : Bool) : List (Lit × DataW H) := match g with | true => [(.int .i64 ((2 ^ j : Nat) : Int), .lit (.bool b))] | false => []
def Dof (g0 g1 g2 g3 g4 g5 g6 g7 b0 b1 b2 b3 b4 b5 b6 b7 : Bool) : DataW H :=
  .map (ent 0 g0 b0 ++ (ent 1 g1 b1 ++ (ent 2 g2 b2 ++ (ent 3 g3 b3 ++ (ent 4 g4 b4 ++ (ent 5 g5 b5 ++ (ent 6 g6 b6 ++ ent 7 g7 b7)))))))
variable (g0 g1 g2 g3 g4 g5 g6 g7 b0 b1 b2 b3 b4 b5 b6 b7 : Bool)
theorem put0 : (Dof (H := H) g0 g1 g2 g3 g4 g5 g6 g7 b0 b1 b2 b3 b4 b5 b6 b7).put (.int .i64 1) (.lit (.bool b0)) = Dof true g1 g2 g3 g4 g5 g6 g7 b0 b1 b2 b3 b4 b5 b6 b7 := by
  cases g0 <;> cases g1 <;> cases g2 <;> cases g3 <;> cases g4 <;> cases g5 <;> cases g6 <;> cases g7 <;> rfl
theorem put1 : (Dof (H := H) g0 g1 g2 g3 g4 g5 g6 g7 b0 b1 b2 b3 b4 b5 b6 b7).put (.int .i64 2) (.lit (.bool b1)) = Dof g0 true g2 g3 g4 g5 g6 g7 b0 b1 b2 b3 b4 b5 b6 b7 := by
  cases g0 <;> cases g1 <;> cases g2 <;> cases g3 <;> cases g4 <;> cases g5 <;> cases g6 <;> cases g7 <;> rfl
theorem put2 : (Dof (H := H) g0 g1 g2 g3 g4 g5 g6 g7 b0 b1 b2 b3 b4 b5 b6 b7).put (.int .i64 4) (.lit (.bool b2)) = Dof g0 g1 true g3 g4 g5 g6 g7 b0 b1 b2 b3 b4 b5 b6 b7 := by
  cases g0 <;> cases g1 <;> cases g2 <;> cases g3 <;> cases g4 <;> cases g5 <;> cases g6 <;> cases g7 <;> rfl
theorem put3 : (Dof (H := H) g0 g1 g2 g3 g4 g5 g6 g7 b0 b1 b2 b3 b4 b5 b6 b7).put (.int .i64 8) (.lit (.bool b3)) = Dof g0 g1 g2 true g4 g5 g6 g7 b0 b1 b2 b3 b4 b5 b6 b7 := by
  cases g0 <;> cases g1 <;> cases g2 <;> cases g3 <;> cases g4 <;> cases g5 <;> cases g6 <;> cases g7 <;> rfl
theorem put4 : (Dof (H := H) g0 g1 g2 g3 g4 g5 g6 g7 b0 b1 b2 b3 b4 b5 b6 b7).put (.int .i64 16) (.lit (.bool b4)) = Dof g0 g1 g2 g3 true g5 g6 g7 b0 b1 b2 b3 b4 b5 b6 b7 := by
  cases g0 <;> cases g1 <;> cases g2 <;> cases g3 <;> cases g4 <;> cases g5 <;> cases g6 <;> cases g7 <;> rfl
theorem put5 : (Dof (H := H) g0 g1 g2 g3 g4 g5 g6 g7 b0 b1 b2 b3 b4 b5 b6 b7).put (.int .i64 32) (.lit (.bool b5)) = Dof g0 g1 g2 g3 g4 true g6 g7 b0 b1 b2 b3 b4 b5 b6 b7 := by
  cases g0 <;> cases g1 <;> cases g2 <;> cases g3 <;> cases g4 <;> cases g5 <;> cases g6 <;> cases g7 <;> rfl
theorem put6 : (Dof (H := H) g0 g1 g2 g3 g4 g5 g6 g7 b0 b1 b2 b3 b4 b5 b6 b7).put (.int .i64 64) (.lit (.bool b6)) = Dof g0 g1 g2 g3 g4 g5 true g7 b0 b1 b2 b3 b4 b5 b6 b7 := by
  cases g0 <;> cases g1 <;> cases g2 <;> cases g3 <;> cases g4 <;> cases g5 <;> cases g6 <;> cases g7 <;> rfl
theorem put7 : (Dof (H := H) g0 g1 g2 g3 g4 g5 g6 g7 b0 b1 b2 b3 b4 b5 b6 b7).put (.int .i64 128) (.lit (.bool b7)) = Dof g0 g1 g2 g3 g4 g5 g6 true b0 b1 b2 b3 b4 b5 b6 b7 := by
  cases g0 <;> cases g1 <;> cases g2 <;> cases g3 <;> cases g4 <;> cases g5 <;> cases g6 <;> cases g7 <;> rfl
end

/-- 'm[k] = v', with the heap's size -/
theorem own_update {H : Type} {P : Program} {k e t : TypeId} {w : World} {R : Value → Option (DataW H × List MemPlace)} {b n : Nat} {D : DataW H} (h : w.ownsMap P k R b n D) (K : Keyed P k) (ht : P.underlying t = some (.map k e)) (hn : n < maxLen) {key val : Value} {kl : Lit} {d : DataW H} {ps : List MemPlace}
    (hkey : keyOf P k key = some kl) (hv : R val = some (d, ps)) : ∃ w', (Instr.mapUpdate t (.map (some b)) key val).run P w = .ok () w' ∧ w'.ownsMap P k R b (n + 1) (D.put kl d) ∧ w.grownBy w' (some b) ∧ w'.heap.size = w.heap.size := by
  obtain ⟨w', h1, h2, h3⟩ := h.update K ht hn hkey hv
  obtain ⟨es, clock, hb, F, hs, rfl⟩ := h
  obtain ⟨es', clock', hrun, _⟩ := Maps.fit_store (R' := R) K ht hb F (Nat.lt_of_le_of_lt hs hn) (fun _ _ _ _ hz => hz) hkey hv
  refine ⟨w', h1, h2, h3, ?_⟩
  rw [hrun] at h1
  injection h1 with _ h1
  rw [← h1]
  simp [Go.ChangeMaps.setBlock]

theorem own_cold {H : Type} {P : Program} {k : TypeId} {w : World} {R : Value → Option (DataW H × List MemPlace)} {b n : Nat} {D : DataW H} (h : w.ownsMap P k R b n D) {a : Addr} (ha : a.block = b) : w.frozen? a = false := by
  obtain ⟨es, clock, hb, _⟩ := h
  unfold World.frozen?
  rw [ha, hb]
theorem none_cold {w : World} {a : Addr} (h : w.heap.size ≤ a.block) : w.frozen? a = false := by
  unfold World.frozen?
  rw [Array.getElem?_eq_none h]

/-- another block than those of the engine turns -/
theorem ext_other {σ0 σ : Inj} {W0 W : AW} {w0 w w' : World} (h : Ext σ0 W0 w0 σ W w) {m : Nat} (hm : w0.heap.size ≤ m) (hg : w.grownBy w' (some m)) (hfr : ∀ a, w'.frozen? a = w.frozen? a) : Ext σ0 W0 w0 σ W w' :=
  ⟨h.sub, h.ro, Nat.le_trans h.size hg.size, hg.os.trans h.os, hg.tape.trans h.tape, hg.output.trans h.output,
   fun B hB hn => (hg.block B (Nat.lt_of_lt_of_le hB h.size) (fun e => by injection e with e; omega)).trans (h.keep B hB hn), h.ghost, h.grow, fun a => (hfr a).trans (h.fr a)⟩
theorem rel_other {σ : Inj} {W : AW} {w w' : World} (h : WRel σ W w.heap) {m : Nat} (hm : ∀ b g, σ b = some g → g.B ≠ m) (hg : w.grownBy w' (some m)) : WRel σ W w'.heap where
  free := h.free
  dom b g hb := ⟨(h.dom b g hb).1, Nat.lt_of_lt_of_le (h.dom b g hb).2 hg.size⟩
  obj b o g hb hσ := (h.obj b o g hb hσ).same (hg.block _ (h.dom b g hσ).2 (fun e => by injection e with e; exact hm b g hσ e))
  disj := h.disj

/-- an edge that binds -/
def edgeTo (e : Nat) (o : Oper) : Bool := o.after.any fun x => Region.binds .any x && Nat.beq x.on e
theorem edgeTo_listed {e : Nat} {o : Oper} {listed : Array Bool} (h : edgeTo e o = true) (hr : ∀ x ∈ o.after, Region.binds .any x = true → listed.getD x.on false = true) : listed.getD e false = true := by
  unfold edgeTo at h
  rw [Array.any_eq_true'] at h
  obtain ⟨x, hx, hb⟩ := h
  rw [Bool.and_eq_true, Nat.beq_eq] at hb
  obtain ⟨hb, rfl⟩ := hb
  exact hr x hx hb
/-- an operand that may be read: a constant, an elder slot, the slot of an operation that lies ahead and is none of the map's -/
def argOK (ops : Array Oper) (o : Oper) (x : Operand) : Bool := match x with
  | .const v => plain v
  | .tmp t => Nat.beq t 1 || o.after.any fun e => Region.binds .any e && (match ops[e.on]? with | some o' => (match o'.dst with | some d => Nat.beq d t && (Nat.blt 14 d && Nat.blt d 40) | none => false) | none => false)
  | _ => false
def pureOK (ops : Array Oper) (o : Oper) : Bool := o.guard.isNone && (match o.dst with | some d => Nat.blt 14 d && Nat.blt d 40 | none => false) && o.op.operands.toList.all (argOK ops o)
def insOK (ops : Array Oper) (TM key s k : Nat) (o : Oper) : Bool := o.guard.isNone && o.dst.isNone && edgeTo 0 o && edgeTo k o &&
  (match o.op with | .insert t (.tmp m) (.const (.int .i64 (.ofNat n))) (.tmp v) => Nat.beq t TM && Nat.beq m 14 && Nat.beq n key && Nat.beq v s && Nat.blt 14 s && Nat.blt s 40 | _ => false) &&
  (match ops[k]? with | some o' => (match o'.dst with | some d => Nat.beq d s | none => false) | none => false)
def shapeAt (ops : Array Oper) (TM : Nat) (i : Nat) (o : Oper) : Bool := match i with
  | 0 => o.guard.isNone && (match o.op, o.dst with | .makeMap t none, some d => Nat.beq t TM && Nat.beq d 14 | _, _ => false)
  | 4 => insOK ops TM 1 17 3 o
  | 8 => insOK ops TM 2 20 7 o
  | 12 => insOK ops TM 4 23 11 o
  | 16 => insOK ops TM 8 26 15 o
  | 20 => insOK ops TM 16 29 19 o
  | 24 => insOK ops TM 32 32 23 o
  | 29 => insOK ops TM 64 36 28 o
  | 33 => insOK ops TM 128 39 32 o
  | 34 => o.guard.isNone && (match o.op, o.dst with | .move (.tmp x), some d => Nat.beq x 14 && Nat.beq d 40 | _, _ => false) && (List.range 34).all fun e => edgeTo e o
  | 35 => o.guard.isNone && (match o.op, o.dst with | .range t (.tmp x), some d => Nat.beq t TM && Nat.beq x 40 && Nat.beq d 41 | _, _ => false) && edgeTo 34 o
  | _ => pureOK ops o
def isPure (i : Nat) : Bool := match i with | 0 | 4 | 8 | 12 | 16 | 20 | 24 | 29 | 33 | 34 | 35 => false | _ => true
def backOK (i : Nat) (o : Oper) : Bool := o.after.all fun e => Nat.blt e.on i
def shapeOK (ops : Array Oper) (TM : Nat) : Bool := Nat.beq ops.size 36 && (List.range 36).all fun i => match ops[i]? with | some o => shapeAt ops TM i o && backOK i o | none => false

theorem wpOp_value {P : Program} {ops : Array Oper} {Q : Exit → Act → World → Prop} {i : Nat} {K : Act → World → Prop} {a : Act} {w w' : World} {o : Oper} {v : Value} (ho : ops[i]? = some o) (hg : o.guard = none)
    (h : (execOp a.eval o).run P w = .ok (.value v) w') (hk : K (a.put o.dst v) w') : wpOp P ops Q i K a w := by
  unfold wpOp
  rw [ho]
  have : Region.wanted o (yielded ops a.tmps) = true := by unfold Region.wanted; rw [hg]
  simp only [this, if_true]
  refine .inl ?_
  unfold Oper.wp
  rw [h]
  exact hk
theorem wpOp_skip {P : Program} {ops : Array Oper} {Q : Exit → Act → World → Prop} {i : Nat} {K : Act → World → Prop} {a : Act} {w w' : World} {o : Oper} (ho : ops[i]? = some o) (hg : o.guard = none)
    (h : (execOp a.eval o).run P w = .ok .skip w') (hk : K (a.put o.dst undef) w') : wpOp P ops Q i K a w := by
  unfold wpOp
  rw [ho]
  have : Region.wanted o (yielded ops a.tmps) = true := by unfold Region.wanted; rw [hg]
  simp only [this, if_true]
  refine .inl ?_
  unfold Oper.wp
  rw [h]
  exact hk

section
variable {P : Program} {ops : Array Oper} {nt TM TK TE : Nat} {σ0 : Inj} {W : AW} {R : PlanTab.Fr} {w0 : World} {tm0 : Array Value} {ds : List Deferred} {b0 b1 b2 b3 b4 b5 b6 b7 : Bool} {l : Array Bool} {a : Act} {w : World}

def Dl (l : Array Bool) (b0 b1 b2 b3 b4 b5 b6 b7 : Bool) : DataW Unit :=
  Dof (l.getD 4 false) (l.getD 8 false) (l.getD 12 false) (l.getD 16 false) (l.getD 20 false) (l.getD 24 false) (l.getD 29 false) (l.getD 33 false) b0 b1 b2 b3 b4 b5 b6 b7

/-- the region's invariant: what stands of the slots -/
structure RB (ops : Array Oper) (nt : Nat) (tm0 : Array Value) (ds : List Deferred) (l : Array Bool) (a : Act) : Prop where
  lsz : l.size = 36
  tsz : a.tmps.size = nt
  dfs : a.defers = ds
  down : ∀ i, l.getD i false = true → ∀ o, ops[i]? = some o → ∀ e ∈ o.after, Region.binds .any e = true → l.getD e.on false = true
  old : ∀ t, (t < 14 ∨ 41 < t) → a.tmps[t]? = tm0[t]?
/-- .. and of the map: 'm': its block, 'r': the iterator's -/
def RM (P : Program) (TK TE : Nat) (w0 : World) (b0 b1 b2 b3 b4 b5 b6 b7 : Bool) (l : Array Bool) (a : Act) (w : World) (σ : Inj) (m n : Nat) : Prop :=
  (∀ b g, σ b = some g → g.B ≠ m) ∧ w0.heap.size ≤ m ∧ a.tmps.getD 14 undef = .map (some m) ∧ n ≤ (List.range 36).countP (fun i => l.getD i false) ∧ (l.getD 34 false = true → a.tmps.getD 40 undef = .map (some m)) ∧
      (l.getD 35 false = false → w.ownsMap P TK (plainElem P TE) m n (Dl l b0 b1 b2 b3 b4 b5 b6 b7)) ∧
      (l.getD 35 false = true → ∃ r, a.tmps.getD 41 undef = .pointer (some ⟨r, 0, none⟩) ∧ (∀ b g, σ b = some g → g.B ≠ r) ∧ w0.heap.size ≤ r ∧
        w.ranges P TK (plainElem P TE) m r n (Dl l b0 b1 b2 b3 b4 b5 b6 b7) (Maps.has (Dl l b0 b1 b2 b3 b4 b5 b6 b7)) (Maps.size (Dl l b0 b1 b2 b3 b4 b5 b6 b7)))
structure RI (P : Program) (ops : Array Oper) (nt TK TE : Nat) (σ0 : Inj) (W : AW) (R : PlanTab.Fr) (w0 : World) (tm0 : Array Value) (ds : List Deferred) (b0 b1 b2 b3 b4 b5 b6 b7 : Bool)
    (l : Array Bool) (a : Act) (w : World) : Prop where
  base : RB ops nt tm0 ds l a
  world : ∃ σ, WRel σ W w.heap ∧ Ext σ0 W w0 σ W w ∧ (∀ i o d, ops[i]? = some o → isPure i = true → l.getD i false = true → o.dst = some d → VR σ (rget R d) (a.tmps.getD d undef)) ∧
    (l.getD 0 false = true → ∃ m n, RM P TK TE w0 b0 b1 b2 b3 b4 b5 b6 b7 l a w σ m n)
structure RF (P : Program) (ops : Array Oper) (nt TM TK TE : Nat) (σ0 : Inj) (W : AW) (R : PlanTab.Fr) (tm0 : Array Value) (b0 b1 b2 b3 b4 b5 b6 b7 : Bool) : Prop where
  size : ops.size = 36
  shape : ∀ i o, ops[i]? = some o → shapeAt ops TM i o = true
  back : ∀ i o, ops[i]? = some o → backOK i o = true
  does : ∀ i o d, ops[i]? = some o → isPure i = true → o.dst = some d → ∀ (σ : Inj) (w : World) (ρ : Operand → Value), WRel σ W w.heap → (∀ x ∈ o.op.operands, VR σ (aEval R x) (ρ x)) → Does P σ W w (execOp ρ o) (rget R d) W
  v0 : rget R 17 = .bool b0
  v1 : rget R 20 = .bool b1
  v2 : rget R 23 = .bool b2
  v3 : rget R 26 = .bool b3
  v4 : rget R 29 = .bool b4
  v5 : rget R 32 = .bool b5
  v6 : rget R 36 = .bool b6
  v7 : rget R 39 = .bool b7
  ptr : VR σ0 (rget R 1) (tm0.getD 1 undef)
  nt : 42 ≤ nt
  TM : P.underlying TM = some (.map TK TE)
  TK : P.underlying TK = some (.int .i64)
  TE : P.underlying TE = some .bool

theorem count_set {l : Array Bool} {i : Nat} (hi : i < 36) (hs : l.size = 36) (h : l.getD i false = false) : (List.range 36).countP (fun k => l.getD k false) + 1 ≤ (List.range 36).countP (fun k => (l.setIfInBounds i true).getD k false) := by
  refine countP_lt (x := i) (by simpa using hi) (set_same (by omega) false) h fun y hy => ?_
  by_cases e : i = y
  · subst e; exact set_same (by omega) false
  · rw [set_ne e]; exact hy
theorem count_le {l : Array Bool} : (List.range 36).countP (fun k => l.getD k false) ≤ 36 := by
  have := List.countP_le_length (p := fun k => l.getD k false) (l := List.range 36)
  simpa using this
theorem same_false {l : Array Bool} {i : Nat} (h : l.getD i true = false) (hi : i < l.size) : l.getD i false = false := by
  simp only [Array.getD_eq_getD_getElem?] at h ⊢
  rw [Array.getElem?_eq_getElem hi] at h ⊢
  exact h

theorem dst_in (hF : RF P ops nt TM TK TE σ0 W R tm0 b0 b1 b2 b3 b4 b5 b6 b7) {i : Nat} {o : Oper} (ho : ops[i]? = some o) : o.guard = none ∧ (isPure i = true → (∃ d, o.dst = some d ∧ 14 < d ∧ d < 40) ∧ o.op.operands.toList.all (argOK ops o) = true) ∧
    (∀ d, o.dst = some d → 14 ≤ d ∧ d ≤ 41) ∧ (∀ d, o.dst = some d → 14 < d → d < 40 → isPure i = true) := by
  have hs := hF.shape i o ho
  by_cases hp : isPure i = true
  · have hq : pureOK ops o = true := by
      unfold shapeAt at hs
      unfold isPure at hp
      split at hs <;> first | exact hs | (simp at hp; done)
    unfold pureOK at hq
    simp only [Bool.and_eq_true, Option.isNone_iff_eq_none] at hq
    obtain ⟨⟨h1, h2⟩, h3⟩ := hq
    cases hd : o.dst with
    | none => rw [hd] at h2; cases h2
    | some d =>
      rw [hd] at h2
      simp only [Bool.and_eq_true, Nat.blt_eq] at h2
      refine ⟨h1, fun _ => ⟨⟨d, rfl, h2⟩, h3⟩, fun d' e => ?_, fun _ _ _ _ => hp⟩
      injection e with e; subst e
      exact ⟨Nat.le_of_lt h2.1, Nat.le_of_lt (Nat.lt_trans h2.2 (by decide))⟩
  · refine ⟨?_, fun h => absurd h hp, ?_, ?_⟩
    · unfold shapeAt at hs
      unfold isPure at hp
      split at hs <;> simp_all [insOK]
    · intro d hd
      unfold shapeAt at hs
      unfold isPure at hp
      split at hs <;> simp_all [insOK]
      all_goals (first | (split at hs <;> simp_all) | skip)
      all_goals omega
    · intro d hd h1 h2
      exfalso
      unfold shapeAt at hs
      unfold isPure at hp
      split at hs <;> simp_all [insOK]
      all_goals (first | (split at hs <;> simp_all) | skip)
      all_goals omega

theorem RB.step (hB : RB ops nt tm0 ds l a) (hF : RF P ops nt TM TK TE σ0 W R tm0 b0 b1 b2 b3 b4 b5 b6 b7) {i : Nat} {o : Oper} (ho : ops[i]? = some o)
    (hr : ∀ e ∈ o.after, Region.binds .any e = true → l.getD e.on false = true) (v : Value) : RB ops nt tm0 ds (l.setIfInBounds i true) (a.put o.dst v) := by
  obtain ⟨_, _, hd, _⟩ := dst_in hF ho
  have hi : i < l.size := by rw [hB.lsz, ← hF.size]; exact (Array.getElem?_eq_some_iff.1 ho).1
  have hmono : ∀ k, l.getD k false = true → (l.setIfInBounds i true).getD k false = true := fun k hk => by
    by_cases e : i = k
    · subst e; exact set_same hi _
    · rw [set_ne e]; exact hk
  refine ⟨by simp [hB.lsz], by rw [put_size]; exact hB.tsz, by rw [put_defers]; exact hB.dfs, ?_, ?_⟩
  · intro k hk o' ho' e he hb
    by_cases e1 : i = k
    · subst e1
      rw [ho] at ho'
      injection ho' with ho'
      subst ho'
      exact hmono _ (hr e he hb)
    · rw [set_ne e1] at hk
      exact hmono _ (hB.down k hk o' ho' e he hb)
  · intro t ht
    rw [← hB.old t ht]
    cases hq : o.dst with
    | none => rfl
    | some d =>
      have := hd d hq
      show (a.tmps.setIfInBounds d v)[t]? = a.tmps[t]?
      rw [Array.getElem?_setIfInBounds_ne]
      rintro rfl
      rcases ht with h | h
      · exact absurd (Nat.lt_of_lt_of_le h this.1) (Nat.lt_irrefl _)
      · exact absurd (Nat.lt_of_lt_of_le h this.2) (Nat.lt_irrefl _)

theorem nm_keep {σ σ' : Inj} {W W' : AW} {w w' : World} (he : Ext σ W w σ' W' w') {m : Nat} (hm : m < w.heap.size) (hn : ∀ b g, σ b = some g → g.B ≠ m) : (∀ b g, σ' b = some g → g.B ≠ m) ∧ w'.heap[m]? = w.heap[m]? := by
  have hnm : ¬ Mut σ W m := by
    rintro ⟨b, g, h1, h2, _⟩
    exact hn b g h1 h2
  refine ⟨fun b g hb e => ?_, he.keep m hm hnm⟩
  subst e
  rcases he.grow b g hb hm with h1 | h1
  · exact hn b g h1 rfl
  · exact hnm h1
theorem own_same {H : Type} {k : TypeId} {w w' : World} {Re : Value → Option (DataW H × List MemPlace)} {b n : Nat} {D : DataW H} (h : w.ownsMap P k Re b n D) (e : w'.heap[b]? = w.heap[b]?) : w'.ownsMap P k Re b n D := by
  obtain ⟨es, clock, hb, r⟩ := h
  exact ⟨es, clock, e.trans hb, r⟩

/-- the pure operations -/
theorem step_pure (hF : RF P ops nt TM TK TE σ0 W R tm0 b0 b1 b2 b3 b4 b5 b6 b7) (hI : RI P ops nt TK TE σ0 W R w0 tm0 ds b0 b1 b2 b3 b4 b5 b6 b7 l a w) {i : Nat} {o : Oper} (ho : ops[i]? = some o) (hl : l.getD i true = false)
    (hr : ∀ e ∈ o.after, Region.binds .any e = true → l.getD e.on false = true) (hp : isPure i = true) {Q : Exit → Act → World → Prop} {K : Act → World → Prop}
    (hK : ∀ a' w', RI P ops nt TK TE σ0 W R w0 tm0 ds b0 b1 b2 b3 b4 b5 b6 b7 (l.setIfInBounds i true) a' w' → K a' w') : wpOp P ops Q i K a w := by
  obtain ⟨hg, hpd, _, hback⟩ := dst_in hF ho
  obtain ⟨⟨d, hd, hd1, hd2⟩, hargs⟩ := hpd hp
  obtain ⟨hB, σ, hW, hE, hregs, hmap⟩ := hI
  have hi : i < l.size := by rw [hB.lsz, ← hF.size]; exact (Array.getElem?_eq_some_iff.1 ho).1
  have hlf := same_false hl hi
  have hρ : ∀ x ∈ o.op.operands, VR σ (aEval R x) (a.eval x) := by
    intro x hx
    have hx1 := List.all_eq_true.1 hargs x (by simpa using hx)
    unfold argOK at hx1
    split at hx1
    · exact plain_refl hx1
    · rename_i t
      rw [Bool.or_eq_true] at hx1
      show VR σ (rget R t) (a.tmps.getD t undef)
      rcases hx1 with h1 | h1
      · obtain rfl : t = 1 := by simpa using h1
        have : a.tmps.getD 1 undef = tm0.getD 1 undef := by
          simp only [Array.getD_eq_getD_getElem?]; rw [hB.old 1 (.inl (by decide))]
        rw [this]
        exact hF.ptr.mono hE.sub
      · rw [Array.any_eq_true'] at h1
        obtain ⟨e, he, hb⟩ := h1
        rw [Bool.and_eq_true] at hb
        obtain ⟨hb1, hb2⟩ := hb
        split at hb2
        · rename_i o' ho'
          split at hb2
          · rename_i d' hd'
            simp only [Bool.and_eq_true, Nat.beq_eq, Nat.blt_eq] at hb2
            obtain ⟨rfl, h3, h4⟩ := hb2
            exact hregs e.on o' d' ho' ((dst_in hF ho').2.2.2 d' hd' h3 h4) (hr e he hb1) hd'
          · cases hb2
        · cases hb2
    · cases hx1
  obtain ⟨σ', nx, v', w', hrun, hnx, hv, hW', hE'⟩ := hF.does i o d ho hp hd σ w a.eval hW hρ
  have fin : RI P ops nt TK TE σ0 W R w0 tm0 ds b0 b1 b2 b3 b4 b5 b6 b7 (l.setIfInBounds i true) (a.put o.dst v') w' := by
    refine ⟨hB.step hF ho hr v', σ', hW', hE.trans hE', ?_, ?_⟩
    · intro k o' d' ho' hp' hl' hd'
      by_cases e : i = k
      · subst e
        rw [ho] at ho'
        injection ho' with ho'
        subst ho'
        rw [hd] at hd'
        injection hd' with hd'
        subst hd'
        rw [put_getD hd (by rw [hB.tsz]; exact Nat.lt_of_lt_of_le hd2 (Nat.le_trans (by decide) hF.nt))]
        exact hv
      · rw [set_ne e] at hl'
        by_cases e2 : d' = d
        · subst e2
          -- the same slot: what was there is written again
          rw [put_getD hd (by rw [hB.tsz]; exact Nat.lt_of_lt_of_le hd2 (Nat.le_trans (by decide) hF.nt))]
          exact hv
        · rw [put_getD_ne (by rw [hd]; intro e3; injection e3 with e3; exact e2 e3.symm)]
          exact (hregs k o' d' ho' hp' hl' hd').mono hE'.sub
    · intro h0
      have hne : ∀ k, isPure k = false → (l.setIfInBounds i true).getD k false = l.getD k false := fun k hk => set_ne (fun e => by subst e; rw [hp] at hk; cases hk) _
      have hget : ∀ t, (t = 14 ∨ 39 < t) → (a.put o.dst v').tmps.getD t undef = a.tmps.getD t undef := fun t ht => put_getD_ne (by
        rw [hd]; intro e3; injection e3 with e3; subst e3
        rcases ht with h | h
        · subst h; exact absurd hd1 (by decide)
        · exact absurd hd2 (by intro h5; exact absurd (Nat.lt_of_lt_of_le h5 h) (Nat.lt_irrefl _)))
      rw [hne 0 rfl] at h0
      obtain ⟨m, n, k1, k2, k3, k4, k5, k6, k7⟩ := hmap h0
      have hD : Dl (l.setIfInBounds i true) b0 b1 b2 b3 b4 b5 b6 b7 = Dl l b0 b1 b2 b3 b4 b5 b6 b7 := by
        unfold Dl
        rw [hne 4 rfl, hne 8 rfl, hne 12 rfl, hne 16 rfl, hne 20 rfl, hne 24 rfl, hne 29 rfl, hne 33 rfl]
      have hlt : m < w.heap.size := by
        cases hq : l.getD 35 false with
        | false => exact (k6 hq).lt
        | true => obtain ⟨r, _, _, _, hrg⟩ := k7 hq; exact hrg.owns.lt
      obtain ⟨q1, q2⟩ := nm_keep hE' hlt k1
      refine ⟨m, n, q1, k2, by rw [hget 14 (.inl rfl)]; exact k3, Nat.le_trans k4 (Nat.le_trans (Nat.le_succ _) (count_set (by rw [← hB.lsz]; exact hi) hB.lsz hlf)), fun h => ?_, fun h => ?_, fun h => ?_⟩
      · rw [hne 34 rfl] at h; rw [hget 40 (.inr (by decide))]; exact k5 h
      · rw [hne 35 rfl] at h; rw [hD]; exact own_same (k6 h) q2
      · rw [hne 35 rfl] at h
        obtain ⟨r, p1, p2, p3, p4⟩ := k7 h
        have hrlt : r < w.heap.size := by
          obtain ⟨es, clock, since, seen, c0, _, _, _, _, hr, _⟩ := p4
          exact (Array.getElem?_eq_some_iff.1 hr).1
        obtain ⟨q3, q4⟩ := nm_keep hE' hrlt p2
        refine ⟨r, by rw [hget 41 (.inr (by decide))]; exact p1, q3, p3, ?_⟩
        rw [hD]
        obtain ⟨es, clock, since, seen, c0, z1, z2, z3, z4, z5, z6⟩ := p4
        exact ⟨es, clock, since, seen, c0, q2.trans z1, z2, z3, z4, q4.trans z5, z6⟩
  rcases hnx with rfl | ⟨rfl, rfl⟩
  · exact wpOp_value ho hg hrun (hK _ _ fin)
  · exact wpOp_skip ho hg hrun (hK _ _ fin)

theorem needs (hF : RF P ops nt TM TK TE σ0 W R tm0 b0 b1 b2 b3 b4 b5 b6 b7) (hB : RB ops nt tm0 ds l a) :
    (l.getD 35 false = true → l.getD 34 false = true) ∧ (l.getD 34 false = true → ∀ e, e < 34 → l.getD e false = true) ∧ (∀ i, (i = 4 ∨ i = 8 ∨ i = 12 ∨ i = 16 ∨ i = 20 ∨ i = 24 ∨ i = 29 ∨ i = 33) → l.getD i false = true → l.getD 0 false = true) := by
  have at_ : ∀ i, i < 36 → ∃ o, ops[i]? = some o := fun i hi => ⟨ops[i]'(by rw [hF.size]; exact hi), Array.getElem?_eq_getElem _⟩
  refine ⟨fun h => ?_, fun h e he => ?_, fun i hi h => ?_⟩
  · obtain ⟨o, ho⟩ := at_ 35 (by decide)
    have hs := hF.shape 35 o ho
    simp only [shapeAt, Bool.and_eq_true] at hs
    exact edgeTo_listed hs.2 (hB.down 35 h o ho)
  · obtain ⟨o, ho⟩ := at_ 34 (by decide)
    have hs := hF.shape 34 o ho
    simp only [shapeAt, Bool.and_eq_true, List.all_eq_true] at hs
    exact edgeTo_listed (hs.2 e (by simpa using he)) (hB.down 34 h o ho)
  · obtain ⟨o, ho⟩ := at_ i (by omega)
    have hs := hF.shape i o ho
    have : edgeTo 0 o = true := by
      rcases hi with rfl | rfl | rfl | rfl | rfl | rfl | rfl | rfl <;> (simp only [shapeAt, insOK, Bool.and_eq_true] at hs; exact hs.1.1.1.2)
    exact edgeTo_listed this (hB.down i h o ho)

theorem regs_other {σ : Inj} (hF : RF P ops nt TM TK TE σ0 W R tm0 b0 b1 b2 b3 b4 b5 b6 b7) {i : Nat} {o : Oper} (ho : ops[i]? = some o) (hp : isPure i = false)
    (h : ∀ i o d, ops[i]? = some o → isPure i = true → l.getD i false = true → o.dst = some d → VR σ (rget R d) (a.tmps.getD d undef)) (v : Value) :
    ∀ k o' d, ops[k]? = some o' → isPure k = true → (l.setIfInBounds i true).getD k false = true → o'.dst = some d → VR σ (rget R d) ((a.put o.dst v).tmps.getD d undef) := by
  intro k o' d ho' hp' hl hd
  have e : i ≠ k := fun e => by subst e; rw [hp] at hp'; cases hp'
  rw [set_ne e] at hl
  obtain ⟨_, hpd, _, _⟩ := dst_in hF ho'
  obtain ⟨⟨d', hd', h1, h2⟩, _⟩ := hpd hp'
  rw [hd] at hd'
  injection hd' with hd'
  subst hd'
  rw [put_getD_ne]
  · exact h k o' d ho' hp' hl hd
  · intro e2
    have := (dst_in hF ho).2.2.2 d e2 h1 h2
    rw [hp] at this; cases this

theorem frozen_alloc {w : World} {o : Obj} (ho : ∀ c t f, o ≠ .cells c t f) (x : Addr) : (w.alloc o).frozen? x = w.frozen? x := by
  by_cases h : x.block < w.heap.size
  · exact World.frozen?_of_block ((World.grownBy_alloc w o none).block _ h (by simp))
  · rw [none_cold (w := w) (by omega)]
    by_cases e : x.block = w.heap.size
    · unfold World.frozen?
      rw [e]
      have : (w.alloc o).heap[w.heap.size]? = some o := (MapKept.heap_alloc w o).1
      rw [this]
      cases o <;> first | rfl | exact absurd rfl (ho _ _ _)
    · refine none_cold ?_
      have : (w.alloc o).heap.size = w.heap.size + 1 := by simp
      omega

theorem step_make (hF : RF P ops nt TM TK TE σ0 W R tm0 b0 b1 b2 b3 b4 b5 b6 b7) (hI : RI P ops nt TK TE σ0 W R w0 tm0 ds b0 b1 b2 b3 b4 b5 b6 b7 l a w) {o : Oper} (ho : ops[0]? = some o) (hl : l.getD 0 true = false)
    (hr : ∀ e ∈ o.after, Region.binds .any e = true → l.getD e.on false = true) {Q : Exit → Act → World → Prop} {K : Act → World → Prop}
    (hK : ∀ a' w', RI P ops nt TK TE σ0 W R w0 tm0 ds b0 b1 b2 b3 b4 b5 b6 b7 (l.setIfInBounds 0 true) a' w' → K a' w') : wpOp P ops Q 0 K a w := by
  obtain ⟨hB, σ, hW, hE, hregs, hmap⟩ := hI
  have hi : 0 < l.size := by rw [hB.lsz]; decide
  have hlf := same_false hl hi
  obtain ⟨n1, n2, n3⟩ := needs hF hB
  have hs := hF.shape 0 o ho
  simp only [shapeAt, Bool.and_eq_true, Option.isNone_iff_eq_none] at hs
  obtain ⟨hg, hs⟩ := hs
  split at hs
  case h_2 => cases hs
  rename_i t d hop hd
  simp only [Bool.and_eq_true, Nat.beq_eq] at hs
  obtain ⟨rfl, rfl⟩ := hs
  have hrun : (execOp a.eval o).run P w = .ok (.value (.map (some w.heap.size))) (w.alloc (.map #[] 0)) := by
    simp [execOp, hop, run_makeMap]
  refine wpOp_value ho hg hrun (hK _ _ ⟨hB.step hF ho hr _, σ, ?_, ?_, regs_other hF ho rfl hregs _, fun _ => ⟨w.heap.size, 0, ?_, hE.size, ?_, Nat.zero_le _, ?_, ?_, ?_⟩⟩)
  · exact rel_other (m := w.heap.size) hW (fun b g hb => Nat.ne_of_lt (hW.dom b g hb).2) ((World.grownBy_alloc w _ none).but _)
  · exact ext_other (m := w.heap.size) hE hE.size ((World.grownBy_alloc w _ none).but _) (frozen_alloc (fun _ _ _ h => by cases h))
  · exact fun b g hb => Nat.ne_of_lt (hW.dom b g hb).2
  · exact put_getD hd (by rw [hB.tsz]; exact Nat.lt_of_lt_of_le (by decide) hF.nt)
  · intro h
    rw [set_ne (by decide)] at h
    rw [n2 h 0 (by decide)] at hlf; cases hlf
  · intro _
    have hno : ∀ i, (i = 4 ∨ i = 8 ∨ i = 12 ∨ i = 16 ∨ i = 20 ∨ i = 24 ∨ i = 29 ∨ i = 33) → (l.setIfInBounds 0 true).getD i false = false := fun i hi => by
      rw [set_ne (by omega)]
      cases hq : l.getD i false with
      | false => rfl
      | true => rw [n3 i hi hq] at hlf; cases hlf
    have hD : Dl (l.setIfInBounds 0 true) b0 b1 b2 b3 b4 b5 b6 b7 = .map [] := by
      unfold Dl
      rw [hno 4 (by simp), hno 8 (by simp), hno 12 (by simp), hno 16 (by simp), hno 20 (by simp), hno 24 (by simp), hno 29 (by simp), hno 33 (by simp)]
      rfl
    rw [hD]
    exact World.ownsMap_made _ _ _ _
  · intro h
    rw [set_ne (by decide)] at h
    rw [n2 (n1 h) 0 (by decide)] at hlf; cases hlf

theorem step_ins (hF : RF P ops nt TM TK TE σ0 W R tm0 b0 b1 b2 b3 b4 b5 b6 b7) (hI : RI P ops nt TK TE σ0 W R w0 tm0 ds b0 b1 b2 b3 b4 b5 b6 b7 l a w) {i key s k : Nat} {bj : Bool} {o : Oper} (ho : ops[i]? = some o) (hl : l.getD i true = false)
    (hr : ∀ e ∈ o.after, Region.binds .any e = true → l.getD e.on false = true) (hs : insOK ops TM key s k o = true) (hp : isPure i = false) (hi34 : i < 34) (hi0 : i ≠ 0) (hv : rget R s = .bool bj) (hwf : (Lit.int .i64 key).wf = true)
    (hput : (Dl l b0 b1 b2 b3 b4 b5 b6 b7).put (.int .i64 key) (.lit (.bool bj)) = Dl (l.setIfInBounds i true) b0 b1 b2 b3 b4 b5 b6 b7) {Q : Exit → Act → World → Prop} {K : Act → World → Prop}
    (hK : ∀ a' w', RI P ops nt TK TE σ0 W R w0 tm0 ds b0 b1 b2 b3 b4 b5 b6 b7 (l.setIfInBounds i true) a' w' → K a' w') : wpOp P ops Q i K a w := by
  obtain ⟨hB, σ, hW, hE, hregs, hmap⟩ := hI
  have hi : i < l.size := by rw [hB.lsz]; omega
  have hlf := same_false hl hi
  obtain ⟨n1, n2, n3⟩ := needs hF hB
  unfold insOK at hs
  simp only [Bool.and_eq_true, Option.isNone_iff_eq_none] at hs
  obtain ⟨⟨⟨⟨⟨hg, hd⟩, e0⟩, ek⟩, hop⟩, hk⟩ := hs
  split at hop
  case h_2 => cases hop
  rename_i t m' n' v' hop'
  simp only [Bool.and_eq_true, Nat.beq_eq, Nat.blt_eq] at hop
  obtain ⟨⟨⟨⟨⟨rfl, rfl⟩, rfl⟩, rfl⟩, hs1⟩, hs2⟩ := hop
  split at hk
  case h_2 => cases hk
  rename_i ok hok
  split at hk
  case h_2 => cases hk
  rename_i dk hdk
  obtain rfl : dk = v' := by simpa using hk
  have hval : a.tmps.getD dk undef = .bool bj := by
    have := hregs k ok dk hok ((dst_in hF hok).2.2.2 dk hdk hs1 hs2) (edgeTo_listed ek hr) hdk
    rw [hv] at this
    exact this.bool_inv
  obtain ⟨m, n, k1, k2, k3, k4, k5, k6, k7⟩ := hmap (edgeTo_listed e0 hr)
  have h34 : l.getD 34 false = false := by
    cases hq : l.getD 34 false with
    | false => rfl
    | true => rw [n2 hq i hi34] at hlf; cases hlf
  have h35 : l.getD 35 false = false := by
    cases hq : l.getD 35 false with
    | false => rfl
    | true => rw [n1 hq] at h34; cases h34
  have hkey : keyOf P TK (.int .i64 (n' : Int)) = some (.int .i64 (n' : Int)) := by
    simp [keyOf, mapKey, hF.TK, hwf]
  obtain ⟨w', hrun, hown', hgr, hsz⟩ := own_update (k6 h35) (Go.Maps.int_keyed hF.TK) hF.TM (Nat.lt_of_le_of_lt (Nat.le_trans k4 count_le) (by decide)) hkey (plainElem_bool hF.TE bj)
  have hrun' : (execOp a.eval o).run P w = .ok .skip w' := by
    have e1 : a.eval (.tmp 14) = .map (some m) := k3
    have e2 : a.eval (.tmp dk) = .bool bj := hval
    have e3 : a.eval (.const (.int .i64 (Int.ofNat n'))) = .int .i64 (n' : Int) := rfl
    simp only [execOp, hop', e1, e2, e3]
    simp [hrun]
  refine wpOp_skip ho hg hrun' (hK _ _ ⟨hB.step hF ho hr _, σ, ?_, ?_, regs_other hF ho hp hregs _, fun _ => ⟨m, n + 1, k1, k2, ?_, ?_, ?_, ?_, ?_⟩⟩)
  · exact rel_other hW k1 hgr
  · refine ext_other hE k2 hgr fun x => ?_
    by_cases e : x.block = m
    · rw [own_cold (k6 h35) e, own_cold hown' e]
    · by_cases h : x.block < w.heap.size
      · exact World.frozen?_of_block (hgr.block _ h (fun e2 => by injection e2 with e2; exact e e2))
      · rw [none_cold (w := w) (by omega), none_cold (w := w') (by omega)]
  · rw [hd]; exact k3
  · exact Nat.le_trans (Nat.succ_le_succ k4) (count_set (by rw [← hB.lsz]; exact hi) hB.lsz hlf)
  · intro h; rw [set_ne (by omega), h34] at h; cases h
  · intro _; rw [← hput]; exact hown'
  · intro h; rw [set_ne (by omega), h35] at h; cases h

theorem step_move (hF : RF P ops nt TM TK TE σ0 W R tm0 b0 b1 b2 b3 b4 b5 b6 b7) (hI : RI P ops nt TK TE σ0 W R w0 tm0 ds b0 b1 b2 b3 b4 b5 b6 b7 l a w) {o : Oper} (ho : ops[34]? = some o) (hl : l.getD 34 true = false)
    (hr : ∀ e ∈ o.after, Region.binds .any e = true → l.getD e.on false = true) {Q : Exit → Act → World → Prop} {K : Act → World → Prop}
    (hK : ∀ a' w', RI P ops nt TK TE σ0 W R w0 tm0 ds b0 b1 b2 b3 b4 b5 b6 b7 (l.setIfInBounds 34 true) a' w' → K a' w') : wpOp P ops Q 34 K a w := by
  obtain ⟨hB, σ, hW, hE, hregs, hmap⟩ := hI
  have hi : 34 < l.size := by rw [hB.lsz]; decide
  have hlf := same_false hl hi
  obtain ⟨n1, n2, n3⟩ := needs hF hB
  have hs := hF.shape 34 o ho
  simp only [shapeAt, Bool.and_eq_true, Option.isNone_iff_eq_none, List.all_eq_true] at hs
  obtain ⟨⟨hg, hs⟩, hed⟩ := hs
  split at hs
  case h_2 => cases hs
  rename_i x d hop hd
  simp only [Bool.and_eq_true, Nat.beq_eq] at hs
  obtain ⟨rfl, rfl⟩ := hs
  have h0 : l.getD 0 false = true := edgeTo_listed (hed 0 (by simp)) hr
  obtain ⟨m, n, k1, k2, k3, k4, k5, k6, k7⟩ := hmap h0
  have h35 : l.getD 35 false = false := by
    cases hq : l.getD 35 false with
    | false => rfl
    | true => rw [n1 hq] at hlf; cases hlf
  have hrun : (execOp a.eval o).run P w = .ok (.value (.map (some m))) w := by
    have e1 : a.eval (.tmp 14) = .map (some m) := k3
    simp only [execOp, hop, e1]
    rfl
  have hD : Dl (l.setIfInBounds 34 true) b0 b1 b2 b3 b4 b5 b6 b7 = Dl l b0 b1 b2 b3 b4 b5 b6 b7 := by
    unfold Dl
    rw [set_ne (by decide), set_ne (by decide), set_ne (by decide), set_ne (by decide), set_ne (by decide), set_ne (by decide), set_ne (by decide), set_ne (by decide)]
  refine wpOp_value ho hg hrun (hK _ _ ⟨hB.step hF ho hr _, σ, hW, hE, regs_other hF ho rfl hregs _, fun _ => ⟨m, n, k1, k2, ?_, ?_, ?_, ?_, ?_⟩⟩)
  · rw [put_getD_ne (by rw [hd]; intro e; injection e with e; cases e)]; exact k3
  · exact Nat.le_trans k4 (Nat.le_trans (Nat.le_succ _) (count_set (by decide) hB.lsz hlf))
  · intro _; exact put_getD hd (by rw [hB.tsz]; exact Nat.lt_of_lt_of_le (by decide) hF.nt)
  · intro _; rw [hD]; exact k6 h35
  · intro h; rw [set_ne (by decide), h35] at h; cases h

theorem step_range (hF : RF P ops nt TM TK TE σ0 W R tm0 b0 b1 b2 b3 b4 b5 b6 b7) (hI : RI P ops nt TK TE σ0 W R w0 tm0 ds b0 b1 b2 b3 b4 b5 b6 b7 l a w) {o : Oper} (ho : ops[35]? = some o) (hl : l.getD 35 true = false)
    (hr : ∀ e ∈ o.after, Region.binds .any e = true → l.getD e.on false = true) {Q : Exit → Act → World → Prop} {K : Act → World → Prop}
    (hK : ∀ a' w', RI P ops nt TK TE σ0 W R w0 tm0 ds b0 b1 b2 b3 b4 b5 b6 b7 (l.setIfInBounds 35 true) a' w' → K a' w') : wpOp P ops Q 35 K a w := by
  obtain ⟨hB, σ, hW, hE, hregs, hmap⟩ := hI
  have hi : 35 < l.size := by rw [hB.lsz]; decide
  have hlf := same_false hl hi
  obtain ⟨n1, n2, n3⟩ := needs hF hB
  have hs := hF.shape 35 o ho
  simp only [shapeAt, Bool.and_eq_true, Option.isNone_iff_eq_none] at hs
  obtain ⟨⟨hg, hs⟩, hed⟩ := hs
  split at hs
  case h_2 => cases hs
  rename_i t x d hop hd
  simp only [Bool.and_eq_true, Nat.beq_eq] at hs
  obtain ⟨⟨rfl, rfl⟩, rfl⟩ := hs
  have h34 : l.getD 34 false = true := edgeTo_listed hed hr
  obtain ⟨m, n, k1, k2, k3, k4, k5, k6, k7⟩ := hmap (n2 h34 0 (by decide))
  obtain ⟨w', hrun, hrg, hgr, hsz⟩ := (k6 hlf).range (Go.Maps.int_keyed hF.TK) hF.TM
  have hrun' : (execOp a.eval o).run P w = .ok (.value (.pointer (some ⟨w.heap.size, 0, none⟩))) w' := by
    have e1 : a.eval (.tmp 40) = .map (some m) := k5 h34
    simp only [execOp, hop, e1]
    simp [hrun]
  have hcold : ∀ x : Addr, x.block = w.heap.size → w'.frozen? x = false := fun x e => by
    obtain ⟨es, clock, since, seen, c0, _, _, _, _, hr, _⟩ := hrg
    unfold World.frozen?
    rw [e, hr]
  have hD : Dl (l.setIfInBounds 35 true) b0 b1 b2 b3 b4 b5 b6 b7 = Dl l b0 b1 b2 b3 b4 b5 b6 b7 := by
    unfold Dl
    rw [set_ne (by decide), set_ne (by decide), set_ne (by decide), set_ne (by decide), set_ne (by decide), set_ne (by decide), set_ne (by decide), set_ne (by decide)]
  refine wpOp_value ho hg hrun' (hK _ _ ⟨hB.step hF ho hr _, σ, ?_, ?_, regs_other hF ho rfl hregs _, fun _ => ⟨m, n, k1, k2, ?_, ?_, ?_, ?_, ?_⟩⟩)
  · exact rel_other (m := w.heap.size) hW (fun b g hb => Nat.ne_of_lt (hW.dom b g hb).2) (hgr.but _)
  · refine ext_other (m := w.heap.size) hE hE.size (hgr.but _) fun x => ?_
    by_cases h : x.block < w.heap.size
    · exact World.frozen?_of_block (hgr.block _ h (by simp))
    · rw [none_cold (w := w) (by omega)]
      by_cases e : x.block = w.heap.size
      · exact hcold x e
      · exact none_cold (by omega)
  · rw [put_getD_ne (by rw [hd]; intro e; injection e with e; cases e)]; exact k3
  · exact Nat.le_trans k4 (Nat.le_trans (Nat.le_succ _) (count_set (by decide) hB.lsz hlf))
  · intro _; rw [put_getD_ne (by rw [hd]; intro e; injection e with e; cases e)]; exact k5 h34
  · intro h; rw [set_same hi] at h; cases h
  · intro _
    refine ⟨w.heap.size, put_getD hd (by rw [hB.tsz]; exact Nat.lt_of_lt_of_le (by decide) hF.nt), fun b g hb => Nat.ne_of_lt (hW.dom b g hb).2, hE.size, ?_⟩
    rw [hD]
    exact hrg

theorem ready_nil (hF : RF P ops nt TM TK TE σ0 W R tm0 b0 b1 b2 b3 b4 b5 b6 b7) (hB : RB ops nt tm0 ds l a) (h : Region.ready .any ops l = []) : ∀ i, i < 36 → l.getD i false = true := by
  have key : ∀ n i, i < n → i < 36 → l.getD i false = true := by
    intro n
    induction n with
    | zero => intro i h; exact absurd h (Nat.not_lt_zero _)
    | succ n ih =>
      intro i hi hi36
      by_cases hlt : i < n
      · exact ih i hlt hi36
      · have hin : i < ops.size := by rw [hF.size]; exact hi36
        have ho : ops[i]? = some ops[i] := Array.getElem?_eq_getElem hin
        cases hq : l.getD i false with
        | true => rfl
        | false =>
          exfalso
          have hb := hF.back i _ ho
          unfold backOK at hb
          have hil : i < l.size := by rw [hB.lsz]; exact hi36
          have : i ∈ Region.ready .any ops l := mem_ready.2 ⟨by
            simp only [Array.getD_eq_getD_getElem?] at hq ⊢
            rw [Array.getElem?_eq_getElem hil] at hq ⊢
            exact hq, _, ho, fun e he hbd => by
            rw [Array.all_eq_true'] at hb
            have h1 := hb e he
            rw [Nat.blt_eq] at h1
            exact ih e.on (by omega) (by omega)⟩
          rw [h] at this
          cases this
  exact fun i hi => key (i + 1) i (Nat.lt_succ_self i) hi

theorem step_any (hF : RF P ops nt TM TK TE σ0 W R tm0 b0 b1 b2 b3 b4 b5 b6 b7) (hI : RI P ops nt TK TE σ0 W R w0 tm0 ds b0 b1 b2 b3 b4 b5 b6 b7 l a w) {i : Nat} (hi : i ∈ Region.ready .any ops l) {Q : Exit → Act → World → Prop} {K : Act → World → Prop}
    (hK : ∀ a' w', RI P ops nt TK TE σ0 W R w0 tm0 ds b0 b1 b2 b3 b4 b5 b6 b7 (l.setIfInBounds i true) a' w' → K a' w') : wpOp P ops Q i K a w := by
  obtain ⟨hl, o, ho, hr⟩ := mem_ready.1 hi
  have hsz : l.size = 36 := hI.base.lsz
  cases hp : isPure i with
  | true => exact step_pure hF hI ho hl hr hp hK
  | false =>
    have hs := hF.shape i o ho
    have hc : i = 0 ∨ i = 4 ∨ i = 8 ∨ i = 12 ∨ i = 16 ∨ i = 20 ∨ i = 24 ∨ i = 29 ∨ i = 33 ∨ i = 34 ∨ i = 35 := by
      unfold isPure at hp
      split at hp <;> first | simp | cases hp
    rcases hc with rfl | rfl | rfl | rfl | rfl | rfl | rfl | rfl | rfl | rfl | rfl
    · exact step_make hF hI ho hl hr hK
    · exact step_ins hF hI ho hl hr hs rfl (by decide) (by decide) hF.v0 rfl (by unfold Dl; rw [set_same (by omega), set_ne (show (4 : Nat) ≠ 8 by decide), set_ne (show (4 : Nat) ≠ 12 by decide), set_ne (show (4 : Nat) ≠ 16 by decide), set_ne (show (4 : Nat) ≠ 20 by decide), set_ne (show (4 : Nat) ≠ 24 by decide), set_ne (show (4 : Nat) ≠ 29 by decide), set_ne (show (4 : Nat) ≠ 33 by decide)]; exact put0 ..) hK
    · exact step_ins hF hI ho hl hr hs rfl (by decide) (by decide) hF.v1 rfl (by unfold Dl; rw [set_same (by omega), set_ne (show (8 : Nat) ≠ 4 by decide), set_ne (show (8 : Nat) ≠ 12 by decide), set_ne (show (8 : Nat) ≠ 16 by decide), set_ne (show (8 : Nat) ≠ 20 by decide), set_ne (show (8 : Nat) ≠ 24 by decide), set_ne (show (8 : Nat) ≠ 29 by decide), set_ne (show (8 : Nat) ≠ 33 by decide)]; exact put1 ..) hK
    · exact step_ins hF hI ho hl hr hs rfl (by decide) (by decide) hF.v2 rfl (by unfold Dl; rw [set_same (by omega), set_ne (show (12 : Nat) ≠ 4 by decide), set_ne (show (12 : Nat) ≠ 8 by decide), set_ne (show (12 : Nat) ≠ 16 by decide), set_ne (show (12 : Nat) ≠ 20 by decide), set_ne (show (12 : Nat) ≠ 24 by decide), set_ne (show (12 : Nat) ≠ 29 by decide), set_ne (show (12 : Nat) ≠ 33 by decide)]; exact put2 ..) hK
    · exact step_ins hF hI ho hl hr hs rfl (by decide) (by decide) hF.v3 rfl (by unfold Dl; rw [set_same (by omega), set_ne (show (16 : Nat) ≠ 4 by decide), set_ne (show (16 : Nat) ≠ 8 by decide), set_ne (show (16 : Nat) ≠ 12 by decide), set_ne (show (16 : Nat) ≠ 20 by decide), set_ne (show (16 : Nat) ≠ 24 by decide), set_ne (show (16 : Nat) ≠ 29 by decide), set_ne (show (16 : Nat) ≠ 33 by decide)]; exact put3 ..) hK
    · exact step_ins hF hI ho hl hr hs rfl (by decide) (by decide) hF.v4 rfl (by unfold Dl; rw [set_same (by omega), set_ne (show (20 : Nat) ≠ 4 by decide), set_ne (show (20 : Nat) ≠ 8 by decide), set_ne (show (20 : Nat) ≠ 12 by decide), set_ne (show (20 : Nat) ≠ 16 by decide), set_ne (show (20 : Nat) ≠ 24 by decide), set_ne (show (20 : Nat) ≠ 29 by decide), set_ne (show (20 : Nat) ≠ 33 by decide)]; exact put4 ..) hK
    · exact step_ins hF hI ho hl hr hs rfl (by decide) (by decide) hF.v5 rfl (by unfold Dl; rw [set_same (by omega), set_ne (show (24 : Nat) ≠ 4 by decide), set_ne (show (24 : Nat) ≠ 8 by decide), set_ne (show (24 : Nat) ≠ 12 by decide), set_ne (show (24 : Nat) ≠ 16 by decide), set_ne (show (24 : Nat) ≠ 20 by decide), set_ne (show (24 : Nat) ≠ 29 by decide), set_ne (show (24 : Nat) ≠ 33 by decide)]; exact put5 ..) hK
    · exact step_ins hF hI ho hl hr hs rfl (by decide) (by decide) hF.v6 rfl (by unfold Dl; rw [set_same (by omega), set_ne (show (29 : Nat) ≠ 4 by decide), set_ne (show (29 : Nat) ≠ 8 by decide), set_ne (show (29 : Nat) ≠ 12 by decide), set_ne (show (29 : Nat) ≠ 16 by decide), set_ne (show (29 : Nat) ≠ 20 by decide), set_ne (show (29 : Nat) ≠ 24 by decide), set_ne (show (29 : Nat) ≠ 33 by decide)]; exact put6 ..) hK
    · exact step_ins hF hI ho hl hr hs rfl (by decide) (by decide) hF.v7 rfl (by unfold Dl; rw [set_same (by omega), set_ne (show (33 : Nat) ≠ 4 by decide), set_ne (show (33 : Nat) ≠ 8 by decide), set_ne (show (33 : Nat) ≠ 12 by decide), set_ne (show (33 : Nat) ≠ 16 by decide), set_ne (show (33 : Nat) ≠ 20 by decide), set_ne (show (33 : Nat) ≠ 24 by decide), set_ne (show (33 : Nat) ≠ 29 by decide)]; exact put7 ..) hK
    · exact step_move hF hI ho hl hr hK
    · exact step_range hF hI ho hl hr hK

def Dall (b0 b1 b2 b3 b4 b5 b6 b7 : Bool) : DataW Unit := Dof true true true true true true true true b0 b1 b2 b3 b4 b5 b6 b7
/-- what stands behind the region -/
structure RQ (P : Program) (nt TK TE : Nat) (σ0 : Inj) (W : AW) (w0 : World) (tm0 : Array Value) (ds : List Deferred) (b0 b1 b2 b3 b4 b5 b6 b7 : Bool) (a : Act) (w : World) (σ : Inj) (m r n : Nat) : Prop where
  tsz : a.tmps.size = nt
  dfs : a.defers = ds
  old : ∀ t, (t < 14 ∨ 41 < t) → a.tmps[t]? = tm0[t]?
  it : a.tmps.getD 41 undef = .pointer (some ⟨r, 0, none⟩)
  rel : WRel σ W w.heap
  ext : Ext σ0 W w0 σ W w
  nm : ∀ b g, σ b = some g → g.B ≠ m
  nr : ∀ b g, σ b = some g → g.B ≠ r
  gm : w0.heap.size ≤ m
  gr : w0.heap.size ≤ r
  rg : w.ranges P TK (plainElem P TE) m r n (Dall b0 b1 b2 b3 b4 b5 b6 b7) (Maps.has (Dall b0 b1 b2 b3 b4 b5 b6 b7)) (Maps.size (Dall b0 b1 b2 b3 b4 b5 b6 b7))

theorem RI.done (hF : RF P ops nt TM TK TE σ0 W R tm0 b0 b1 b2 b3 b4 b5 b6 b7) (hI : RI P ops nt TK TE σ0 W R w0 tm0 ds b0 b1 b2 b3 b4 b5 b6 b7 l a w) (h : ∀ i, i < 36 → l.getD i false = true) :
    ∃ σ m r n, RQ P nt TK TE σ0 W w0 tm0 ds b0 b1 b2 b3 b4 b5 b6 b7 a w σ m r n := by
  obtain ⟨hB, σ, hW, hE, hregs, hmap⟩ := hI
  obtain ⟨m, n, k1, k2, k3, k4, k5, k6, k7⟩ := hmap (h 0 (by decide))
  obtain ⟨r, p1, p2, p3, p4⟩ := k7 (h 35 (by decide))
  have hD : Dl l b0 b1 b2 b3 b4 b5 b6 b7 = Dall b0 b1 b2 b3 b4 b5 b6 b7 := by
    unfold Dl Dall
    rw [h 4 (by decide), h 8 (by decide), h 12 (by decide), h 16 (by decide), h 20 (by decide), h 24 (by decide), h 29 (by decide), h 33 (by decide)]
  rw [hD] at p4
  exact ⟨σ, m, r, n, hB.tsz, hB.dfs, hB.old, p1, hW, hE, k1, p2, k2, p3, p4⟩

theorem region_any (hF : RF P ops nt TM TK TE σ0 W R tm0 b0 b1 b2 b3 b4 b5 b6 b7) {Q : Exit → Act → World → Prop} (hQ : ∀ a' w' σ m r n, RQ P nt TK TE σ0 W w0 tm0 ds b0 b1 b2 b3 b4 b5 b6 b7 a' w' σ m r n → Q .normal a' w') :
    ∀ (fuel : Nat) (l : Array Bool) (a : Act) (w : World), RI P ops nt TK TE σ0 W R w0 tm0 ds b0 b1 b2 b3 b4 b5 b6 b7 l a w → unl 36 l ≤ fuel → wpAny P .any ops Q fuel l a w := by
  intro fuel
  induction fuel with
  | zero =>
    intro l a w hI hu
    have hall : ∀ i, i < 36 → l.getD i false = true := fun i hi => by
      have h1 := unl_zero (n := 36) (l := l) (by omega) hi
      have hil : i < l.size := by rw [hI.base.lsz]; exact hi
      simp only [Array.getD_eq_getD_getElem?] at h1 ⊢
      rw [Array.getElem?_eq_getElem hil] at h1 ⊢
      exact h1
    refine ⟨?_, ?_⟩
    · rw [List.eq_nil_iff_forall_not_mem]
      intro i hi
      obtain ⟨h1, o, ho, _⟩ := mem_ready.1 hi
      have hi36 : i < 36 := by rw [← hF.size]; exact (Array.getElem?_eq_some_iff.1 ho).1
      have := hall i hi36
      rw [same_false h1 (by rw [hI.base.lsz]; exact hi36)] at this
      cases this
    · obtain ⟨σ, m, r, n, h⟩ := hI.done hF hall
      exact hQ _ _ _ _ _ _ h
  | succ fuel ih =>
    intro l a w hI hu
    refine ⟨fun hr => ?_, fun i hi => ?_⟩
    · obtain ⟨σ, m, r, n, h⟩ := hI.done hF (ready_nil hF hI.base hr)
      exact hQ _ _ _ _ _ _ h
    · refine step_any hF hI hi fun a' w' hI' => ih _ a' w' hI' ?_
      obtain ⟨h1, o, ho, _⟩ := mem_ready.1 hi
      have hi36 : i < 36 := by rw [← hF.size]; exact (Array.getElem?_eq_some_iff.1 ho).1
      have := unl_set (l := l) hi36 (by rw [hI.base.lsz]; exact hi36) h1
      omega

theorem region_map (hm : P.follows .mixedOrders = true) {id : Nat} (hF : RF P ops nt TM TK TE σ0 W R a.tmps b0 b1 b2 b3 b4 b5 b6 b7) (hnt : a.tmps.size = nt) (hW : WRel σ0 W w.heap) {Q : Exit → Act → World → Prop}
    (hQ : ∀ a' w' σ m r n, RQ P nt TK TE σ0 W w a.tmps a.defers b0 b1 b2 b3 b4 b5 b6 b7 a' w' σ m r n → Q .normal a' w') : (Code.region id ops true).wp P Q a w := by
  refine wp_region_any hm ?_
  have hno : ∀ i, (Array.replicate ops.size false).getD i false = false := fun i => by
    simp only [Array.getD_eq_getD_getElem?, Array.getElem?_replicate]
    split <;> rfl
  refine region_any (w0 := w) (tm0 := a.tmps) (ds := a.defers) hF hQ _ _ _ _ ⟨⟨by simp [hF.size], hnt, rfl, ?_, fun _ _ => rfl⟩, σ0, hW, .drawn _ _ _ _, ?_, ?_⟩ ?_
  · intro i hi; rw [hno] at hi; cases hi
  · intro i o d _ _ hl; rw [hno] at hl; cases hl
  · intro hl; rw [hno] at hl; cases hl
  · unfold unl
    have := List.countP_le_length (p := fun i => !(Array.replicate ops.size false).getD i true) (l := List.range 36)
    rw [hF.size] at this ⊢
    simpa using this
end
end Go.Eng
