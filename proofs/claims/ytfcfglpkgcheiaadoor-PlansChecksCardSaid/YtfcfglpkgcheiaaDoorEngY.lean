/- The map literal's region: its facts by closed checks; a call that leaves all that was there. -/
import Derived.Test.YtfcfglpkgcheiaaDoorEngX
import Derived.Laws.StructEq
import Derived.ChangeKeysEq
namespace Go.Eng
open Go Go.RowKit
set_option linter.unusedSectionVars false
set_option linter.unusedSimpArgs false
set_option linter.unusedVariables false
variable [PlanTab]

/-- all that was there is there; what is new is not frozen -/
structure Quiet (w w' : World) : Prop where
  os : w'.os = w.os
  tape : w'.tape = w.tape
  output : w'.output = w.output
  size : w.heap.size ≤ w'.heap.size
  block : ∀ B, B < w.heap.size → w'.heap[B]? = w.heap[B]?
  fr : ∀ a, w'.frozen? a = w.frozen? a
theorem Quiet.refl (w : World) : Quiet w w := ⟨rfl, rfl, rfl, Nat.le_refl _, fun _ _ => rfl, fun _ => rfl⟩
theorem Quiet.trans {w w' w'' : World} (h : Quiet w w') (k : Quiet w' w'') : Quiet w w'' :=
  ⟨k.os.trans h.os, k.tape.trans h.tape, k.output.trans h.output, Nat.le_trans h.size k.size, fun B hB => (k.block B (Nat.lt_of_lt_of_le hB h.size)).trans (h.block B hB), fun a => (k.fr a).trans (h.fr a)⟩
theorem Quiet.grown {w w' : World} (h : Quiet w w') : Grown w w' := by
  refine ⟨⟨h.os, h.output, fun i hi => ?_⟩, h.fr, h.size⟩
  rw [h.block i hi]
  cases w.heap[i]? with
  | none => rfl
  | some o => cases o <;> first | rfl | exact ⟨rfl, rfl, rfl, fun _ _ => rfl⟩ | exact .inr ⟨rfl, rfl⟩
theorem Quiet.cell {w w' : World} (h : Quiet w w') {a : Addr} {v : Value} (hc : w.cell? a = some v) : w'.cell? a = some v := by
  have hlt : a.block < w.heap.size := by
    rcases Nat.lt_or_ge a.block w.heap.size with h' | h'
    · exact h'
    · unfold World.cell? at hc; rw [Array.getElem?_eq_none h'] at hc; simp at hc
  rw [World.cell?_of_block (h.block _ hlt)]; exact hc
theorem Quiet.rel {w w' : World} (h : Quiet w w') {σ : Inj} {W : AW} (hW : WRel σ W w.heap) : WRel σ W w'.heap where
  free := hW.free
  dom b g hb := ⟨(hW.dom b g hb).1, Nat.lt_of_lt_of_le (hW.dom b g hb).2 h.size⟩
  obj b o g hb hσ := (hW.obj b o g hb hσ).same (h.block _ (hW.dom b g hσ).2)
  disj := hW.disj
theorem Quiet.ext {w w' : World} (h : Quiet w w') (σ : Inj) (W : AW) : Ext σ W w σ W w' :=
  ⟨.refl _, fun _ _ h => h, h.size, h.os, h.tape, h.output, fun B hB _ => h.block B hB, fun _ _ a b => ⟨a, b⟩, fun _ _ a _ => .inl a, h.fr⟩
/-- a block that is new turns -/
theorem Quiet.other {w w' w'' : World} (h : Quiet w w') {r : Nat} (hr : w.heap.size ≤ r) (hg : w'.grownBy w'' (some r)) (hsz : w''.heap.size = w'.heap.size)
    (h1 : ∀ a : Addr, a.block = r → w'.frozen? a = false) (h2 : ∀ a : Addr, a.block = r → w''.frozen? a = false) : Quiet w w'' := by
  refine ⟨hg.os.trans h.os, hg.tape.trans h.tape, hg.output.trans h.output, Nat.le_trans h.size hg.size, fun B hB => (hg.block B (Nat.lt_of_lt_of_le hB h.size) (fun e => by injection e with e; omega)).trans (h.block B hB), fun a => ?_⟩
  rw [← h.fr a]
  by_cases e : a.block = r
  · rw [h1 a e, h2 a e]
  · by_cases hl : a.block < w'.heap.size
    · exact World.frozen?_of_block (hg.block _ hl (fun e2 => by injection e2 with e2; exact e e2))
    · rw [none_cold (w := w') (by omega), none_cold (w := w'') (by omega)]
theorem ranges_cold {H : Type} {P : Program} {k : TypeId} {w : World} {Re : Value → Option (DataW H × List MemPlace)} {b r n cnt : Nat} {D : DataW H} {left : Lit → Bool} (h : w.ranges P k Re b r n D left cnt) {a : Addr} (ha : a.block = r) : w.frozen? a = false := by
  obtain ⟨es, clock, since, seen, c0, _, _, _, _, hr, _⟩ := h
  unfold World.frozen?
  rw [ha, hr]

/-- the box in which an argument lies -/
def σbox (B n : Nat) : Inj := fun b => if b = 0 then some ⟨B, 0, n⟩ else none
noncomputable def Wbox (cs : List Value) : AW := ⟨T.set (some (.cells cs)) (path 0) .lf, 1⟩
noncomputable def Rbox : PlanTab.Fr := rset PlanTab.blank 1 (.pointer (some ⟨0, 0, none⟩))
theorem Wbox_none {cs : List Value} {b : Nat} (e : b ≠ 0) : (Wbox cs).get b = none := by
  show T.get (path b) (T.set (some (AObj.cells cs)) (path 0) .lf) = _
  exact (T.get_set_ne _ _ _ _ (path_ne (Ne.symm e))).trans (T.get_lf _)
theorem Wbox_get (cs : List Value) {b : Nat} {o : AObj} (h : (Wbox cs).get b = some o) : b = 0 ∧ o = .cells cs := by
  by_cases e : b = 0
  · subst e
    have : (Wbox cs).get 0 = some (.cells cs) := by
      show T.get (path 0) (T.set (some (AObj.cells cs)) (path 0) .lf) = _
      exact T.get_set _ _ _
    rw [this] at h
    injection h with h
    exact ⟨rfl, h.symm⟩
  · have : (Wbox cs).get b = none := Wbox_none e
    rw [this] at h; cases h
theorem rel_box (w : World) (t : TypeId) (cs : List Value) (hp : cs.all plain = true) : WRel (σbox w.heap.size cs.length) (Wbox cs) (w.alloc (.cells cs.toArray t)).heap where
  free b hb := Wbox_none (by have h1 : 1 ≤ b := hb; intro e; subst e; exact absurd h1 (by decide))
  dom b g hb := by
    unfold σbox at hb
    split at hb
    · rename_i e; subst e; injection hb with hb; subst hb
      exact ⟨Nat.lt_succ_self 0, by simp⟩
    · cases hb
  obj b o g hb hg := by
    obtain ⟨rfl, rfl⟩ := Wbox_get cs hb
    injection hg with hg
    subst hg
    refine ⟨cs.toArray, t, (MapKept.heap_alloc w _).1, by simp, by simp, fun i v hv => ⟨v, by simpa using hv, ?_⟩⟩
    exact plain_refl (List.all_eq_true.1 hp v (List.mem_of_getElem? hv))
  disj b1 b2 o1 o2 g1 g2 hne h1 h2 _ _ _ := absurd ((Wbox_get cs h1).1.trans (Wbox_get cs h2).1.symm) hne
theorem quiet_box {w w2 : World} {t : TypeId} {cs : List Value} {n : Nat} {σ : Inj} (h : Ext (σbox w.heap.size n) (Wbox cs) (w.alloc (.cells cs.toArray t)) σ (Wbox cs) w2) : Quiet w w2 := by
  have hsz : (w.alloc (.cells cs.toArray t)).heap.size = w.heap.size + 1 := by simp
  refine ⟨h.os, h.tape, h.output, by have := h.size; omega, fun B hB => ?_, fun a => ?_⟩
  · rw [h.keep B (by omega) ?_]
    · exact (World.grownBy_alloc w _ none).block B hB (by simp)
    · rintro ⟨b, g, hb, hg, _⟩
      unfold σbox at hb
      split at hb
      · injection hb with hb; subst hb; simp only at hg; omega
      · cases hb
  · rw [h.fr a]
    by_cases hl : a.block < w.heap.size
    · exact World.frozen?_of_block ((World.grownBy_alloc w _ none).block _ hl (by simp))
    · rw [none_cold (w := w) (by omega)]
      by_cases e : a.block = w.heap.size
      · unfold World.frozen?
        rw [e, (MapKept.heap_alloc w _).1]
        simp
      · exact none_cold (by omega)

def pureIdx : List Nat := (List.range 36).filter isPure
noncomputable def runPure (P : Program) (ops : Array Oper) (W : AW) : List Nat → PlanTab.Fr → PlanTab.Fr
  | [], R => R
  | i :: l, R => match ops[i]? with
    | some o => (match aOp P o R W with
      | some (v, _) => runPure P ops W l (rput R o.dst v)
      | none => R)
    | none => R
theorem shape_of {ops : Array Oper} {TM : Nat} (h : shapeOK ops TM = true) : ops.size = 36 ∧ ∀ i o, ops[i]? = some o → shapeAt ops TM i o = true ∧ backOK i o = true := by
  unfold shapeOK at h
  rw [Bool.and_eq_true, Nat.beq_eq, List.all_eq_true] at h
  refine ⟨h.1, fun i o ho => ?_⟩
  have := h.2 i (by have := (Array.getElem?_eq_some_iff.1 ho).1; simp; omega)
  rw [ho] at this
  simpa using this
theorem vals_of {P : Program} {ops : Array Oper} {R : PlanTab.Fr} {W : AW} (hsz : ops.size = 36)
    (h : (pureIdx.map fun i => (ops[i]?).bind fun o => aOp P o R W) = pureIdx.map fun i => (ops[i]?).bind fun o => o.dst.map fun d => (rget R d, W)) :
    ∀ i o d, ops[i]? = some o → isPure i = true → o.dst = some d → aOp P o R W = some (rget R d, W) := by
  intro i o d ho hp hd
  have hi : i ∈ pureIdx := List.mem_filter.2 ⟨by have := (Array.getElem?_eq_some_iff.1 ho).1; simp; omega, hp⟩
  have := List.map_inj_left.1 h i hi
  simpa [ho, hd] using this


section
variable {P : Program}
theorem eqFields_int {d : Nat} {xs ys : Array Value} {f : Field} {fs : List Field} {k : IntKind} {a b : Int} {r : Bool} {w : World} (hn : f.name ≠ "_") (hk : P.plainKey f.type = true) (hu : P.underlying f.type = some (.int k))
    (hx : xs[f.offset]? = some (.int k a)) (hy : ys[f.offset]? = some (.int k b)) (hr : (Op.eqFields (d + 1) xs ys fs).run P w = .ok r w) : (Op.eqFields (d + 1) xs ys (f :: fs)).run P w = .ok ((a == b) && r) w := by
  unfold Op.eqFields
  rw [if_pos hn, Sem.run_bind, run_part_plain w hk hx, Result.andThen_ok, Sem.run_bind, run_part_plain w hk hy, Result.andThen_ok, Sem.run_bind, run_equalIn_int _ _ _ _ _ _ _ hu, Result.andThen_ok]
  cases a == b
  · simp
  · simpa using hr
/-- a struct of four integers held against nought -/
theorem neq_four {t : TypeId} {x y : Operand} {f0 f1 f2 f3 : Field} {k0 k1 k2 k3 : IntKind} {a b c d : Int} (hs : P.underlying t = some (.struct (P.fieldsOf t))) (hp : P.stoodInHeld t = false) (hm : P.eqGuardType P.depth t = false)
    (hf : (P.fieldsOf t).toList = [f0, f1, f2, f3]) (n0 : f0.name ≠ "_") (n1 : f1.name ≠ "_") (n2 : f2.name ≠ "_") (n3 : f3.name ≠ "_") (p0 : P.plainKey f0.type = true) (p1 : P.plainKey f1.type = true) (p2 : P.plainKey f2.type = true) (p3 : P.plainKey f3.type = true)
    (u0 : P.underlying f0.type = some (.int k0)) (u1 : P.underlying f1.type = some (.int k1)) (u2 : P.underlying f2.type = some (.int k2)) (u3 : P.underlying f3.type = some (.int k3)) (o0 : f0.offset = 0) (o1 : f1.offset = 1) (o2 : f2.offset = 2) (o3 : f3.offset = 3) (w : World) :
    (do eqGuard .neq t x y (.agg #[.int k0 a, .int k1 b, .int k2 c, .int k3 d]) (.agg #[.int k0 0, .int k1 0, .int k2 0, .int k3 0]); binOp .neq t (.agg #[.int k0 a, .int k1 b, .int k2 c, .int k3 d]) (.agg #[.int k0 0, .int k1 0, .int k2 0, .int k3 0]) : Sem Value).run P w =
      .ok (.bool (!((a == 0) && ((b == 0) && ((c == 0) && ((d == 0) && true)))))) w := by
  have h9 : ∀ xs ys : Array Value, (Op.equalIn 10000 t (.agg xs) (.agg ys)).run P w = (Op.eqFields 9999 xs ys (P.fieldsOf t).toList).run P w := fun xs ys => run_equalIn_struct w 9999 t xs ys hs hp
  have h3 := eqFields_int (P := P) (d := 9998) (xs := #[.int k0 a, .int k1 b, .int k2 c, .int k3 d]) (ys := #[.int k0 0, .int k1 0, .int k2 0, .int k3 0]) (fs := []) (r := true) (w := w) n3 p3 u3 (by rw [o3]; rfl) (by rw [o3]; rfl) (by simp [Op.eqFields])
  have h2 := eqFields_int n2 p2 u2 (by rw [o2]; rfl) (by rw [o2]; rfl) h3
  have h1 := eqFields_int n1 p1 u1 (by rw [o1]; rfl) (by rw [o1]; rfl) h2
  have h0 := eqFields_int n0 p0 u0 (by rw [o0]; rfl) (by rw [o0]; rfl) h1
  have h0' : (Op.eqFields 9999 #[.int k0 a, .int k1 b, .int k2 c, .int k3 d] #[.int k0 0, .int k1 0, .int k2 0, .int k3 0] [f0, f1, f2, f3]).run P w = _ := h0
  rw [Sem.run_bind, run_eqGuard_agg _ _ _ _ _ _ _ hm, Result.andThen_ok, run_neq_struct, h9, hf, h0', Result.andThen_ok]
end

def idx32 : List Nat := pureIdx.filter fun i => !Nat.beq i 28
noncomputable def R32 (P : Program) (ops : Array Oper) (cs : List Value) (b6 : Bool) : PlanTab.Fr := rset (runPure P ops (Wbox cs) idx32 Rbox) 36 (.bool b6)
def op32 (TT : Nat) (o : Oper) : Bool := match o.op, o.dst with | .binOp .neq t (.tmp x) (.tmp y) _, some d => Nat.beq t TT && Nat.beq x 34 && Nat.beq y 35 && Nat.beq d 36 | _, _ => false
/-- THE REGION, by closed checks -/
theorem region_map4 {P : Program} (hm : P.follows .mixedOrders = true) {id nt TM TK TE TT B : Nat} {ops : Array Oper} {cs : List Value} {a : Act} {w : World} {b0 b1 b2 b3 b4 b5 b6 b7 : Bool} {Q : Exit → Act → World → Prop} {tk zk : Array Value}
    (h1 : shapeOK ops TM = true)
    (h2 : (idx32.map fun i => (ops[i]?).bind fun o => aOp P o (R32 P ops cs b6) (Wbox cs)) = idx32.map fun i => (ops[i]?).bind fun o => o.dst.map fun d => (rget (R32 P ops cs b6) d, Wbox cs))
    (v0 : rget (R32 P ops cs b6) 17 = .bool b0) (v1 : rget (R32 P ops cs b6) 20 = .bool b1) (v2 : rget (R32 P ops cs b6) 23 = .bool b2) (v3 : rget (R32 P ops cs b6) 26 = .bool b3)
    (v4 : rget (R32 P ops cs b6) 29 = .bool b4) (v5 : rget (R32 P ops cs b6) 32 = .bool b5) (v7 : rget (R32 P ops cs b6) 39 = .bool b7)
    (c1 : rget (R32 P ops cs b6) 34 = .agg tk) (c2 : rget (R32 P ops cs b6) 35 = .agg zk) (c3 : plain (.agg tk) = true) (c4 : plain (.agg zk) = true) (c5 : (ops[28]?).any (op32 TT) = true)
    (c6 : ∀ w, (do eqGuard .neq TT (.tmp 34) (.tmp 35) (.agg tk) (.agg zk); binOp .neq TT (.agg tk) (.agg zk) : Sem Value).run P w = .ok (.bool b6) w)
    (h3 : rget (R32 P ops cs b6) 1 = .pointer (some ⟨0, 0, none⟩)) (h4 : a.tmps.getD 1 undef = .pointer (some ⟨B, 0, none⟩)) (h5 : 42 ≤ nt) (h6 : a.tmps.size = nt)
    (tM : P.underlying TM = some (.map TK TE)) (tK : P.underlying TK = some (.int .i64)) (tE : P.underlying TE = some .bool) {n : Nat} (hW : WRel (σbox B n) (Wbox cs) w.heap)
    (hQ : ∀ a' w' σ m r k, RQ P nt TK TE (σbox B n) (Wbox cs) w a.tmps a.defers b0 b1 b2 b3 b4 b5 b6 b7 a' w' σ m r k → Q .normal a' w') : (Code.region id ops true).wp P Q a w := by
  obtain ⟨hsz, hsh⟩ := shape_of h1
  have v6 : rget (R32 P ops cs b6) 36 = .bool b6 := rget_rset _ _ _
  refine region_map (nt := nt) (TM := TM) (TK := TK) (TE := TE) (R := R32 P ops cs b6) hm ⟨hsz, fun i o ho => (hsh i o ho).1, fun i o ho => (hsh i o ho).2, ?_, v0, v1, v2, v3, v4, v5, v6, v7, ?_, h5, tM, tK, tE⟩ h6 hW hQ
  · intro i o d ho hp hd σ w ρ hW hρ
    by_cases h32 : i = 28
    · subst h32
      rw [ho] at c5
      simp only [Option.any_some] at c5
      unfold op32 at c5
      split at c5
      case h_2 => cases c5
      rename_i t x y dt d' hop hd'
      simp only [Bool.and_eq_true, Nat.beq_eq] at c5
      obtain ⟨⟨⟨rfl, rfl⟩, rfl⟩, rfl⟩ := c5
      rw [hd] at hd'
      injection hd' with hd'
      subst hd'
      rw [v6]
      have e1 : ρ (.tmp 34) = .agg tk := by
        have := hρ (.tmp 34) (by rw [hop]; simp [Op.operands])
        rw [show aEval (R32 P ops cs b6) (.tmp 34) = .agg tk from c1] at this
        exact plain_eq c3 this
      have e2 : ρ (.tmp 35) = .agg zk := by
        have := hρ (.tmp 35) (by rw [hop]; simp [Op.operands])
        rw [show aEval (R32 P ops cs b6) (.tmp 35) = .agg zk from c2] at this
        exact plain_eq c4 this
      refine Does.value (s := do eqGuard .neq t (.tmp 34) (.tmp 35) (.agg tk) (.agg zk); binOp .neq t (.agg tk) (.agg zk)) ?_ hW (c6 w) (.bool b6)
      simp only [execOp, hop, e1, e2]
    · have hi : i ∈ idx32 := List.mem_filter.2 ⟨List.mem_filter.2 ⟨by have := (Array.getElem?_eq_some_iff.1 ho).1; simp; omega, hp⟩, by cases hb : Nat.beq i 28 with | false => rfl | true => exact absurd (Nat.eq_of_beq_eq_true hb) h32⟩
      have := List.map_inj_left.1 h2 i hi
      exact aOp_run hW (by simpa [ho, hd] using this) hρ
  · rw [h3, h4]
    exact VR.ptr (σ := σbox B n) ⟨0, 0, none⟩ ⟨B, 0, n⟩ rfl rfl

theorem arr_of {tm tm0 : Array Value} {it : Value} (h : tm.size = 58) (h0 : tm0.size = 58) (old : ∀ t, (t < 14 ∨ 41 < t) → tm[t]? = tm0[t]?) (hit : tm.getD 41 undef = it) :
    ∃ xs : List Value, xs.length = 27 ∧ tm = (tm0.toList.take 14 ++ (xs ++ (it :: tm0.toList.drop 42))).toArray := by
  have hl : tm.toList.length = 58 := by simpa using h
  have hl0 : tm0.toList.length = 58 := by simpa using h0
  refine ⟨(tm.toList.drop 14).take 27, by simp [hl], ?_⟩
  apply Array.ext'
  apply List.ext_getElem?
  intro i
  simp only [List.toList_toArray]
  by_cases h1 : i < 14
  · rw [List.getElem?_append_left (by simp [hl0]; omega), List.getElem?_take_of_lt h1]
    have := old i (.inl h1)
    simpa using this
  · rw [List.getElem?_append_right (by simp [hl0]; omega)]
    have e14 : (tm0.toList.take 14).length = 14 := by simp [hl0]
    rw [e14]
    by_cases h2 : i < 41
    · rw [List.getElem?_append_left (by simp [hl]; omega), List.getElem?_take_of_lt (by omega), List.getElem?_drop]
      congr 1
      omega
    · rw [List.getElem?_append_right (by simp [hl]; omega)]
      have e27 : ((tm.toList.drop 14).take 27).length = 27 := by simp [hl]
      rw [e27]
      by_cases h3 : i = 41
      · subst h3
        have : tm[41]? = some it := by
          rw [← hit]
          simp [Array.getElem?_eq_getElem (show 41 < tm.size by omega)]
        simpa using this
      · obtain ⟨j, rfl⟩ : ∃ j, i = j + 42 := ⟨i - 42, by omega⟩
        have e : j + 42 - 14 - 27 = j + 1 := by omega
        rw [e, List.getElem?_cons_succ, List.getElem?_drop]
        have := old (j + 42) (.inr (by omega))
        have e2 : 42 + j = j + 42 := by omega
        rw [e2]
        simpa using this
theorem bool_inv {H : Type} {P : Program} {e : TypeId} (he : P.underlying e = some .bool) {v : Value} {y : DataW H × List MemPlace} (h : plainElem P e v = some y) : ∃ c, v = .bool c := by
  unfold plainElem at h
  rw [he] at h
  cases v <;> simp at h
  exact ⟨_, rfl⟩

theorem box_cell {σ : Inj} {cs : List Value} {w' : World} {B n : Nat} (h : WRel σ (Wbox cs) w'.heap) (hσ : σ 0 = some ⟨B, 0, n⟩) {i : Nat} {v : Value} (hv : cs[i]? = some v) (hp : plain v = true) : w'.cell? ⟨B, i, none⟩ = some v := by
  have hg : (Wbox cs).get 0 = some (.cells cs) := by
    show T.get (path 0) (T.set (some (AObj.cells cs)) (path 0) .lf) = _
    exact T.get_set _ _ _
  obtain ⟨c, t, h1, _, _, h4⟩ := h.obj 0 _ _ hg hσ
  obtain ⟨v', h5, h6⟩ := h4 i v hv
  rw [plain_eq hp h6] at h5
  simp only [Nat.zero_add] at h5
  simp [World.cell?, h1, h5]
/-- the fields that an operation has, as bits -/
def hof (g0 g1 g2 g3 g4 g5 g6 g7 : Bool) : Int := (cond g0 1 0 + (cond g1 2 0 + (cond g2 4 0 + (cond g3 8 0 + (cond g4 16 0 + (cond g5 32 0 + (cond g6 64 0 + cond g7 128 0)))))) : Nat)

/-- an entry has come -/
structure Came (P : Program) (TK TE m r n : Nat) (D : DataW Unit) (left : Lit → Bool) (cnt : Nat) (w : World) where
  x : Int
  c : Bool
  w1 : World
  cnt1 : Nat
  hl : left (.int .i64 x) = true
  hat : ∀ zd, D.atKey (.int .i64 x) zd = .lit (.bool c)
  hrg : w1.ranges P TK (plainElem P TE) m r n D (fun z => left z && !z.sameKey (.int .i64 x)) cnt1
  hlt : cnt1 < cnt
  hgr : w.grownBy w1 (some r)
  hsz : w1.heap.size = w.heap.size
  hen : (Instr.entry (.pointer (some ⟨r, 0, none⟩))).run P w1 = .ok (.tuple #[.int .i64 x, .bool c]) w1
theorem wpList_next_bool {P : Program} {ops : Array Oper} {rest : List Oper} {o : Oper} {a : Act} {w : World} {Q : Exit → Act → World → Prop} (hg : o.guard = none) (it : Operand) (hop : o.op = Op.next it false) {TK TE m r n : Nat} {D : DataW Unit} {left : Lit → Bool} {cnt : Nat}
    (hk : P.underlying TK = some (.int .i64)) (he : P.underlying TE = some .bool) (hit : a.eval it = .pointer (some ⟨r, 0, none⟩)) (h : w.ranges P TK (plainElem P TE) m r n D left cnt)
    (hDone : (∀ kl, left kl = false) → wpList P ops Q rest (a.put o.dst (.tuple #[.bool false])) w)
    (hMore : ∀ z : Came P TK TE m r n D left cnt w, wpList P ops Q rest (a.put o.dst (.tuple #[.bool true, .int .i64 z.x, .bool z.c])) z.w1) : wpList P ops Q (o :: rest) a w :=
  wpList_next_ranges (α := Int) (β := Bool) w hg it hop TK (Go.Maps.int_keyed hk) (plainElem P TE) (Value.int .i64) Value.bool (fun key kl hkey => by obtain ⟨x, rfl, _⟩ := Go.Maps.keyOf_int_inv hk hkey; exact ⟨x, rfl⟩) (fun v y hv => bool_inv he hv) m r n D left cnt hit h (fun _ => hDone)
    (fun x c kl y w1 cnt1 hkey hlk hy hat hrg hlt hgr hsz hen => by
      obtain ⟨x', ex, rfl, _⟩ := Go.Maps.keyOf_int_inv hk hkey
      cases ex
      rw [plainElem_bool he] at hy
      injection hy with hy
      subst hy
      exact hMore ⟨x, c, w1, cnt1, hlk, hat, hrg, hlt, hgr, hsz, hen⟩)
theorem dall_key {b0 b1 b2 b3 b4 b5 b6 b7 c : Bool} {x : Int} (h : Maps.has (Dall b0 b1 b2 b3 b4 b5 b6 b7) (.int .i64 x) = true) (hat : ∀ zd, (Dall b0 b1 b2 b3 b4 b5 b6 b7).atKey (.int .i64 x) zd = .lit (.bool c)) :
    (x = 1 ∧ c = b0) ∨ (x = 2 ∧ c = b1) ∨ (x = 4 ∧ c = b2) ∨ (x = 8 ∧ c = b3) ∨ (x = 16 ∧ c = b4) ∨ (x = 32 ∧ c = b5) ∨ (x = 64 ∧ c = b6) ∨ (x = 128 ∧ c = b7) := by
  have hx : x = 1 ∨ x = 2 ∨ x = 4 ∨ x = 8 ∨ x = 16 ∨ x = 32 ∨ x = 64 ∨ x = 128 := by
    simp only [Maps.has, Dall, Dof, ent, List.cons_append, List.nil_append, List.any_cons, List.any_nil, Bool.or_false, Bool.or_eq_true] at h
    rcases h with h | h | h | h | h | h | h | h <;> (have := WideAt.sameKey_eq h; injection this with _ this; simp_all)
  rcases hx with rfl | rfl | rfl | rfl | rfl | rfl | rfl | rfl
  · have : (DataW.lit (.bool b0) : DataW Unit) = .lit (.bool c) := hat .nil
    injection this with this; injection this with this; simp [this]
  · have : (DataW.lit (.bool b1) : DataW Unit) = .lit (.bool c) := hat .nil
    injection this with this; injection this with this; simp [this]
  · have : (DataW.lit (.bool b2) : DataW Unit) = .lit (.bool c) := hat .nil
    injection this with this; injection this with this; simp [this]
  · have : (DataW.lit (.bool b3) : DataW Unit) = .lit (.bool c) := hat .nil
    injection this with this; injection this with this; simp [this]
  · have : (DataW.lit (.bool b4) : DataW Unit) = .lit (.bool c) := hat .nil
    injection this with this; injection this with this; simp [this]
  · have : (DataW.lit (.bool b5) : DataW Unit) = .lit (.bool c) := hat .nil
    injection this with this; injection this with this; simp [this]
  · have : (DataW.lit (.bool b6) : DataW Unit) = .lit (.bool c) := hat .nil
    injection this with this; injection this with this; simp [this]
  · have : (DataW.lit (.bool b7) : DataW Unit) = .lit (.bool c) := hat .nil
    injection this with this; injection this with this; simp [this]
theorem or0 : ∀ g1 g2 g3 g4 g5 g6 g7 : Bool, bits .or .i64 (hof false g1 g2 g3 g4 g5 g6 g7) 1 = hof true g1 g2 g3 g4 g5 g6 g7 := by decide +kernel
theorem or1 : ∀ g0 g2 g3 g4 g5 g6 g7 : Bool, bits .or .i64 (hof g0 false g2 g3 g4 g5 g6 g7) 2 = hof g0 true g2 g3 g4 g5 g6 g7 := by decide +kernel
theorem or2 : ∀ g0 g1 g3 g4 g5 g6 g7 : Bool, bits .or .i64 (hof g0 g1 false g3 g4 g5 g6 g7) 4 = hof g0 g1 true g3 g4 g5 g6 g7 := by decide +kernel
theorem or3 : ∀ g0 g1 g2 g4 g5 g6 g7 : Bool, bits .or .i64 (hof g0 g1 g2 false g4 g5 g6 g7) 8 = hof g0 g1 g2 true g4 g5 g6 g7 := by decide +kernel
theorem or4 : ∀ g0 g1 g2 g3 g5 g6 g7 : Bool, bits .or .i64 (hof g0 g1 g2 g3 false g5 g6 g7) 16 = hof g0 g1 g2 g3 true g5 g6 g7 := by decide +kernel
theorem or5 : ∀ g0 g1 g2 g3 g4 g6 g7 : Bool, bits .or .i64 (hof g0 g1 g2 g3 g4 false g6 g7) 32 = hof g0 g1 g2 g3 g4 true g6 g7 := by decide +kernel
theorem or6 : ∀ g0 g1 g2 g3 g4 g5 g7 : Bool, bits .or .i64 (hof g0 g1 g2 g3 g4 g5 false g7) 64 = hof g0 g1 g2 g3 g4 g5 true g7 := by decide +kernel
theorem or7 : ∀ g0 g1 g2 g3 g4 g5 g6 : Bool, bits .or .i64 (hof g0 g1 g2 g3 g4 g5 g6 false) 128 = hof g0 g1 g2 g3 g4 g5 g6 true := by decide +kernel
theorem hof_step {left : Lit → Bool} {x : Int} {c : Bool} {b0 b1 b2 b3 b4 b5 b6 b7 : Bool} (hl : left (.int .i64 x) = true)
    (h8 : (x = 1 ∧ c = b0) ∨ (x = 2 ∧ c = b1) ∨ (x = 4 ∧ c = b2) ∨ (x = 8 ∧ c = b3) ∨ (x = 16 ∧ c = b4) ∨ (x = 32 ∧ c = b5) ∨ (x = 64 ∧ c = b6) ∨ (x = 128 ∧ c = b7)) :
    (c = false → hof (!left (.int .i64 1) && b0) (!left (.int .i64 2) && b1) (!left (.int .i64 4) && b2) (!left (.int .i64 8) && b3) (!left (.int .i64 16) && b4) (!left (.int .i64 32) && b5) (!left (.int .i64 64) && b6) (!left (.int .i64 128) && b7) = hof (!(fun z => left z && !z.sameKey (.int .i64 x)) (.int .i64 1) && b0) (!(fun z => left z && !z.sameKey (.int .i64 x)) (.int .i64 2) && b1) (!(fun z => left z && !z.sameKey (.int .i64 x)) (.int .i64 4) && b2) (!(fun z => left z && !z.sameKey (.int .i64 x)) (.int .i64 8) && b3) (!(fun z => left z && !z.sameKey (.int .i64 x)) (.int .i64 16) && b4) (!(fun z => left z && !z.sameKey (.int .i64 x)) (.int .i64 32) && b5) (!(fun z => left z && !z.sameKey (.int .i64 x)) (.int .i64 64) && b6) (!(fun z => left z && !z.sameKey (.int .i64 x)) (.int .i64 128) && b7)) ∧
    (c = true → bits .or .i64 (hof (!left (.int .i64 1) && b0) (!left (.int .i64 2) && b1) (!left (.int .i64 4) && b2) (!left (.int .i64 8) && b3) (!left (.int .i64 16) && b4) (!left (.int .i64 32) && b5) (!left (.int .i64 64) && b6) (!left (.int .i64 128) && b7)) x = hof (!(fun z => left z && !z.sameKey (.int .i64 x)) (.int .i64 1) && b0) (!(fun z => left z && !z.sameKey (.int .i64 x)) (.int .i64 2) && b1) (!(fun z => left z && !z.sameKey (.int .i64 x)) (.int .i64 4) && b2) (!(fun z => left z && !z.sameKey (.int .i64 x)) (.int .i64 8) && b3) (!(fun z => left z && !z.sameKey (.int .i64 x)) (.int .i64 16) && b4) (!(fun z => left z && !z.sameKey (.int .i64 x)) (.int .i64 32) && b5) (!(fun z => left z && !z.sameKey (.int .i64 x)) (.int .i64 64) && b6) (!(fun z => left z && !z.sameKey (.int .i64 x)) (.int .i64 128) && b7)) := by
  have e : ∀ a b : Int, (Lit.int .i64 a).sameKey (.int .i64 b) = decide (a = b) := by intro a b; simp [Lit.sameKey]
  rcases h8 with ⟨rfl, rfl⟩ | ⟨rfl, rfl⟩ | ⟨rfl, rfl⟩ | ⟨rfl, rfl⟩ | ⟨rfl, rfl⟩ | ⟨rfl, rfl⟩ | ⟨rfl, rfl⟩ | ⟨rfl, rfl⟩
  · exact ⟨fun hc => by simp [e, hl, hc], fun hc => by simp [e, hl, hc, or0]⟩
  · exact ⟨fun hc => by simp [e, hl, hc], fun hc => by simp [e, hl, hc, or1]⟩
  · exact ⟨fun hc => by simp [e, hl, hc], fun hc => by simp [e, hl, hc, or2]⟩
  · exact ⟨fun hc => by simp [e, hl, hc], fun hc => by simp [e, hl, hc, or3]⟩
  · exact ⟨fun hc => by simp [e, hl, hc], fun hc => by simp [e, hl, hc, or4]⟩
  · exact ⟨fun hc => by simp [e, hl, hc], fun hc => by simp [e, hl, hc, or5]⟩
  · exact ⟨fun hc => by simp [e, hl, hc], fun hc => by simp [e, hl, hc, or6]⟩
  · exact ⟨fun hc => by simp [e, hl, hc], fun hc => by simp [e, hl, hc, or7]⟩
theorem frozen_ranges {H : Type} {P : Program} {k : TypeId} {w : World} {Re : Value → Option (DataW H × List MemPlace)} {b r n cnt : Nat} {D : DataW H} {left : Lit → Bool} (h : w.ranges P k Re b r n D left cnt) : ∀ a : Addr, a.block = r → w.frozen? a = false := fun a ha => ranges_cold h ha
def errB (b0 b1 b2 b3 b4 b5 b6 b7 : Bool) (u : Int) : Int := if bits .andNot .i64 (hof b0 b1 b2 b3 b4 b5 b6 b7) u = 0 then 0 else 2
theorem ranges_lt {H : Type} {P : Program} {k : TypeId} {w : World} {Re : Value → Option (DataW H × List MemPlace)} {b r n cnt : Nat} {D : DataW H} {left : Lit → Bool} (h : w.ranges P k Re b r n D left cnt) : r < w.heap.size := by
  obtain ⟨es, clock, since, seen, c0, _, _, _, _, hr, _⟩ := h
  exact (Array.getElem?_eq_some_iff.1 hr).1
end Go.Eng
