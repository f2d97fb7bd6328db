/- One operation that is no call. -/
import Derived.Test.YtfcfglpkgcheiaaDoorEngH
import Derived.Laws.StructEq
namespace Go.Eng
open Go
set_option linter.unusedSectionVars false
variable [PlanTab]
set_option linter.unusedSimpArgs false

noncomputable def aPart (P : Program) (t : TypeId) (cs : Array Value) (off : Nat) : Option Value :=
  match tAgg P t with
  | some true => match tSz P t with
    | some n => some (.agg (cs.extract off (off + n)))
    | none => none
  | some false => cs[off]?
  | none => none
noncomputable def aEqFs (P : Program) (g : TypeId → Value → Value → Option Bool) (xs ys : Array Value) : List Field → Option Bool
  | [] => some true
  | f :: fs => if f.name = "_" then none else match aPart P f.type xs f.offset, aPart P f.type ys f.offset with
    | some a, some b => (match g f.type a b with
      | some true => aEqFs P g xs ys fs
      | some false => some false
      | none => none)
    | _, _ => none
/-- two structs of integers and bools held against each other -/
noncomputable def aEqS (P : Program) : Nat → TypeId → Value → Value → Option Bool
  | 0, _, _, _ => none
  | n + 1, t, x, y => match P.underlying t with
    | some (.int _) => (match x, y with
      | .int k a, .int k' b => if k = k' then some (a == b) else none
      | _, _ => none)
    | some .bool => (match x, y with
      | .bool a, .bool b => some (a == b)
      | _, _ => none)
    | some (.struct fs) => (match x, y with
      | .agg xs, .agg ys => if P.stoodInHeld t = true then none else aEqFs P (aEqS P n) xs ys fs.toList
      | _, _ => none)
    | _ => none
noncomputable def aEqT (P : Program) (t : TypeId) (x y : Value) : Option Bool := match x, y with
  | .agg _, .agg _ => if P.eqGuardType P.depth t = true then none else aEqS P 8 t x y
  | _, _ => none
noncomputable def aBin (P : Program) (W : AW) (op : BinOp) (t : TypeId) (x y : Value) : Option Value :=
  match x, y with
  | .int k a, .int k' b => if k = k' then aInt op k a b else none
  | _, _ => match op with
    | .eql => (match aEql P W t x y with
      | some b => some (.bool b)
      | none => (aEqT P t x y).map .bool)
    | .neq => (match aEql P W t x y with
      | some b => some (.bool !b)
      | none => (aEqT P t x y).map fun b => .bool !b)
    | _ => none
noncomputable def aOp (P : Program) (o : Oper) (R : PlanTab.Fr) (W : AW) : Option (Value × AW) :=
  match o.op with
  | .move x | .assign x => some (aEval R x, W)
  | .pick c a b => match aEval R c with
    | .bool true => some (aEval R a, W)
    | .bool false => some (aEval R b, W)
    | _ => none
  | .alloc t => match tZero P t with
    | some z => some (W.new (.cells z.cells.toList) fun b W' => (Value.pointer (some ⟨b, 0, none⟩), W'))
    | none => none
  | .box _ x => some (W.new (.cells (aEval R x).cells.toList) fun b W' => (Value.pointer (some ⟨b, 0, none⟩), W'))
  | .build t ps => (aBuild P R t ps).map fun v => (v, W)
  | .buildSlice t len ps => aBuildSlice P R W t len ps
  | .load t a => (aLoad P W t (aEval R a)).map fun v => (v, W)
  | .store t a x => (aStore P W t (aEval R a) (aEval R x)).map fun W' => (undef, W')
  | .nilCheck x => match aEval R x with
    | .pointer (some a) => some (.pointer (some a), W)
    | .func (.func f) a b => some (.func (.func f) a b, W)
    | .func (.yield l) a b => some (.func (.yield l) a b, W)
    | .iface t v => some (.iface t v, W)
    | _ => none
  | .binOp op t x y _ => match aBin P W op t (aEval R x) (aEval R y) with
    | some v => some (v, W)
    | none => (aPure P R o).map fun v => (v, W)
  | .unOp .. | .convert .. => (aPure P R o).map fun v => (v, W)
  | .makeInterface t x => match P.underlying t with
    | some (.interface _) => none
    | some _ => some (.iface t (aEval R x), W)
    | none => none
  | .makeFunc (.func f) first captured => some (.func (.func f) (first.map (aEval R)) (captured.map (aEval R)), W)
  | .makeMap t r => match r with
    | none => some (W.new (.map [] 0) fun b W' => (Value.map (some b), W'))
    | some h => match P.underlying t, aEval R h with
      | some (.map _ _), .int _ _ => some (W.new (.map [] 0) fun b W' => (Value.map (some b), W'))
      | _, _ => none
  | .makeSlice t l c => aMakeSlice P W t (aEval R l) (aEval R c)
  | .slice t x lo hi mx => match aSlice P t (aEval R x) (lo.map (aEval R)) (hi.map (aEval R)) (mx.map (aEval R)) with
    | some v => some (v, W)
    | none => (aPure P R o).map fun v => (v, W)
  | .fieldAddr s x f => match P.underlying s, aEval R x with
    | some (.struct fs), .pointer (some a) => match fs[f]? with
      | some fl => match tSz P fl.type with
        | some (_ + 1) => some (.pointer (some (a.add fl.offset)), W)
        | _ => none
      | none => none
    | _, _ => none
  | .field t x f => match P.underlying t, aEval R x with
    | some (.struct fs), .agg cs => match fs[f]? with
      | some fl => (aPart P fl.type cs fl.offset).map fun v => (v, W)
      | none => none
    | _, _ => none
  | .indexAddr t x i => match P.underlying t, aEval R x, natOf (aEval R i) with
    | some (.slice e), .slice (some a) len _, some n => match tSz P e with
      | some z => if n < len then some (.pointer (some (a.add (n * z))), W) else none
      | none => none
    | some (.array len e), .pointer (some a), some n => match tSz P e with
      | some z => if n < len then some (.pointer (some (a.add (n * z))), W) else none
      | none => none
    | _, _, _ => none
  | .index t x i => match P.underlying t, aEval R x, natOf (aEval R i) with
    | some (.array len e), .agg cs, some n => match tSz P e with
      | some z => if n < len then (aPart P e cs (n * z)).map fun v => (v, W) else none
      | none => none
    | _, _, _ => (aPure P R o).map fun v => (v, W)
  | .lookup t m k ok => (aLookup P W t (aEval R m) (aEval R k) ok).map fun v => (v, W)
  | .mapUpdate t m k v => (aMapUpdate P W t (aEval R m) (aEval R k) (aEval R v)).map fun W' => (undef, W')
  | .extract x i => match aEval R x with
    | .tuple vs => (vs[i]?).map fun v => (v, W)
    | _ => none
  | .typeAssert x _ t ok => match P.underlying t, aEval R x with
    | some (.interface _), _ => none
    | some _, .iface u v => if u = t then some (if ok then .tuple #[v, .bool true] else v, W) else none
    | _, _ => none
  | .range t x => match P.underlying t, aEval R x with
    | some .string, .string s => some (W.new (.siter s 0) fun b W' => (Value.pointer (some ⟨b, 0, none⟩), W'))
    | _, _ => none
  | .next it true => match aEval R it with
    | .pointer (some ⟨b, 0, _⟩) => match W.get b with
      | some (.siter s pos) => if pos < s.size then some (.tuple #[.bool true, goInt pos, .int .i32 (Utf8.decode s pos).1], W.put b (.siter s (pos + (Utf8.decode s pos).2))) else some (.tuple #[.bool false], W)
      | _ => none
    | _ => none
  | _ => none

section
variable {P : Program} {σ : Inj} {W : AW} {w : World}

theorem VR.bool_inv {b : Bool} {v : Value} (h : VR σ (.bool b) v) : v = .bool b := by cases h; rfl
theorem VR.string_inv {b : ByteArray} {v : Value} (h : VR σ (.string b) v) : v = .string b := by cases h; rfl
theorem VR.ptr_inv {a : Addr} {v : Value} (h : VR σ (.pointer (some a)) v) : ∃ g, σ a.block = some g ∧ a.spot = none ∧ v = .pointer (some ⟨g.B, g.s + a.off, none⟩) := by
  cases h with
  | ptr a g h hs => exact ⟨g, h, hs, rfl⟩
theorem VR.slice_inv {a : Addr} {l c : Nat} {v : Value} (h : VR σ (.slice (some a) l c) v) : (∃ g c', σ a.block = some g ∧ a.spot = none ∧ CapR g a.off l c c' ∧ v = .slice (some ⟨g.B, g.s + a.off, none⟩) l c') ∨ (l = 0 ∧ ∃ a', v = .slice (some a') 0 0) := by
  cases h with
  | slice a l c c' g h hs hc => exact .inl ⟨g, c', h, hs, hc, rfl⟩
  | sliceE a a' c g h hc => exact .inr ⟨rfl, a', rfl⟩
theorem VR.iface_inv {t : TypeId} {u v : Value} (h : VR σ (.iface t u) v) : ∃ u', VR σ u u' ∧ v = .iface t u' := by
  cases h with
  | iface t u u' h => exact ⟨u', h, rfl⟩
theorem VR.agg_inv {cs : Array Value} {v : Value} (h : VR σ (.agg cs) v) : ∃ cs', LR σ cs.toList cs'.toList ∧ v = .agg cs' := by
  cases h with
  | agg cs cs' h1 h2 => exact ⟨cs', .of_arr h1 h2, rfl⟩
theorem VR.tuple_inv {cs : Array Value} {v : Value} (h : VR σ (.tuple cs) v) : ∃ cs', LR σ cs.toList cs'.toList ∧ v = .tuple cs' := by
  cases h with
  | tuple cs cs' h1 h2 => exact ⟨cs', .of_arr h1 h2, rfl⟩
theorem VR.func_inv {fn : Fn} {fs cs : Array Value} {v : Value} (h : VR σ (.func fn fs cs) v) : ∃ fn' fs' cs', FnR σ fn fn' ∧ LR σ fs.toList fs'.toList ∧ LR σ cs.toList cs'.toList ∧ v = .func fn' fs' cs' := by
  cases h with
  | func fn fn' fs fs' cs cs' hf h1 h2 h3 h4 => exact ⟨fn', fs', cs', hf, .of_arr h1 h2, .of_arr h3 h4, rfl⟩
theorem VR.int_inv {k : IntKind} {n : Int} {v : Value} (h : VR σ (.int k n) v) : v = .int k n := by cases h; rfl
theorem aPart_run {t : TypeId} {cs cs' : Array Value} {off : Nat} {v : Value} (h : aPart P t cs off = some v) (hc : LR σ cs.toList cs'.toList) (w : World) :
    ∃ v', (part t cs' off).run P w = .ok v' w ∧ VR σ v v' := by
  unfold aPart at h
  split at h
  · rename_i ha
    split at h
    · rename_i n hn
      injection h with h
      subst h
      refine ⟨.agg (cs'.extract off (off + n)), by simp [part, run_isAgg' ha, run_sizeOf' hn], VR.agg' ?_⟩
      simp only [Array.toList_extract, List.extract_eq_take_drop]
      exact (hc.drop off).take _
    · cases h
  · rename_i ha
    obtain ⟨v', h1, h2⟩ := hc.get (i := off) (v := v) (by simpa using h)
    refine ⟨v', ?_, h2⟩
    have h1' : cs'[off]? = some v' := by simpa using h1
    simp [part, run_isAgg' ha, h1']
  · cases h

theorem VR.agg_back {xs : Array Value} {v : Value} (h : VR σ (.agg xs) v) : ∃ ys, v = .agg ys ∧ LR σ xs.toList ys.toList := by
  cases h with
  | agg _ cs' h1 h2 => exact ⟨cs', rfl, by simpa using h1, fun i v v' a b => h2 i v v' (by simpa using a) (by simpa using b)⟩
theorem aEqS_run : ∀ (n : Nat) {t : TypeId} {x y x' y' : Value} {b : Bool}, aEqS P n t x y = some b → VR σ x x' → VR σ y y' → ∀ d, (Op.equalIn (n + d) t x' y').run P w = .ok b w := by
  intro n
  induction n with
  | zero => intro t x y x' y' b h; cases h
  | succ n ih =>
    intro t x y x' y' b h hx hy d
    rw [show n + 1 + d = (n + d) + 1 by omega]
    unfold aEqS at h
    split at h
    · rename_i k0 hu
      split at h
      · rename_i k a k' c
        split at h
        · rename_i hk
          subst hk
          injection h with h
          subst h
          rw [hx.int_inv, hy.int_inv]
          exact run_equalIn_int w _ t k k0 a c hu
        · cases h
      · cases h
    · rename_i hu
      split at h
      · rename_i a c
        injection h with h
        subst h
        rw [hx.bool_inv, hy.bool_inv]
        exact run_equalIn_bool' w _ t a c hu
      · cases h
    · rename_i fs hu
      split at h
      · rename_i xs ys
        split at h
        · cases h
        rename_i hst
        obtain ⟨xs', rfl, hxs⟩ := hx.agg_back
        obtain ⟨ys', rfl, hys⟩ := hy.agg_back
        have hfo : P.fieldsOf t = fs := by unfold Program.fieldsOf; rw [hu]
        rw [run_equalIn_struct w (n + d) t xs' ys' (by rw [hfo]; exact hu) (by simpa using hst), hfo]
        generalize fs.toList = l at h
        induction l with
        | nil => injection h with h; subst h; simp [Op.eqFields]
        | cons f l ihl =>
          unfold aEqFs at h
          split at h
          · cases h
          rename_i hname
          split at h
          · rename_i a c ha hc
            obtain ⟨a', ra, va⟩ := aPart_run (P := P) ha hxs w
            obtain ⟨c', rc, vc⟩ := aPart_run (P := P) hc hys w
            unfold Op.eqFields
            rw [if_pos hname, Sem.run_bind, ra, Result.andThen_ok, Sem.run_bind, rc, Result.andThen_ok, Sem.run_bind]
            split at h
            · rename_i he
              rw [ih he va vc d, Result.andThen_ok]
              simpa using ihl h
            · rename_i he
              injection h with h
              subst h
              rw [ih he va vc d, Result.andThen_ok]
              simp
            · cases h
          · cases h
      · cases h
    · cases h
theorem aEql_agg (P : Program) (W : AW) (t : TypeId) (a b : Array Value) : aEql P W t (.agg a) (.agg b) = none := by
  unfold aEql
  cases P.underlying t with
  | none => rfl
  | some d => cases d <;> rfl
theorem aEqT_none {P : Program} {t : TypeId} {x y : Value} {b : Bool} (h : aEqT P t x y = some b) (W : AW) : aEql P W t x y = none := by
  unfold aEqT at h
  split at h
  · exact aEql_agg P W t _ _
  · cases h
theorem aEqT_run {t : TypeId} {x y x' y' : Value} {b : Bool} (h : aEqT P t x y = some b) (hx : VR σ x x') (hy : VR σ y y') (p q : Operand) :
    (do eqGuard .eql t p q x' y'; binOp .eql t x' y' : Sem Value).run P w = .ok (.bool b) w ∧ (do eqGuard .neq t p q x' y'; binOp .neq t x' y' : Sem Value).run P w = .ok (.bool !b) w := by
  unfold aEqT at h
  split at h
  · rename_i xs ys
    split at h
    · cases h
    rename_i hg
    obtain ⟨xs', rfl, hxs⟩ := hx.agg_back
    obtain ⟨ys', rfl, hys⟩ := hy.agg_back
    have hr : (Op.equalIn 10000 t (.agg xs') (.agg ys')).run P w = .ok b w := aEqS_run (w := w) 8 h hx hy 9992
    have hgf : P.eqGuardType P.depth t = false := by simpa using hg
    refine ⟨?_, ?_⟩
    · rw [Sem.run_bind, run_eqGuard_agg _ _ _ _ _ _ _ hgf, Result.andThen_ok, run_eql_struct, hr, Result.andThen_ok]
    · rw [Sem.run_bind, run_eqGuard_agg _ _ _ _ _ _ _ hgf, Result.andThen_ok, run_neq_struct, hr, Result.andThen_ok]
  · cases h

theorem aBin_run (hW : WRel σ W w.heap) {op : BinOp} {t yt : TypeId} {x y : Operand} {ρ : Operand → Value} {u u' v : Value} {dst : Option Tmp} {type : TypeId} {pos : String} {after : Array Edge} {guard : Option (Nat × Bool)}
    (h : aBin P W op t u u' = some v) (hx : VR σ u (ρ x)) (hy : VR σ u' (ρ y)) :
    ∃ v', (execOp ρ { dst, op := .binOp op t x y yt, type, pos, after, guard }).run P w = .ok (.value v') w ∧ VR σ v v' := by
  unfold aBin at h
  split at h
  · rename_i k a k' b
    split at h
    · rename_i hk
      subst hk
      have ex : ρ x = .int k a := hx.int_inv
      have ey : ρ y = .int k b := hy.int_inv
      refine ⟨v, ?_, ?_⟩
      · have hg : ∀ (A B : Value), (eqGuard op t x y (.int k a) (.int k b)).run P w = .ok () w := by
          intro _ _
          unfold eqGuard
          split <;> simp
        simp only [execOp, ex, ey, Sem.run_bind, hg .nilIface .nilIface, Result.andThen_ok]
        unfold aInt at h
        split at h <;> (try (cases h; done)) <;> (injection h with h; subst h; try simp only [forceI_eq, wrapF_eq]) <;>
          simp [binOp, Op.intArith, Op.intCmp, bne] <;> (try rfl)
      · unfold aInt at h
        split at h <;> (try (cases h; done)) <;> (injection h with h; subst h; try simp only [forceI_eq]) <;> first | exact .int _ _ | exact .bool _
    · cases h
  · have key : ∀ b, aEql P W t u u' = some b → (Op.equal t (ρ x) (ρ y)).run P w = .ok b w := fun b hb => aEql_run hW hb hx hy 9999
    have shp : ∀ b, aEql P W t u u' = some b → (∀ (op : BinOp), (eqGuard op t x y (ρ x) (ρ y)).run P w = .ok () w) ∧ (binOp .eql t (ρ x) (ρ y) = (do pure (.bool (← Op.equal t (ρ x) (ρ y))))) ∧ (binOp .neq t (ρ x) (ρ y) = (do pure (.bool (!(← Op.equal t (ρ x) (ρ y)))))) := by
      intro b hb
      unfold aEql at hb
      split at hb <;> first
        | (cases hb; done)
        | (generalize ρ x = rx at *
           generalize ρ y = ry at *
           cases hx <;> cases hy <;> refine ⟨fun op => ?_, rfl, rfl⟩ <;> (unfold eqGuard; split <;> simp))
    split at h
    · cases he : aEql P W t u u' with
      | none =>
        rw [he] at h
        cases ht : aEqT P t u u' with
        | none => rw [ht] at h; cases h
        | some b =>
          rw [ht] at h
          simp only [Option.map_some, Option.some.injEq] at h
          subst h
          have := (aEqT_run (w := w) ht hx hy x y).1
          exact ⟨.bool b, by simp only [execOp]; rw [Sem.run_bind, this]; rfl, .bool b⟩
      | some b =>
        rw [he] at h
        simp only [Option.some.injEq] at h
        subst h
        obtain ⟨s1, s2, s3⟩ := shp b he
        exact ⟨.bool b, by simp [execOp, s1, s2, key b he], .bool b⟩
    · cases he : aEql P W t u u' with
      | none =>
        rw [he] at h
        cases ht : aEqT P t u u' with
        | none => rw [ht] at h; cases h
        | some b =>
          rw [ht] at h
          simp only [Option.map_some, Option.some.injEq] at h
          subst h
          have := (aEqT_run (w := w) ht hx hy x y).2
          exact ⟨.bool (!b), by simp only [execOp]; rw [Sem.run_bind, this]; rfl, .bool _⟩
      | some b =>
        rw [he] at h
        simp only [Option.some.injEq] at h
        subst h
        obtain ⟨s1, s2, s3⟩ := shp b he
        exact ⟨.bool (!b), by simp [execOp, s1, s3, key b he], .bool _⟩
    · cases h

/-- what an operation does: it yields a value, or nothing -/
def Does (P : Program) (σ : Inj) (W : AW) (w : World) (s : Sem Next) (v : Value) (W' : AW) : Prop :=
  ∃ σ' nx v' w', s.run P w = .ok nx w' ∧ (nx = .value v' ∨ (nx = .skip ∧ v' = undef)) ∧ VR σ' v v' ∧ WRel σ' W' w'.heap ∧ Ext σ W w σ' W' w'
theorem Does.value {s : Sem Value} {v v' : Value} {nx : Sem Next} (hn : nx = (do pure (.value (← s)))) (hW : WRel σ W w.heap) (h : s.run P w = .ok v' w) (hv : VR σ v v') : Does P σ W w nx v W :=
  ⟨σ, .value v', v', w, by rw [hn]; simp [h], .inl rfl, hv, hW, Ext.refl _ _ _⟩
theorem Does.value' {s : Sem Value} {v : Value} {W' : AW} {nx : Sem Next} (hn : nx = (do pure (.value (← s)))) (h : ∃ σ' v' w', s.run P w = .ok v' w' ∧ VR σ' v v' ∧ WRel σ' W' w'.heap ∧ Ext σ W w σ' W' w') : Does P σ W w nx v W' := by
  obtain ⟨σ', v', w', h1, h2, h3, h4⟩ := h
  exact ⟨σ', .value v', v', w', by rw [hn]; simp [h1], .inl rfl, h2, h3, h4⟩
theorem Does.unit {s : Sem Unit} {W' : AW} {nx : Sem Next} (hn : nx = (do s; pure .skip)) (h : ∃ w', s.run P w = .ok () w' ∧ WRel σ W' w'.heap ∧ Ext σ W w σ W' w') : Does P σ W w nx undef W' := by
  obtain ⟨w', h1, h2, h3⟩ := h
  exact ⟨σ, .skip, undef, w', by rw [hn]; simp [h1], .inr ⟨rfl, rfl⟩, .undef, h2, h3⟩
theorem Does.same {v v' : Value} {nx : Sem Next} (hn : nx = pure (.value v')) (hW : WRel σ W w.heap) (hv : VR σ v v') : Does P σ W w nx v W :=
  ⟨σ, .value v', v', w, by rw [hn]; rfl, .inl rfl, hv, hW, Ext.refl _ _ _⟩
theorem Does.pure_ {R : PlanTab.Fr} {ρ : Operand → Value} {o : Oper} {v : Value} (hW : WRel σ W w.heap) (h : aPure P R o = some v) (hρ : ∀ x ∈ o.op.operands, VR σ (aEval R x) (ρ x)) : Does P σ W w (execOp ρ o) v W := by
  obtain ⟨h1, h2⟩ := aPure_run (P := P) h hρ w
  exact ⟨σ, .value v, v, w, h1, .inl rfl, h2, hW, Ext.refl _ _ _⟩
theorem new_row (hW : WRel σ W w.heap) (t : TypeId) {cs cs' : List Value} (hc : LR σ cs cs') :
    ∃ σ' v' w', ((do pure (.pointer (some (← newRow t cs'.toArray)))) : Sem Value).run P w = .ok v' w' ∧ VR σ' (.pointer (some ⟨W.next, 0, none⟩)) v' ∧ WRel σ' (W.add (.cells cs)) w'.heap ∧ Ext σ W w σ' (W.add (.cells cs)) w' := by
  obtain ⟨h1, h2, h3, h4⟩ := newRow_run (P := P) hW t hc
  have hv := VR.ptr (σ := bind1 σ W.next ⟨w.heap.size, 0, cs.length⟩) ⟨W.next, 0, none⟩ _ h2 rfl
  exact ⟨_, .pointer (some ⟨w.heap.size, 0, none⟩), { w with heap := w.heap.push (.cells cs'.toArray t) }, by simp [h1], by simpa using hv, h3, h4⟩
theorem OR_map {R : PlanTab.Fr} {ρ : Operand → Value} {x : Option Operand} (h : ∀ y, x = some y → VR σ (aEval R y) (ρ y)) : OR σ (x.map (aEval R)) (x.map ρ) := by
  cases x with
  | none => trivial
  | some y => exact h y rfl
theorem arr_map {R : PlanTab.Fr} {ρ : Operand → Value} (a : Array Operand) (h : ∀ y ∈ a, VR σ (aEval R y) (ρ y)) : LR σ (a.map (aEval R)).toList (a.map ρ).toList := by
  refine ⟨by simp, fun i v v' x y => ?_⟩
  simp only [Array.toList_map, List.getElem?_map] at x y
  cases hq : a.toList[i]? with
  | none => rw [hq] at x; cases x
  | some q =>
    rw [hq] at x y
    simp at x y
    subst x
    subst y
    exact h q (by simpa using List.mem_of_getElem? hq)
theorem new_map (hW : WRel σ W w.heap) :
    ∃ σ' v' w', ((do pure (.map (some (← newObj (.map #[] 0))))) : Sem Value).run P w = .ok v' w' ∧ VR σ' (.map (some W.next)) v' ∧ WRel σ' (W.add (.map [] 0)) w'.heap ∧ Ext σ W w σ' (W.add (.map [] 0)) w' := by
  have h := hW.alloc (o := .map [] 0) (x := .map #[] 0) (e := 1) ⟨rfl, rfl, #[], by rw [Array.getElem?_push]; simp, .nil⟩
  exact ⟨_, .map (some w.heap.size), { w with heap := w.heap.push (.map #[] 0) }, by simp, .map _ _ bind1_same, h.1, h.2⟩

set_option maxHeartbeats 1000000 in
theorem aOp_run (hW : WRel σ W w.heap) {o : Oper} {R : PlanTab.Fr} {ρ : Operand → Value} {v : Value} {W' : AW} (h : aOp P o R W = some (v, W')) (hρ : ∀ x ∈ o.op.operands, VR σ (aEval R x) (ρ x)) :
    Does P σ W w (execOp ρ o) v W' := by
  have hpure : ∀ u, aPure P R o = some u → Does P σ W w (execOp ρ o) u W := fun u hu => .pure_ hW hu hρ
  have hmap : ∀ (x : Option Value), (x.map fun v => (v, W)) = some (v, W') → x = some v ∧ W' = W := by
    intro x hx
    cases x with
    | none => cases hx
    | some u => simp at hx; exact ⟨by rw [hx.1], hx.2.symm⟩
  have hmapW : ∀ (x : Option AW), (x.map fun W' => (undef, W')) = some (v, W') → x = some W' ∧ v = undef := by
    intro x hx
    cases x with
    | none => cases hx
    | some u => simp at hx; exact ⟨by rw [hx.2], hx.1.symm⟩
  obtain ⟨dst, op, type, pos, after, guard⟩ := o
  cases op <;> simp only [aOp] at h <;> simp only [Op.operands] at hρ
  case move x => injection h with h; injection h with h1 h2; subst h1; subst h2; exact .same rfl hW (hρ x (by simp))
  case assign x => injection h with h; injection h with h1 h2; subst h1; subst h2; exact .same rfl hW (hρ x (by simp))
  case pick c a b =>
    have hc := hρ c (by simp)
    split at h <;> (try (cases h; done)) <;> rename_i hcc <;> rw [hcc] at hc
    · injection h with h; injection h with h1 h2; subst h1; subst h2
      have := hc.bool_inv
      exact ⟨σ, .value (ρ a), ρ a, w, by simp [execOp, this, asBool], .inl rfl, hρ a (by simp), hW, Ext.refl _ _ _⟩
    · injection h with h; injection h with h1 h2; subst h1; subst h2
      have := hc.bool_inv
      exact ⟨σ, .value (ρ b), ρ b, w, by simp [execOp, this, asBool], .inl rfl, hρ b (by simp), hW, Ext.refl _ _ _⟩
  case alloc t =>
    split at h
    · rename_i z hz
      injection h with h
      rw [AW.new_eq] at h
      injection h with h1 h2
      subst h1; subst h2
      obtain ⟨hz1, hz2⟩ := tZero_run hz w
      refine .value' rfl ?_
      obtain ⟨σ', v', w', a, b, c⟩ := new_row (P := P) hW t (cs := z.cells.toList) (cs' := z.cells.toList) (zero_AR hz2)
      refine ⟨σ', v', w', ?_, b, c⟩
      rw [← a]
      simp [Instr.alloc, hz1, newVar]
    · cases h
  case box t x =>
    injection h with h
    rw [AW.new_eq] at h
    injection h with h1 h2
    subst h1; subst h2
    refine .value' rfl ?_
    obtain ⟨σ', v', w', a, b, c⟩ := new_row (P := P) hW t (hρ x (by simp)).cells
    refine ⟨σ', v', w', ?_, b, c⟩
    rw [← a]
    simp [Instr.box, newVar]
  case build t ps =>
    obtain ⟨hb, rfl⟩ := hmap _ h
    obtain ⟨v', h1, h2⟩ := aBuild_run hb (fun p hp => hρ p.2 (by simp; exact ⟨p.1, by simpa using hp⟩)) w
    exact .value rfl hW h1 h2
  case buildSlice t len ps =>
    exact .value' rfl (aBuildSlice_run hW h (fun p hp => hρ p.2 (by simp; exact ⟨p.1, by simpa using hp⟩)))
  case insert => cases h
  case load t a =>
    obtain ⟨hb, rfl⟩ := hmap _ h
    obtain ⟨v', h1, h2⟩ := aLoad_run hW hb (hρ a (by simp))
    exact .value rfl hW h1 h2
  case store t a x =>
    obtain ⟨hb, rfl⟩ := hmapW _ h
    exact .unit rfl (aStore_run hW hb (hρ a (by simp)) (hρ x (by simp)))
  case ready => cases h
  case waits => cases h
  case nilCheck x =>
    have hx := hρ x (by simp)
    split at h <;> (try (cases h; done)) <;> rename_i hcc <;> rw [hcc] at hx <;> injection h with h <;> injection h with h1 h2 <;> subst h1 <;> subst h2
    · obtain ⟨g, _, _, e⟩ := hx.ptr_inv
      exact ⟨σ, .value (ρ x), ρ x, w, by simp [execOp, e], .inl rfl, hx, hW, Ext.refl _ _ _⟩
    · obtain ⟨fn', fs', cs', hf, _, _, e⟩ := hx.func_inv
      cases hf
      exact ⟨σ, .value (ρ x), ρ x, w, by simp [execOp, e], .inl rfl, hx, hW, Ext.refl _ _ _⟩
    · obtain ⟨fn', fs', cs', hf, _, _, e⟩ := hx.func_inv
      cases hf
      exact ⟨σ, .value (ρ x), ρ x, w, by simp [execOp, e], .inl rfl, hx, hW, Ext.refl _ _ _⟩
    · obtain ⟨u', _, e⟩ := hx.iface_inv
      exact ⟨σ, .value (ρ x), ρ x, w, by simp [execOp, e], .inl rfl, hx, hW, Ext.refl _ _ _⟩
  case binOp op t x y yt =>
    split at h
    · rename_i u hb
      injection h with h; injection h with h1 h2; subst h1; subst h2
      obtain ⟨v', h1, h2⟩ := aBin_run (dst := dst) (type := type) (pos := pos) (after := after) (guard := guard) (yt := yt) hW hb (hρ x (by simp)) (hρ y (by simp))
      exact ⟨σ, .value v', v', w, h1, .inl rfl, h2, hW, Ext.refl _ _ _⟩
    · obtain ⟨hb, rfl⟩ := hmap _ h
      exact hpure _ hb
  case unOp => obtain ⟨hb, rfl⟩ := hmap _ h; exact hpure _ hb
  case convert => obtain ⟨hb, rfl⟩ := hmap _ h; exact hpure _ hb
  case sliceToArrayPointer => cases h
  case makeInterface t x =>
    split at h
    · cases h
    · rename_i d hd hu
      injection h with h; injection h with h1 h2; subst h1; subst h2
      refine .value rfl hW (v' := .iface t (ρ x)) ?_ (.iface _ _ _ (hρ x (by simp)))
      simp only [Instr.makeInterface, Sem.run_bind, run_underlying hu, Result.andThen_ok]
      cases d <;> first | rfl | exact absurd rfl (hd _)
    · cases h
  case makeFunc fn first captured =>
    cases fn <;> (try (simp only [aOp] at h; cases h; done))
    rename_i f0
    simp only at h
    injection h with h; injection h with h1 h2; subst h1; subst h2
    have k1 := arr_map first (fun y hy => hρ y (by simp [hy]))
    have k2 := arr_map captured (fun y hy => hρ y (by simp [hy]))
    exact .value (s := Instr.makeFunc (.func f0) (first.map ρ) (captured.map ρ)) rfl hW rfl (.func _ _ _ _ _ _ (.func f0) k1.arr.1 k1.arr.2 k2.arr.1 k2.arr.2)
  case makeMap t r =>
    split at h
    · injection h with h
      rw [AW.new_eq] at h
      injection h with h1 h2
      subst h1; subst h2
      refine .value' rfl ?_
      obtain ⟨σ', v', w', a, b, c⟩ := new_map (P := P) hW
      exact ⟨σ', v', w', by rw [← a]; simp [Instr.makeMap], b, c⟩
    · rename_i hh
      split at h
      · rename_i kt e kd n hu he
        injection h with h
        rw [AW.new_eq] at h
        injection h with h1 h2
        subst h1; subst h2
        refine .value' rfl ?_
        obtain ⟨σ', v', w', a, b, c⟩ := new_map (P := P) hW
        have hv := hρ hh (by simp)
        rw [he] at hv
        exact ⟨σ', v', w', by rw [← a]; simp [Instr.makeMap, run_underlying hu, hv.int_inv, asInt, asIntOf], b, c⟩
      · cases h
  case makeChan => cases h
  case makeSlice t l c => exact .value' rfl (aMakeSlice_run hW h (hρ l (by simp)) (hρ c (by simp)))
  case slice t x lo hi mx =>
    split at h
    · rename_i u hs
      injection h with h; injection h with h1 h2; subst h1; subst h2
      obtain ⟨v', a, b⟩ := aSlice_run hs (hρ x (by simp)) (OR_map (fun y hy => hρ y (by simp [hy]))) (OR_map (fun y hy => hρ y (by simp [hy]))) (OR_map (fun y hy => hρ y (by simp [hy]))) w
      exact .value rfl hW a b
    · obtain ⟨hb, rfl⟩ := hmap _ h
      exact hpure _ hb
  case fieldAddr s x f =>
    split at h
    · rename_i fs a hu hx0
      split at h
      · rename_i fl hfl
        split at h
        · rename_i n hn
          injection h with h; injection h with h1 h2; subst h1; subst h2
          have hx := hρ x (by simp)
          rw [hx0] at hx
          obtain ⟨g, hg, hsp, e⟩ := hx.ptr_inv
          refine .value rfl hW (v' := .pointer (some ⟨g.B, g.s + (a.add fl.offset).off, none⟩)) ?_ (.ptr _ g (by rw [add_block]; exact hg) (add_spot _ _ hsp))
          simp [Instr.fieldAt, run_underlying hu, hfl, e, Instr.sureAddr, fieldPlace, run_sizeOf' hn, addr_add, add_off, Nat.add_assoc]
        · cases h
      · cases h
    · cases h
  case field t x f =>
    split at h
    · rename_i fs cs hu hx0
      split at h
      · rename_i fl hfl
        obtain ⟨hb, rfl⟩ := hmap _ h
        have hx := hρ x (by simp)
        rw [hx0] at hx
        obtain ⟨cs', hc, e⟩ := hx.agg_inv
        obtain ⟨v', a, b⟩ := aPart_run (P := P) hb hc w
        exact .value rfl hW (by simp [Instr.field, run_underlying hu, hfl, e, asAgg, a]) b
      · cases h
    · cases h
  case indexAddr t x i =>
    have hi := hρ i (by simp)
    have hx := hρ x (by simp)
    split at h
    · rename_i e a len cap n hu hx0 hn
      obtain ⟨k, hi'⟩ := natOf_rel hn hi
      rw [hx0] at hx
      split at h
      · rename_i z hz
        split at h
        · rename_i hlt
          injection h with h; injection h with h1 h2; subst h1; subst h2
          rcases hx.slice_inv with ⟨g, c', hg, hsp, hc, e'⟩ | ⟨h0, _⟩
          · refine .value rfl hW (v' := .pointer (some ⟨g.B, g.s + (a.add (n * z)).off, none⟩)) ?_ (.ptr _ g (by rw [add_block]; exact hg) (add_spot _ _ hsp))
            simp [Instr.indexAt, hi', e', asIntOf, run_underlying hu, hlt, run_sizeOf' hz, addr_add, add_off, Nat.add_assoc]
          · omega
        · cases h
      · cases h
    · rename_i len e a n hu hx0 hn
      obtain ⟨k, hi'⟩ := natOf_rel hn hi
      rw [hx0] at hx
      split at h
      · rename_i z hz
        split at h
        · rename_i hlt
          injection h with h; injection h with h1 h2; subst h1; subst h2
          obtain ⟨g, hg, hsp, e'⟩ := hx.ptr_inv
          refine .value rfl hW (v' := .pointer (some ⟨g.B, g.s + (a.add (n * z)).off, none⟩)) ?_ (.ptr _ g (by rw [add_block]; exact hg) (add_spot _ _ hsp))
          simp [Instr.indexAt, hi', e', asIntOf, run_underlying hu, Instr.sureAddr, hlt, run_sizeOf' hz, addr_add, add_off, Nat.add_assoc]
        · cases h
      · cases h
    · cases h
  case index t x i =>
    have hi := hρ i (by simp)
    have hx := hρ x (by simp)
    split at h
    · rename_i len e cs n hu hx0 hn
      obtain ⟨k, hi'⟩ := natOf_rel hn hi
      rw [hx0] at hx
      split at h
      · rename_i z hz
        split at h
        · rename_i hlt
          obtain ⟨hb, rfl⟩ := hmap _ h
          obtain ⟨cs', hc, e'⟩ := hx.agg_inv
          obtain ⟨v', a, b⟩ := aPart_run (P := P) hb hc w
          exact .value rfl hW (by simp [Instr.index, hi', e', asIntOf, run_underlying hu, hlt, run_sizeOf' hz, a]) b
        · cases h
      · cases h
    · obtain ⟨hb, rfl⟩ := hmap _ h
      exact hpure _ hb
  case lookup t m k ok =>
    obtain ⟨hb, rfl⟩ := hmap _ h
    obtain ⟨v', a, b⟩ := aLookup_run hW hb (hρ m (by simp)) (hρ k (by simp))
    exact .value rfl hW a b
  case mapUpdate t m k u =>
    obtain ⟨hb, rfl⟩ := hmapW _ h
    exact .unit rfl (aMapUpdate_run hW hb (hρ m (by simp)) (hρ k (by simp)) (hρ u (by simp)))
  case mapEntry => cases h
  case entryStore => cases h
  case range t x =>
    split at h
    · rename_i s hu hx0
      injection h with h
      rw [AW.new_eq] at h
      injection h with h1 h2
      subst h1; subst h2
      have hx := hρ x (by simp)
      rw [hx0] at hx
      have hal := hW.alloc (o := .siter s 0) (x := .stringIter s 0) (e := 1) ⟨rfl, rfl, by rw [Array.getElem?_push]; simp⟩
      have hv := VR.ptr (σ := bind1 σ W.next ⟨w.heap.size, 0, 1⟩) ⟨W.next, 0, none⟩ _ bind1_same rfl
      exact .value' rfl ⟨_, .pointer (some ⟨w.heap.size, 0, none⟩), { w with heap := w.heap.push (.stringIter s 0) }, by simp [Instr.range, run_underlying hu, hx.string_inv], by simpa using hv, hal.1, hal.2⟩
    · cases h
  case next it isS =>
    cases isS <;> simp only at h
    · cases h
    have hx := hρ it (by simp)
    split at h
    · rename_i b sp hit
      rw [hit] at hx
      obtain ⟨g, hg, hsp, e⟩ := hx.ptr_inv
      split at h
      · rename_i s ps hget
        obtain ⟨g1, g2, g3⟩ := hW.obj b _ g hget hg
        have hgo : (getObj g.B).run P w = .ok (.stringIter s ps) w := by simp [getObj, Sem.run, g3]
        have e2 : ρ it = .pointer (some ⟨g.B, 0, none⟩) := by rw [e]; simp [g1]
        split at h
        · rename_i hlt
          injection h with h; injection h with h1 h2; subst h1; subst h2
          have hblt : g.B < w.heap.size := (Array.getElem?_eq_some_iff.1 g3).1
          have hso : (setObj g.B (.stringIter s (ps + (Utf8.decode s ps).2))).run P w = .ok () { w with heap := w.heap.setIfInBounds g.B (.stringIter s (ps + (Utf8.decode s ps).2)) } := by simp [setObj, Sem.run, g3]
          have hq := hW.setObj (o' := .siter s (ps + (Utf8.decode s ps).2)) (x := .stringIter s (ps + (Utf8.decode s ps).2)) hget (fun _ hx => by cases hx) hg ⟨g1, g2⟩ (fun c t fr hx => by rw [g3] at hx; cases hx) ⟨g1, g2, by simp [Array.getElem?_setIfInBounds, hblt]⟩
          exact .value' rfl ⟨σ, .tuple #[.bool true, goInt ps, .int .i32 (Utf8.decode s ps).1], _, by simp [Instr.next, e2, hgo, hlt, hso], VR.tuple' (by simpa [goInt] using LR.cons (.bool true) (.cons (.int _ _) (.cons (.int _ _) .nil))), hq.1, hq.2⟩
        · rename_i hlt
          injection h with h; injection h with h1 h2; subst h1; subst h2
          exact .value rfl hW (v' := .tuple #[.bool false]) (by simp [Instr.next, e2, hgo, hlt]) (VR.tuple' (by simpa using LR.cons (.bool false) .nil))
      · cases h
    · cases h
  case entry => cases h
  case typeAssert x xt t ok =>
    split at h
    · cases h
    · rename_i d u v0 hd hu hx0
      split at h
      · rename_i hut
        subst hut
        injection h with h; injection h with h1 h2; subst h1; subst h2
        have hx := hρ x (by simp)
        rw [hx0] at hx
        obtain ⟨u', h1, e⟩ := hx.iface_inv
        refine .value rfl hW (v' := if ok then .tuple #[u', .bool true] else u') ?_ ?_
        · simp only [Instr.typeAssert, Sem.run_bind, run_underlying hu, Result.andThen_ok, e]
          cases d <;> first | (simp; done) | exact absurd rfl (hd _)
        · cases ok
          · exact h1
          · exact two_VR h1 (.bool true)
      · cases h
    · cases h
  case extract x i =>
    split at h
    · rename_i vs hx0
      obtain ⟨hb, rfl⟩ := hmap _ h
      have hx := hρ x (by simp)
      rw [hx0] at hx
      obtain ⟨cs', hc, e⟩ := hx.tuple_inv
      obtain ⟨v', a, b⟩ := hc.get (i := i) (v := v) (by simpa using hb)
      have a' : cs'[i]? = some v' := by simpa using a
      exact .value rfl hW (v' := v') (by simp [Instr.extract, e, a']) b
    · cases h
  case call => cases h
  case go => cases h
  case defer => cases h
  case panic => cases h
  case send => cases h
  case recv => cases h
  case select => cases h
end
end Go.Eng
