/- Calls: the engine's answers are those of the model. -/
import Derived.Test.YtfcfglpkgcheiaaDoorEngR
namespace Go.Eng
open Go
set_option linter.unusedSectionVars false
set_option linter.unusedSimpArgs false
variable [PlanTab]

noncomputable def argGo : Nat → List Value → PlanTab.Fr → PlanTab.Fr
  | _, [], R => R
  | k, v :: l, R => argGo (k + 1) l (rset R k v)
noncomputable def zipGo : List Tmp → List Value → PlanTab.Fr → PlanTab.Fr
  | t :: ts, v :: l, R => zipGo ts l (rset R t v)
  | _, _, R => R
noncomputable def aRes (P : Program) (W : AW) (R : PlanTab.Fr) : List ResultVar → Option (List Value)
  | [] => some []
  | .tmp t :: l => match aRes P W R l with
    | some vs => some (rget R t :: vs)
    | none => none
  | .cell a t :: l => match aLoad P W t (rget R a) with
    | some v => match aRes P W R l with
      | some vs => some (v :: vs)
      | none => none
    | none => none
noncomputable def aResults (P : Program) (W : AW) (R : PlanTab.Fr) (rs : Array ResultVar) : Option Value :=
  match aRes P W R rs.toList with
  | some [v] => some v
  | some vs => some (.tuple vs.toArray)
  | none => none
def resOk (nt : Nat) : ResultVar → Bool
  | .tmp t => Nat.blt t nt
  | .cell a _ => Nat.blt a nt
def funOk (ng : List Nat) (fn : Func) : Bool :=
  match fn.body with
  | some c => codeOk fn.ntmps ng c && fn.results.toList.all (resOk fn.ntmps) && !(fn.name == "runtime.NumGoroutine")
  | none => true
def funsOk (ng : List Nat) (bad : List Nat) : Nat → List Func → Bool
  | _, [] => true
  | i, fn :: l => (inL i bad || funOk ng fn) && funsOk ng bad (i + 1) l

/-- one call, its own calls answered by 'call' -/
noncomputable def bodyC (P : Program) (bad : List Nat) (spec call : Callee) : Callee := fun f args W =>
    match f with
    | .func (.func i) fs cs => match inL i bad with
      | true => spec (.func (.func i) fs cs) args W
      | false => match P.funcs[i]? with
        | some fn => match fn.body with
          | some c => match Nat.ble (fs.toList.length + (args.length + cs.toList.length)) fn.ntmps with
            | true => match aCode P call true fn.ntmps c (argGo 0 (fs.toList ++ (args ++ cs.toList)) PlanTab.blank) W with
              | some (x, R, W') => match x with
                | .exit _ => none
                | _ => match aResults P W' R fn.results with
                  | some v => some (v, W')
                  | none => none
              | none => none
            | false => none
          | none => none
        | none => none
    | .func (.yield l) fs _ => match W.get l with
      | some (.loop .ready none R nt ps as bd) => match Nat.beq (fs.toList.length + args.length) ps.size with
        | true => match aCode P call false nt as (zipGo ps.toList (fs.toList ++ args) R) W with
          | some (.normal, R1, W1) => match W1.get l with
            | some (.loop .ready pd9 R9 nt9 ps9 as9 bd9) => match aCode P call false nt bd R1 (W1.put l (.loop .busy pd9 R9 nt9 ps9 as9 bd9)) with
              | some (x, _, W2) => match W2.get l with
                | some (.loop _ _ R8 nt8 ps8 as8 bd8) => match x with
                  | .normal => some (.bool true, W2.put l (.loop .ready none R8 nt8 ps8 as8 bd8))
                  | x => some (.bool false, W2.put l (.loop .done x.jump R8 nt8 ps8 as8 bd8))
                | _ => none
              | none => none
            | _ => none
          | _ => none
        | false => none
      | _ => none
    | _ => none
noncomputable def aCallF (P : Program) (bad : List Nat) (spec : Callee) : Nat → Callee
  | 0 => fun _ _ _ => none
  | n + 1 => bodyC P bad spec (aCallF P bad spec n)

theorem funsOk_get {ng : List Nat} {bad : List Nat} : ∀ (l : List Func) (k : Nat), funsOk ng bad k l = true → ∀ (i : Nat) (fn : Func), l[i]? = some fn → inL (k + i) bad = false → funOk ng fn = true := by
  intro l
  induction l with
  | nil => intro k _ i fn h; simp at h
  | cons f l ih =>
    intro k h i fn hi hb
    simp only [funsOk, Bool.and_eq_true, Bool.or_eq_true] at h
    cases i with
    | zero =>
      simp at hi
      subst hi
      rcases h.1 with h1 | h1
      · simp at hb; rw [h1] at hb; cases hb
      · exact h1
    | succ i =>
      simp at hi
      exact ih (k + 1) h.2 i fn hi (by rw [← hb]; congr 1; omega)

theorem rget_lf (t : Nat) : rget PlanTab.blank t = undef := PlanTab.get_blank t
theorem argGo_get : ∀ (l : List Value) (k : Nat) (R : PlanTab.Fr) (t : Nat), rget (argGo k l R) t = if k ≤ t ∧ t < k + l.length then l.getD (t - k) undef else rget R t := by
  intro l
  induction l with
  | nil => intro k R t; simp [argGo]; intro h1 h2; omega
  | cons v l ih =>
    intro k R t
    simp only [argGo, ih, List.length_cons]
    by_cases h : k = t
    · subst h
      rw [if_neg (by omega), if_pos (by omega), rget_rset]
      simp
    · rw [rget_rset_ne _ _ h]
      by_cases h2 : k + 1 ≤ t ∧ t < k + 1 + l.length
      · rw [if_pos h2, if_pos (by omega)]
        obtain ⟨j, hj⟩ : ∃ j, t - k = j + 1 := ⟨t - k - 1, by omega⟩
        have : t - (k + 1) = j := by omega
        rw [this, hj]
        simp
      · rw [if_neg h2, if_neg (by omega)]

section
variable {P : Program} {σ : Inj} {W : AW} {w : World}

theorem args_rel {nt : Nat} {l : List Value} {a : Array Value} (h : LR σ l a.toList) (hn : l.length ≤ nt) : RegRel nt σ (argGo 0 l PlanTab.blank) (a ++ Array.replicate (nt - a.size) undef) := by
  have hlen : l.length = a.size := by have := h.1; simpa using this
  refine ⟨by simp; omega, fun t ht => ?_⟩
  rw [argGo_get]
  by_cases hlt : t < l.length
  · rw [if_pos (by omega)]
    have h1 : l[t]? = some l[t] := List.getElem?_eq_getElem hlt
    obtain ⟨v', e, hv⟩ := h.get h1
    have e1 : l.getD (t - 0) undef = l[t] := by simp [hlt]
    have e2 : (a ++ Array.replicate (nt - a.size) undef).getD t undef = v' := by
      rw [Array.getElem?_toList] at e
      have : t < a.size := by omega
      simp [Array.getElem?_append, this, e]
      rw [Array.getElem?_eq_getElem this] at e
      injection e
    rw [e1, e2]; exact hv
  · rw [if_neg (by omega), rget_lf]
    have e2 : (a ++ Array.replicate (nt - a.size) undef).getD t undef = undef := by
      simp only [Array.getD_eq_getD_getElem?, Array.getElem?_append]
      rw [if_neg (by omega)]
      simp [Array.getElem?_replicate]
      split <;> rfl
    rw [e2]; exact .undef

theorem zip_rel {nt : Nat} : ∀ (ts : List Tmp) (l l' : List Value) (R : PlanTab.Fr) (tm : Array Value), LR σ l l' → ts.all (fun t => Nat.blt t nt) = true → RegRel nt σ R tm →
    RegRel nt σ (zipGo ts l R) ((ts.zip l').foldl (fun tmps (x : Tmp × Value) => tmps.setIfInBounds x.1 x.2) tm) := by
  intro ts
  induction ts with
  | nil => intro l l' R tm h _ hR; cases l <;> exact hR
  | cons t ts ih =>
    intro l l' R tm h ha hR
    cases l with
    | nil => have := h.of_nil; subst this; exact hR
    | cons v l =>
      obtain ⟨v', l'', rfl, hv, hl⟩ := h.of_cons
      simp only [List.all_cons, Bool.and_eq_true] at ha
      exact ih l l'' _ _ hl ha.2 (hR.set t hv)

theorem load_result (hW : WRel σ W w.heap) {t : TypeId} {x x' v : Value} (h : aLoad P W t x = some v) (hx : VR σ x x') :
    ∃ v', (do loadVar t (← asAddr x') : Sem Value).run P w = .ok v' w ∧ VR σ v v' := by
  obtain ⟨v', h1, h2⟩ := aLoad_run hW h hx
  refine ⟨v', ?_, h2⟩
  rw [← h1]
  unfold aLoad at h
  split at h
  · obtain ⟨g, hg, hs, rfl⟩ := hx.ptr_inv
    simp [asAddr, Instr.loadAt, Instr.sureAddr]
  · cases h

def resOne (tmps : Array Value) (r : ResultVar) : Sem Value :=
  match r with
  | .tmp t => pure (tmps.getD t undef)
  | .cell a t => do loadVar t (← asAddr (tmps.getD a undef))
theorem results_eq (fn : Func) (tmps : Array Value) : results fn tmps = (do let vs ← fn.results.mapM (resOne tmps); pure (if h : vs.size = 1 then vs[0] else .tuple vs)) := rfl

theorem aRes_run (hW : WRel σ W w.heap) {nt : Nat} {R : PlanTab.Fr} {tmps : Array Value} (hR : RegRel nt σ R tmps) : ∀ (rs : List ResultVar) (vs : List Value), rs.all (resOk nt) = true → aRes P W R rs = some vs →
    ∃ vs', LR σ vs vs' ∧ (rs.mapM (resOne tmps)).run P w = .ok vs' w := by
  intro rs
  induction rs with
  | nil => intro vs _ h; injection h with h; subst h; exact ⟨[], .nil, by simp⟩
  | cons r rs ih =>
    intro vs hok h
    simp only [List.all_cons, Bool.and_eq_true] at hok
    cases r with
    | tmp t =>
      unfold aRes at h
      split at h
      · rename_i vs0 h0
        injection h with h; subst h
        obtain ⟨vs', k1, k2⟩ := ih vs0 hok.2 h0
        refine ⟨_, .cons (hR.2 t (by simpa [resOk, Nat.blt_eq] using hok.1)) k1, ?_⟩
        have h1 : (resOne tmps (.tmp t)).run P w = .ok (tmps.getD t undef) w := rfl
        rw [List.mapM_cons, Sem.run_bind, h1, Result.andThen_ok, Sem.run_bind, k2, Result.andThen_ok]
        rfl
      · cases h
    | cell a t =>
      unfold aRes at h
      split at h
      · rename_i v hv
        split at h
        · rename_i vs0 h0
          injection h with h; subst h
          obtain ⟨vs', k1, k2⟩ := ih vs0 hok.2 h0
          obtain ⟨v', k3, k4⟩ := load_result hW hv (hR.2 a (by simpa [resOk, Nat.blt_eq] using hok.1))
          refine ⟨_, .cons k4 k1, ?_⟩
          have h1 : (resOne tmps (.cell a t)).run P w = .ok v' w := k3
          rw [List.mapM_cons, Sem.run_bind, h1, Result.andThen_ok, Sem.run_bind, k2, Result.andThen_ok]
          rfl
        · cases h
      · cases h

theorem aResults_run (hW : WRel σ W w.heap) {fn : Func} {R : PlanTab.Fr} {tmps : Array Value} {v : Value} (hok : fn.results.toList.all (resOk fn.ntmps) = true) (hR : RegRel fn.ntmps σ R tmps) (h : aResults P W R fn.results = some v) :
    ∃ v', (results fn tmps).run P w = .ok v' w ∧ VR σ v v' := by
  unfold aResults at h
  have key : ∀ vs, aRes P W R fn.results.toList = some vs → ∃ vs', LR σ vs vs' ∧ (results fn tmps).run P w = .ok (if h : vs'.toArray.size = 1 then vs'.toArray[0] else .tuple vs'.toArray) w := by
    intro vs hvs
    obtain ⟨vs', k1, k2⟩ := aRes_run hW hR _ _ hok hvs
    refine ⟨vs', k1, ?_⟩
    rw [results_eq, Sem.run_bind, Array.mapM_eq_mapM_toList, Sem.run_map, k2]
    rfl
  split at h
  · rename_i u hu
    injection h with h; subst h
    obtain ⟨vs', k1, k2⟩ := key _ hu
    obtain ⟨v', l', rfl, k3, k4⟩ := k1.of_cons
    have := k4.of_nil
    subst this
    exact ⟨v', by rw [k2]; simp, k3⟩
  · rename_i vs hne hvs
    injection h with h; subst h
    obtain ⟨vs', k1, k2⟩ := key _ hvs
    refine ⟨.tuple vs'.toArray, ?_, VR.tuple' (by simpa using k1)⟩
    rw [k2]
    have : vs'.toArray.size ≠ 1 := by
      intro e
      have e2 : vs.length = 1 := by have := k1.1; simp at e; omega
      match vs, e2 with
      | [u], _ => exact hne u rfl
    rw [dif_neg this]
  · cases h
end

section
variable {P : Program} {σ σ0 : Inj} {W W0 : AW} {w w0 : World}

theorem Ext.other (he : Ext σ0 W0 w0 σ W w) {r : Nat} (hr : w0.heap.size ≤ r) {x y : Obj} (hy : w.heap[r]? = some y) (hx : ∀ c t fr, x ≠ .cells c t fr) (hy' : ∀ c t fr, y ≠ .cells c t fr) : Ext σ0 W0 w0 σ W (w.putObj r x) :=
  ⟨he.sub, he.ro, by simpa [World.putObj] using he.size, he.os, he.tape, he.output, fun B hB hm => by
    rw [World.putObj_heap_other (by omega)]; exact he.keep B hB hm, he.ghost, he.grow, fun a => by
    rw [← he.fr a]
    by_cases ha : a.block = r
    · unfold World.frozen?
      rw [ha, hy, World.putObj_heap_same (Array.getElem?_eq_some_iff.1 hy).1]
      cases x <;> cases y <;> first | rfl | exact absurd rfl (hx _ _ _) | exact absurd rfl (hy' _ _ _)
    · exact frozen_same (World.putObj_heap_other ha)⟩

theorem leaves {fn : Func} {R : PlanTab.Fr} {tmps : Array Value} {v : Value} (hok : fn.results.toList.all (resOk fn.ntmps) = true) (hR : RegRel fn.ntmps σ R tmps) (h : aResults P W R fn.results = some v) :
    ∀ (ds : List Deferred) (w : World), Marks w0.heap.size σ w ds → WRel σ W w.heap → Ext σ0 W0 w0 σ W w →
      LeavesInM (FE none) 0 P fn tmps (fun e w' => ∃ v', e = .returned v' ∧ ∃ σ', VR σ' v v' ∧ WRel σ' W w'.heap ∧ Ext σ0 W0 w0 σ' W w') ds .returning w := by
  intro ds
  induction ds with
  | nil =>
    intro w _ hW he
    obtain ⟨v', k1, k2⟩ := aResults_run hW hok hR h
    exact ⟨v', k1, v', rfl, σ, k2, hW, he⟩
  | cons d ds ih =>
    rintro w ⟨⟨r, e1, e2, e3, e4, e5⟩, hds⟩ hW he
    refine ⟨by simp, .inl ⟨r, w.putObj r (.deferred none), by rw [e1], run_takeDeferred e3, ih _ ?_ (hW.other e4 _) (he.other e2 e3 (fun _ _ _ e => by cases e) (fun _ _ _ e => by cases e))⟩⟩
    have : ∀ {ds : List Deferred}, (∀ d' ∈ ds, ∀ r', d'.target = .collected r' → r' ≠ r) → Marks w0.heap.size σ w ds → Marks w0.heap.size σ (w.putObj r (.deferred none)) ds := by
      intro ds
      induction ds with
      | nil => intro _ _; trivial
      | cons d ds ih =>
        rintro hne ⟨⟨r', a1, a2, a3, a4, a5⟩, hds⟩
        exact ⟨⟨r', a1, a2, by rw [World.putObj_heap_other (hne d (by simp) r' (by rw [a1]))]; exact a3, a4, a5⟩, ih (fun d' hd' => hne d' (by simp [hd'])) hds⟩
    exact this e5 hds
end
end Go.Eng
