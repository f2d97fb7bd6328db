/- THE ENGINE IS SOUND. -/
import Derived.Test.YtfcfglpkgcheiaaDoorEngS
namespace Go.Eng
open Go
set_option linter.unusedSectionVars false
set_option linter.unusedSimpArgs false
variable [PlanTab]

theorem FE_inRound (l : Nat) : (FE none).inRound l = FE (some l) := rfl
theorem X.jump_to {x : X} (hx : x ≠ .normal) : ∃ c, x.jump = some c := by cases x <;> first | exact absurd rfl hx | exact ⟨_, rfl⟩

theorem run_callFunc_enter' {P : Program} {f : FuncId} {fn : Func} {c : Code} (hf : P.funcs[f]? = some fn) (hname : (fn.name == "runtime.NumGoroutine") = false) (hb : fn.body = some c) (args : Array Value) (w : World) :
    (callFunc f args).run P w = .ok (.enter f args) w := by
  have h1 : fn.name ≠ "runtime.NumGoroutine" := by simpa using hname
  simp [callFunc, hf, h1, hb]

theorem callee_step {P : Program} (hm : P.follows .mixedOrders = true) {ng : List Nat} (hng : ng = PlanTab.ng) {bad : List Nat} (hP : funsOk ng bad 0 P.funcs.toList = true) {spec : Callee} (hs : CalleeOK P ng spec) {call : Callee} (ih : CalleeOK P ng call) :
    CalleeOK P ng (bodyC P bad spec call) := by
    intro f args W v W' h σ w f' args' hW hG hf hargs
    unfold bodyC at h
    split at h
    · -- a function
      rename_i i fs cs
      split at h
      · exact hs _ _ _ _ _ h σ w f' args' hW hG hf hargs
      rename_i hbad
      split at h
      case h_2 => cases h
      rename_i fn hfn
      split at h
      case h_2 => cases h
      rename_i c hbody
      split at h
      case h_2 => cases h
      rename_i hlen
      split at h
      case h_2 => cases h
      rename_i x R W1 hcode
      have hfok : funOk ng fn = true := funsOk_get _ _ hP i fn (by rw [Array.getElem?_toList]; exact hfn) (by simpa using hbad)
      unfold funOk at hfok
      rw [hbody] at hfok
      simp only [Bool.and_eq_true, Bool.not_eq_true'] at hfok
      obtain ⟨⟨hco, hres⟩, hname⟩ := hfok
      obtain ⟨fn', fs', cs', hfr, hfs, hcs, rfl⟩ := hf.func_inv
      cases hfr
      have hx : (∀ id, x ≠ .exit id) ∧ ∃ v0, aResults P W1 R fn.results = some v0 ∧ v0 = v ∧ W1 = W' := by
        cases x with
        | exit id => cases h
        | normal =>
          refine ⟨fun id e => X.noConfusion e, ?_⟩
          simp only at h
          split at h
          · rename_i v0 hv0; injection h with h; injection h with h1 h2; exact ⟨v0, hv0, h1, h2⟩
          · cases h
        | ret =>
          refine ⟨fun id e => X.noConfusion e, ?_⟩
          simp only at h
          split at h
          · rename_i v0 hv0; injection h with h; injection h with h1 h2; exact ⟨v0, hv0, h1, h2⟩
          · cases h
      obtain ⟨hxe, v0, hv0, rfl, rfl⟩ := hx
      have hall : LR σ (fs.toList ++ (args ++ cs.toList)) (fs' ++ args'.toArray ++ cs').toList := by
        have h1 := (hfs.append (hargs.append hcs))
        simpa [List.append_assoc] using h1
      have hlen' : (fs.toList ++ (args ++ cs.toList)).length ≤ fn.ntmps := by
        have := Nat.le_of_ble_eq_true hlen
        simpa using this
      refine ⟨run_callFunc_enter' hfn hname hbody _ w, ?_⟩
      refine callsIn_of_wp_marks hfn hbody trivial ?_
      refine aCode_walks hm hng ih (n0 := w.heap.size) (fun _ => rfl) c hco x _ _ _ _ hcode σ _ w _ hW hG (args_rel hall hlen') trivial (Nat.le_refl _) fun σ' a' w' k1 k2 k3 k4 => ?_
      have hl := leaves hres k1 hv0 a'.defers w' k2 k3 k4
      cases x with
      | exit id => exact absurd rfl (hxe id)
      | normal => exact hl
      | ret => exact hl
    · -- a round
      rename_i l fs cs
      split at h
      case h_2 => cases h
      rename_i R nt ps as bd hget
      split at h
      case h_2 => cases h
      rename_i hlen
      split at h
      case h_2 => cases h
      rename_i R1 W1 hcode1
      split at h
      case h_2 => cases h
      rename_i pd9 R9 nt9 ps9 as9 bd9 hget1
      split at h
      case h_2 => cases h
      rename_i x R2 W2 hcode2
      split at h
      case h_2 => cases h
      rename_i st8 pd8 R8 nt8 ps8 as8 bd8 hget2
      obtain ⟨fn', fs', cs', hfr, hfs, hcs, rfl⟩ := hf.func_inv
      cases hfr with
      | yield _ g hg =>
      obtain ⟨g1, g2, r, r1, r2, r3, r4, r5, r6, r7, ⟨hG1, hk1⟩, ⟨hG2, hk2⟩, hps⟩ := hW.obj _ _ _ hget hg
      have hall : LR σ (fs.toList ++ args) (fs' ++ args'.toArray).toList := by
        have h1 := hfs.append hargs
        simpa using h1
      have hsz : (fs' ++ args'.toArray).size = r.params.size := by
        have h1 := hall.1
        have h2 : fs.toList.length + args.length = ps.size := Nat.eq_of_beq_eq_true hlen
        rw [List.length_append, h2, Array.length_toList] at h1
        rw [r5]
        exact h1.symm
      refine ⟨r.fn, _, r.assign, r.body, run_yield r1 hsz, ?_⟩
      rw [r6, r7]
      refine roundIn_of_wpIn trivial ?_
      have hR0 : RegRel nt σ (zipGo ps.toList (fs.toList ++ args) R) ((r.params.zip (fs' ++ args'.toArray)).foldl (fun tmps (x : Tmp × Value) => tmps.setIfInBounds x.1 x.2) r.tmps) := by
        have := zip_rel ps.toList _ _ R r.tmps hall hps r4
        rw [r5, ← Array.foldl_toList, Array.toList_zip]
        exact this
      rw [← hng] at hk1 hk2
      rw [FE_inRound]
      refine aCode_walks hm hng ih (n0 := w.heap.size) (ro := some g.B) (fun e => by cases e) as hk1 .normal _ _ _ _ hcode1 σ _ w _ hW hG hR0 trivial (Nat.le_refl _) fun σ1 a1 w1 k1 k2 k3 k4 => ?_
      have hg1 : σ1 l = some g := k4.sub _ _ hg
      obtain ⟨_, _, rr, q1, q2, q3, q4, q5, q6, q7, q8, q9, q10⟩ := k3.obj _ _ _ hget1 hg1
      have hgse : g.s = 0 ∧ g.e = 1 := ⟨g1, g2⟩
      obtain ⟨s1, s2⟩ := k3.setObj (w := w1) (o' := .loop .busy pd9 R9 nt9 ps9 as9 bd9) (x := .loop { rr with state := .busy }) hget1 (fun _ => by simp) hg1 hgse (fun c t fr e => by rw [q1] at e; cases e)
        ⟨g1, g2, { rr with state := .busy }, by simp [(k3.dom _ _ hg1).2], rfl, q3, q4, q5, q6, q7, q8, q9, q10⟩
      refine ⟨_, run_beginRound q1 q2, ?_⟩
      refine aCode_walks hm hng ih (n0 := w.heap.size) (ro := some g.B) (fun e => by cases e) bd hk2 x _ _ _ _ hcode2 σ1 a1 (w1.putObj g.B (.loop { rr with state := .busy })) _ s1 (hG.mono k4.sub) k1 (k2.ext s2) (by have := k4.size; simpa using this) fun σ2 a2 w2 _ _ t3 t4 => ?_
      have hg2 : σ2 l = some g := t4.sub _ _ hg1
      obtain ⟨_, _, r8, u1, u2, u3, u4, u5, u6, u7, u8, u9, u10⟩ := t3.obj _ _ _ hget2 hg2
      have fin : ∀ (jump : Option Code) (st' : LoopState), st' = (if jump.isNone then .ready else .done) → v = .bool jump.isNone → W' = W2.put l (.loop st' jump R8 nt8 ps8 as8 bd8) →
          ∃ v' w', (Instr.endRound g.B jump).run P w2 = .ok v' w' ∧ ∃ v'', Ending.returned v' = .returned v'' ∧ ∃ σ', VR σ' v v'' ∧ WRel σ' W' w'.heap ∧ Ext σ W w σ' W' w' := by
        intro jump st' hst hv hW'
        subst hst
        subst hv
        subst hW'
        obtain ⟨z1, z2⟩ := t3.setObj (w := w2) (o' := .loop (if jump.isNone then .ready else .done) jump R8 nt8 ps8 as8 bd8) (x := .loop { r8 with state := if jump.isNone then .ready else .done, pending := jump }) hget2 (fun _ => by simp) hg2 hgse (fun c t fr e => by rw [u1] at e; cases e)
          ⟨g1, g2, { r8 with state := if jump.isNone then .ready else .done, pending := jump }, by simp [(t3.dom _ _ hg2).2], rfl, rfl, u4, u5, u6, u7, u8, u9, u10⟩
        exact ⟨_, _, run_endRound jump u1, _, rfl, σ2, .bool _, z1, ((k4.trans s2).trans t4).trans z2⟩
      cases x with
      | normal =>
        simp only at h
        injection h with h; injection h with h1 h2
        exact fin none .ready rfl h1.symm h2.symm
      | exit id =>
        simp only at h
        injection h with h; injection h with h1 h2
        exact fin (some (.exit id)) .done rfl h1.symm h2.symm
      | ret =>
        simp only at h
        injection h with h; injection h with h1 h2
        exact fin (some .ret) .done rfl h1.symm h2.symm
    · cases h
theorem callee_ok {P : Program} (hm : P.follows .mixedOrders = true) {ng : List Nat} (hng : ng = PlanTab.ng) {bad : List Nat} (hP : funsOk ng bad 0 P.funcs.toList = true) {spec : Callee} (hs : CalleeOK P ng spec) :
    ∀ n, CalleeOK P ng (aCallF P bad spec n)
  | 0 => fun f args W v W' h => by cases h
  | n + 1 => callee_step hm hng hP hs (callee_ok hm hng hP hs n)
end Go.Eng
