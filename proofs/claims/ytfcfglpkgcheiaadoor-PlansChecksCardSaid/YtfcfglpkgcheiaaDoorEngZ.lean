/- A callee that is answered for: whether an operation has just the fields of its kind. -/
import Derived.Test.YtfcfglpkgcheiaaDoorEngY
namespace Go.Eng
open Go Go.RowKit
set_option linter.unusedSectionVars false
set_option linter.unusedSimpArgs false
set_option linter.unusedVariables false
variable [PlanTab]

def opArr (k ow un se sc n to t1 t2 t3 t4 nw : Int) : Array Value := #[.int .i64 k, .int .u32 ow, .int .i64 un, .int .i64 se, .int .i64 sc, .int .i64 n, .int .u32 to, .int .u32 t1, .int .u32 t2, .int .u64 t3, .int .u64 t4, .int .i64 nw]
def errOp (ow un se sc n to t1 t2 t3 t4 nw u : Int) : Int :=
  errB (!decide (ow = 0)) (!decide (un = 0)) (!decide (se = 0)) (!decide (sc = 0)) (!decide (n = 0)) (!decide (to = 0)) (!((t1 == 0) && ((t2 == 0) && ((t3 == 0) && ((t4 == 0) && true))))) (!decide (nw = 0)) u
noncomputable def chkArgs (c : List Value) (W : AW) : Option Value :=
  match c with
  | [.int .i64 k, .int .u32 ow, .int .i64 un, .int .i64 se, .int .i64 sc, .int .i64 n, .int .u32 to, .int .u32 t1, .int .u32 t2, .int .u64 t3, .int .u64 t4, .int .i64 nw] =>
    (match decide (k < 1) || decide (12 < k) with
    | true => some (.int .i64 2)
    | false => match W.get 0 with
      | some (.ro us) => (match us[k.toNat]? with
        | some (.int .i64 u) => some (.int .i64 (errOp ow un se sc n to t1 t2 t3 t4 nw u))
        | _ => none)
      | _ => none)
  | _ => none
noncomputable def chk (F : Nat) : Callee := fun f args W => match f with
  | .func (.func g) fs cs => (match Nat.beq g F && (fs.isEmpty && cs.isEmpty) with
    | true => (match args with
      | [.agg c] => (match chkArgs c.toList W with
        | some v => some (v, W)
        | none => none)
      | _ => none)
    | false => none)
  | _ => none

theorem Quiet.box (w : World) (cs : Array Value) (t : TypeId) : Quiet w (w.alloc (.cells cs t)) := by
  refine ⟨rfl, rfl, rfl, by simp, fun B hB => (World.grownBy_alloc w _ none).block B hB (by simp), fun a => ?_⟩
  by_cases hl : a.block < w.heap.size
  · exact World.frozen?_of_block ((World.grownBy_alloc w _ none).block _ hl (by simp))
  · rw [none_cold (w := w) (by omega)]
    by_cases e : a.block = w.heap.size
    · unfold World.frozen?
      rw [e, (MapKept.heap_alloc w _).1]
      simp
    · refine none_cold ?_
      have : (w.alloc (.cells cs t)).heap.size = w.heap.size + 1 := by simp
      omega

theorem chk_ok {P : Program} {ng : List Nat} (h0 : 0 ∈ ng) {F : Nat} {fn : Func} {body : Code} (hfn : P.funcs[F]? = some fn) (hname : (fn.name == "runtime.NumGoroutine") = false) (hb : fn.body = some body)
    (hin : ∀ (k ow un se sc n to t1 t2 t3 t4 nw u : Int) (w : World), ¬ k < 1 → ¬ 12 < k → w.cell? ⟨0, k.toNat, none⟩ = some (.int .i64 u) →
      Calls P F #[.agg (opArr k ow un se sc n to t1 t2 t3 t4 nw)] w fun e w' => e = .returned (.int .i64 (errOp ow un se sc n to t1 t2 t3 t4 nw u)) ∧ Quiet w w')
    (hout : ∀ (k ow un se sc n to t1 t2 t3 t4 nw : Int) (w : World), (k < 1 ∨ 12 < k) →
      Calls P F #[.agg (opArr k ow un se sc n to t1 t2 t3 t4 nw)] w fun e w' => e = .returned (.int .i64 2) ∧ Quiet w w') : CalleeOK P ng (chk F) := by
  intro f args W v W' h σ w f' args' hW hG hf hargs
  unfold chk at h
  split at h
  case h_2 => cases h
  rename_i g fs cs
  split at h
  case h_2 => cases h
  rename_i hgf
  simp only [Bool.and_eq_true, Nat.beq_eq, Array.isEmpty_iff] at hgf
  obtain ⟨rfl, rfl, rfl⟩ := hgf
  split at h
  case h_2 => cases h
  rename_i c
  split at h
  case h_2 => cases h
  rename_i v1 hv1
  injection h with h
  injection h with h1 h2
  subst h1; subst h2
  obtain ⟨fn', fs', cs', hfr, hfs, hcs, rfl⟩ := hf.func_inv
  cases hfr
  obtain rfl : fs' = #[] := by
    have h1 : fs'.toList.length = 0 := hfs.1.symm
    exact Array.toList_eq_nil_iff.1 (List.length_eq_zero_iff.1 h1)
  obtain rfl : cs' = #[] := by
    have h1 : cs'.toList.length = 0 := hcs.1.symm
    exact Array.toList_eq_nil_iff.1 (List.length_eq_zero_iff.1 h1)
  obtain ⟨a0, rfl⟩ : ∃ a0, args' = [a0] := by
    have := hargs.1
    match args', this with
    | [a0], _ => exact ⟨a0, rfl⟩
  unfold chkArgs at hv1
  split at hv1
  case h_2 => cases hv1
  rename_i k ow un se sc n to t1 t2 t3 t4 nw hc
  have hc' : c = opArr k ow un se sc n to t1 t2 t3 t4 nw := by
    apply Array.ext'
    rw [hc]; rfl
  subst hc'
  have ha : a0 = .agg (opArr k ow un se sc n to t1 t2 t3 t4 nw) := plain_eq (v := .agg (opArr k ow un se sc n to t1 t2 t3 t4 nw)) rfl (hargs.2 0 _ _ rfl rfl)
  subst ha
  have fin : ∀ z : Int, (Calls P g #[.agg (opArr k ow un se sc n to t1 t2 t3 t4 nw)] w fun e w' => e = .returned (.int .i64 z) ∧ Quiet w w') →
      CallV P (.func (.func g) #[] #[]) [.agg (opArr k ow un se sc n to t1 t2 t3 t4 nw)] w (fun v' w' => ∃ σ', VR σ' (.int .i64 z) v' ∧ WRel σ' W w'.heap ∧ Ext σ W w σ' W w') := by
    intro z hz
    refine ⟨run_callFunc_enter' hfn hname hb _ w, ?_⟩
    refine CallsIn.mono (show CallsIn Fence.wide 0 P g _ w _ from (callsIn_wide (n := 0)).2 hz) ?_
    rintro e w' ⟨rfl, hq⟩
    exact ⟨_, rfl, σ, .int _ _, hq.rel hW, hq.ext σ W⟩
  split at hv1
  · rename_i hk
    injection hv1 with hv1
    subst hv1
    exact fin _ (hout _ _ _ _ _ _ _ _ _ _ _ _ w (by simpa using hk))
  · rename_i hk
    simp only [Bool.or_eq_false_iff, decide_eq_false_iff_not] at hk
    split at hv1
    case h_2 => cases hv1
    rename_i us hus
    split at hv1
    case h_2 => cases hv1
    rename_i u hu
    injection hv1 with hv1
    subst hv1
    obtain ⟨e, he⟩ := hG 0 h0
    obtain ⟨cc, t, fr, k1, _, k3⟩ := hW.obj 0 _ _ hus he
    have hcell : w.cell? ⟨0, k.toNat, none⟩ = some (.int .i64 u) := by
      obtain ⟨v', this, hv'⟩ := k3 _ _ hu
      obtain rfl := hv'.int_inv
      simp only [Nat.zero_add] at this
      simp [World.cell?, k1, this]
    exact fin _ (hin _ _ _ _ _ _ _ _ _ _ _ _ _ w hk.1 hk.2 hcell)

/-! ### a callee that is answered for at some strings: the answer is reckoned once -/
theorem quiet_ofG {gs : List (Nat × List Value)} {N : Nat} {σ' : Inj} {W' : AW} {w w' : World} (he : Ext (σG gs) (WG gs N) w σ' W' w') : Quiet w w' :=
  ⟨he.os, he.tape, he.output, he.size, fun B hB => he.keep B hB mut_G, he.fr⟩
theorem closed_quiet {P : Program} (hm : P.follows .mixedOrders = true) {bad : List Nat} (hP : funsOk PlanTab.ng bad 0 P.funcs.toList = true) {spec : Callee} (hs : CalleeOK P PlanTab.ng spec) (n : Nat)
    {gs : List (Nat × List Value)} {N : Nat} (hN : gs.all (fun x => Nat.blt x.1 N) = true) (hng : PlanTab.ng.all (fun g => (gs.find? (fun x => x.1 == g)).isSome) = true) {i : Nat} {args : List Value} (hpl : args.all plain = true)
    (h : okTrue (aCallF P bad spec n (.func (.func i) #[] #[]) args (WG gs N)) = true) (w : World) (hl : LaidG gs w.heap) :
    Calls P i args.toArray w fun e w' => e = .returned (.bool true) ∧ Quiet w w' := by
  obtain ⟨W', hr⟩ := okTrue_eq h
  have hc := callee_ok hm rfl hP hs n _ _ _ _ _ hr (σG gs) w (.func (.func i) #[] #[]) args (rel_G hN hl) (glob_G hng)
    (.func _ _ _ _ _ _ (.func i) rfl (fun i v v' x => by simp at x) rfl (fun i v v' x => by simp at x)) (plains_rel hpl)
  unfold CallV at hc
  obtain ⟨_, hc⟩ := hc
  have e1 : (#[] : Array Value) ++ args.toArray ++ #[] = args.toArray := by simp
  rw [e1] at hc
  refine (callsIn_wide (n := 0)).1 ?_
  refine CallsIn.mono (show CallsIn Fence.wide 0 P i args.toArray w _ from hc) ?_
  rintro e w' ⟨v, rfl, σ', hv, _, he⟩
  exact ⟨by rw [hv.bool_inv], quiet_ofG he⟩
theorem funsOk_more {ng bad : List Nat} {F : Nat} : ∀ {l : List Func} {i : Nat}, funsOk ng bad i l = true → funsOk ng (F :: bad) i l = true
  | [], _, _ => rfl
  | f :: l, i, h => by
    simp only [funsOk, Bool.and_eq_true, Bool.or_eq_true] at h ⊢
    refine ⟨?_, funsOk_more h.2⟩
    rcases h.1 with h1 | h1
    · exact .inl (inL_iff.2 (List.mem_cons_of_mem _ (inL_iff.1 h1)))
    · exact .inr h1
noncomputable def memo (F : Nat) (names : List ByteArray) (s : Callee) : Callee := fun f args W => match f with
  | .func (.func g) fs cs => (match Nat.beq g F && (fs.isEmpty && cs.isEmpty) with
    | true => (match args with
      | [.string b] => (match names.any (bytesEq b) with
        | true => (match W.get 0 with
          | some (.ro _) => some (.bool true, W)
          | _ => none)
        | false => none)
      | _ => none)
    | false => s (.func (.func g) fs cs) args W)
  | _ => none
theorem memo_ok {P : Program} {ng : List Nat} (h0 : 0 ∈ ng) {F : Nat} {fn : Func} {body : Code} (hfn : P.funcs[F]? = some fn) (hname : (fn.name == "runtime.NumGoroutine") = false) (hb : fn.body = some body) {names : List ByteArray} {s : Callee} (hs : CalleeOK P ng s)
    (hall : ∀ b ∈ names, ∀ w : World, LaidG [(0, [])] w.heap → Calls P F #[.string b] w fun e w' => e = .returned (.bool true) ∧ Quiet w w') : CalleeOK P ng (memo F names s) := by
  intro f args W v W' h σ w f' args' hW hG hf hargs
  unfold memo at h
  split at h
  case h_2 => cases h
  rename_i g fs cs
  split at h
  case h_2 => exact hs _ _ _ _ _ h σ w f' args' hW hG hf hargs
  rename_i hgf
  simp only [Bool.and_eq_true, Nat.beq_eq, Array.isEmpty_iff] at hgf
  obtain ⟨rfl, rfl, rfl⟩ := hgf
  split at h
  case h_2 => cases h
  rename_i b
  split at h
  case h_2 => cases h
  rename_i hbn
  split at h
  case h_2 => cases h
  rename_i us hus
  injection h with h
  injection h with h1 h2
  subst h1; subst h2
  obtain ⟨fn', fs', cs', hfr, hfs, hcs, rfl⟩ := hf.func_inv
  cases hfr
  obtain rfl : fs' = #[] := by
    have h1 : fs'.toList.length = 0 := hfs.1.symm
    exact Array.toList_eq_nil_iff.1 (List.length_eq_zero_iff.1 h1)
  obtain rfl : cs' = #[] := by
    have h1 : cs'.toList.length = 0 := hcs.1.symm
    exact Array.toList_eq_nil_iff.1 (List.length_eq_zero_iff.1 h1)
  obtain ⟨a0, rfl⟩ : ∃ a0, args' = [a0] := by
    have := hargs.1
    match args', this with
    | [a0], _ => exact ⟨a0, rfl⟩
  have ha : a0 = .string b := VR.string_inv (hargs.2 0 _ _ rfl rfl)
  subst ha
  obtain ⟨e, he⟩ := hG 0 h0
  obtain ⟨cc, t, fr, k1, _, _⟩ := hW.obj 0 _ _ hus he
  obtain ⟨b', hb', hbb⟩ := List.any_eq_true.1 hbn
  have := bytesEq_eq hbb
  subst this
  have hl : LaidG [(0, [])] w.heap := fun x hx => by
    obtain rfl : x = (0, []) := by simpa using hx
    exact ⟨cc, t, fr, k1, fun i v hv => by simp at hv⟩
  refine ⟨run_callFunc_enter' hfn hname hb _ w, ?_⟩
  refine CallsIn.mono (show CallsIn Fence.wide 0 P g _ w _ from (callsIn_wide (n := 0)).2 (hall _ hb' w hl)) ?_
  rintro e w' ⟨rfl, hq⟩
  exact ⟨_, rfl, σ, .bool _, hq.rel hW, hq.ext σ W⟩
end Go.Eng
