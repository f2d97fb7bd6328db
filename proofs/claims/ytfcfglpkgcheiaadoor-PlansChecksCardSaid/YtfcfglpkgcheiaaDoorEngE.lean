/- Slicing, append, copy, clear. -/
import Derived.Test.YtfcfglpkgcheiaaDoorEngD
namespace Go.Eng
open Go
set_option linter.unusedSectionVars false
variable [PlanTab]
set_option linter.unusedSimpArgs false

def OR (σ : Inj) : Option Value → Option Value → Prop
  | none, none => True
  | some v, some v' => VR σ v v'
  | _, _ => False
def natOf : Value → Option Nat
  | .int _ (.ofNat n) => some n
  | _ => none
def boundOf (v : Option Value) (d : Nat) : Option Nat := match v with | none => some d | some v => natOf v
theorem natOf_rel {σ : Inj} {v v' : Value} {n : Nat} (h : natOf v = some n) (hv : VR σ v v') : ∃ k, v' = .int k (n : Int) := by
  unfold natOf at h
  split at h
  · injection h with h; subst h; cases hv; exact ⟨_, rfl⟩
  · cases h

section
variable {P : Program} {σ : Inj} {W : AW} {w : World}

theorem sliceBound_run (k : IntKind) (n y : Nat) (code : BoundsCode) (h : n ≤ y) (w : World) : (Instr.sliceBound (.int k (n : Int)) y code).run P w = .ok n w := by
  have : 0 ≤ (n : Int) ∧ (n : Int) ≤ (y : Int) := by omega
  simp [Instr.sliceBound, asIntOf, this]

theorem sliceBounds_run (sl : Bool) (len cap : Nat) {lo hi mx lo' hi' mx' : Option Value} {l h m : Nat} (h1 : OR σ lo lo') (h2 : OR σ hi hi') (h3 : OR σ mx mx')
    (hl : boundOf lo 0 = some l) (hh : boundOf hi len = some h) (hm : boundOf mx cap = some m) (hmx : mx.isSome = true → hi.isSome = true)
    (a1 : l ≤ h) (a2 : hi.isSome = true → h ≤ m) (a3 : m ≤ cap) (w : World) : (Instr.sliceBounds sl len cap lo' hi' mx').run P w = .ok (l, h, m) w := by
  have one : ∀ {v v' : Option Value} {d n : Nat}, OR σ v v' → boundOf v d = some n → (v = none ∧ v' = none ∧ n = d) ∨ (v.isSome = true ∧ ∃ k, v' = some (.int k (n : Int))) := by
    intro v v' d n ho hb
    cases v with
    | none => cases v' with
      | none => simp only [boundOf] at hb; injection hb with hb; exact .inl ⟨rfl, rfl, hb.symm⟩
      | some v' => exact ho.elim
    | some v => cases v' with
      | none => exact ho.elim
      | some v' => obtain ⟨k, rfl⟩ := natOf_rel hb ho; exact .inr ⟨rfl, k, rfl⟩
  have hA : ∀ k code, (Instr.sliceBound (.int k (m : Int)) cap code).run P w = .ok m w := fun k code => sliceBound_run k m cap code a3 w
  have hC : ∀ k code, (Instr.sliceBound (.int k (l : Int)) h code).run P w = .ok l w := fun k code => sliceBound_run k l h code a1 w
  rcases one h3 hm with ⟨e1, rfl, e3⟩ | ⟨e1, k3, rfl⟩
  · subst e3
    rcases one h2 hh with ⟨f1, rfl, f3⟩ | ⟨f1, k2, rfl⟩
    · subst f3
      rcases one h1 hl with ⟨g1, rfl, g3⟩ | ⟨g1, k1, rfl⟩
      · subst g3; simp [Instr.sliceBounds]
      · simp [Instr.sliceBounds, hC]
    · have hB : ∀ code, (Instr.sliceBound (.int k2 (h : Int)) m code).run P w = .ok h w := fun code => sliceBound_run k2 h m code (a2 f1) w
      rcases one h1 hl with ⟨g1, rfl, g3⟩ | ⟨g1, k1, rfl⟩
      · subst g3; simp [Instr.sliceBounds, hB]
      · simp [Instr.sliceBounds, hB, hC]
  · rcases one h2 hh with ⟨f1, rfl, f3⟩ | ⟨f1, k2, rfl⟩
    · subst f1; exact absurd (hmx e1) (by simp)
    · have hB : ∀ code, (Instr.sliceBound (.int k2 (h : Int)) m code).run P w = .ok h w := fun code => sliceBound_run k2 h m code (a2 f1) w
      rcases one h1 hl with ⟨g1, rfl, g3⟩ | ⟨g1, k1, rfl⟩
      · subst g3; simp [Instr.sliceBounds, hA, hB]
      · simp [Instr.sliceBounds, hA, hB, hC]

noncomputable def aSlice (P : Program) (t : TypeId) (x : Value) (lo hi mx : Option Value) : Option Value :=
  match P.underlying t, x with
  | some (.slice e), .slice (some a) len cap =>
    match tSz P e, boundOf lo 0, boundOf hi len with
    | some z, some l, some h =>
      if l ≤ h then
        match mx with
        | none =>
          if cap = BIG + z ∧ 0 < z then (if h ≤ len then some (.slice (some (a.add (l * z))) (h - l) cap) else none)
          else if cap < BIG ∧ h ≤ cap then some (.slice (some (if cap = l then a else a.add (l * z))) (h - l) (cap - l)) else none
        | some mv => match boundOf (some mv) 0 with
          | some m => if hi.isSome = true ∧ h ≤ m ∧ m < BIG ∧ ((cap = BIG + z ∧ 0 < z ∧ m ≤ len) ∨ (cap < BIG ∧ m ≤ cap)) then some (.slice (some (if m = l then a else a.add (l * z))) (h - l) (m - l)) else none
          | none => none
      else none
    | _, _, _ => none
  | some (.slice e), .slice none len cap =>
    match tSz P e, boundOf lo 0, boundOf hi len, mx with
    | some _, some l, some h, none => if l ≤ h ∧ h ≤ cap then some (.slice none (h - l) (cap - l)) else none
    | _, _, _, _ => none
  | some (.array n e), .pointer (some a) =>
    match tSz P e, boundOf lo 0, boundOf hi n, mx with
    | some z, some l, some h, none => if l ≤ h ∧ h ≤ n ∧ n < BIG then some (.slice (some (if n = l then a else a.add (l * z))) (h - l) (n - l)) else none
    | _, _, _, _ => none
  | _, _ => none

theorem CapR.inv {g : Seg} {off l c c' : Nat} (h : CapR g off l c c') : (c < BIG ∧ c' = c) ∨ ∃ z, 0 < z ∧ c = BIG + z ∧ l ≤ c' ∧ g.s + off + c' * z = g.e := by
  cases h with
  | known _ h => exact .inl ⟨h, rfl⟩
  | open_ z _ hz hl h => exact .inr ⟨z, hz, rfl, hl, h⟩
theorem BIG_pos : 0 < BIG := by unfold BIG; omega

theorem aSlice_run {t : TypeId} {x x' v : Value} {lo hi mx lo' hi' mx' : Option Value} (h : aSlice P t x lo hi mx = some v) (hx : VR σ x x')
    (h1 : OR σ lo lo') (h2 : OR σ hi hi') (h3 : OR σ mx mx') (w : World) : ∃ v', (Instr.sliceAt t x' lo' hi' mx').run P w = .ok v' w ∧ VR σ v v' := by
  unfold aSlice at h
  split at h
  · rename_i e a len cap hu
    split at h
    · rename_i z l hh hz hlo hhi
      split at h
      · rename_i hlh
        -- what the model does with a slice
        have run : ∀ (A' : Option Addr) (cap' m : Nat), boundOf mx cap' = some m → (mx.isSome = true → hi.isSome = true) → (hi.isSome = true → hh ≤ m) → m ≤ cap' →
            (Instr.sliceAt t (.slice A' len cap') lo' hi' mx').run P w = .ok (.slice (if m = l then A' else A'.map (·.add (l * z))) (hh - l) (m - l)) w := by
          intro A' cap' m b1 b2 b3 b4
          have hb := sliceBounds_run (P := P) true len cap' h1 h2 h3 hlo hhi b1 b2 hlh b3 b4 w
          simp only [Instr.sliceAt, Sem.run_bind, run_underlying hu, Result.andThen_ok, Instr.slice, hb, run_sizeOf' hz, Sem.run_pure]
        cases mx with
        | none =>
          simp only at h
          split at h
          · rename_i hop
            obtain ⟨rfl, hz0⟩ := hop
            split at h
            · rename_i hle
              injection h with h
              subst h
              cases hx with
              | slice _ _ _ c' g hg hs hc =>
                rcases hc.inv with ⟨hk, _⟩ | ⟨z', hz1, hzz, hlc, heq⟩
                · exact absurd hk (by omega)
                · refine ⟨_, run (some _) c' c' rfl (by simp) (fun _ => by omega) (Nat.le_refl _), ?_⟩
                  by_cases hcl : c' = l
                  · subst hcl
                    have : hh - c' = 0 := by omega
                    rw [this, Nat.sub_self, if_pos rfl]
                    exact .sliceE _ _ _ g (by simpa [add_block] using hg) (.inr (by omega))
                  · rw [if_neg hcl]
                    simp only [Option.map_some, addr_add]
                    have hzz2 : z = z' := by omega
                    subst hzz2
                    have := VR.slice (σ := σ) (a.add (l * z)) (hh - l) (BIG + z) (c' - l) g (by rw [add_block]; exact hg) (add_spot _ _ hs)
                      (by
                        rw [add_off]
                        refine .open_ z _ hz0 (by omega) ?_
                        rw [Nat.sub_mul]
                        have : l * z ≤ c' * z := Nat.mul_le_mul_right _ (by omega)
                        omega)
                    rw [add_off] at this
                    simpa [Nat.add_assoc] using this
              | sliceE _ a' _ g hg hc =>
                have hl0 : hh = 0 := by omega
                have hl1 : l = 0 := by omega
                subst hl0
                subst hl1
                refine ⟨_, run (some a') 0 0 rfl (by simp) (fun _ => by omega) (Nat.le_refl _), ?_⟩
                simp only [if_true]
                exact .sliceE _ _ _ g (by simpa [add_block] using hg) (.inr (by omega))
            · cases h
          · split at h
            · rename_i hno hcap
              injection h with h
              subst h
              cases hx with
              | slice _ _ _ c' g hg hs hc =>
                rcases hc.inv with ⟨hk, rfl⟩ | ⟨z', hz1, hzz, hlc, heq⟩
                · refine ⟨_, run (some _) c' c' rfl (by simp) (fun _ => hcap.2) (Nat.le_refl _), ?_⟩
                  by_cases hcl : c' = l
                  · subst hcl
                    simp only [if_true]
                    exact .slice a _ _ _ g hg hs (.known _ (by omega))
                  · rw [if_neg hcl, if_neg hcl]
                    simp only [Option.map_some, addr_add]
                    have := VR.slice (σ := σ) (a.add (l * z)) (hh - l) (c' - l) (c' - l) g (by rw [add_block]; exact hg) (add_spot _ _ hs) (.known _ (by omega))
                    rw [add_off] at this
                    simpa [Nat.add_assoc] using this
                · exact absurd hcap.1 (by omega)
              | sliceE _ a' _ g hg hc =>
                have hc0 : cap = 0 := by omega
                subst hc0
                have hl0 : hh = 0 := by omega
                have hl1 : l = 0 := by omega
                subst hl0
                subst hl1
                refine ⟨_, run (some a') 0 0 rfl (by simp) (fun _ => by omega) (Nat.le_refl _), ?_⟩
                simp only [if_true]
                exact .sliceE _ _ _ g (by simpa [add_block] using hg) (.inl rfl)
            · cases h
        | some mv =>
          simp only at h
          split at h
          · rename_i m hm
            split at h
            · rename_i hcond
              obtain ⟨c1, c2, c3, c4⟩ := hcond
              injection h with h
              subst h
              cases hx with
              | slice _ _ _ c' g hg hs hc =>
                have hmc : m ≤ c' := by
                  rcases hc.inv with ⟨hk, _⟩ | ⟨z', hz1, hzz, hlc, heq⟩ <;> omega
                refine ⟨_, run (some _) c' m hm (fun _ => c1) (fun _ => c2) hmc, ?_⟩
                by_cases hcl : m = l
                · subst hcl
                  simp only [if_true]
                  exact .slice a _ _ _ g hg hs (.known _ (by omega))
                · rw [if_neg hcl, if_neg hcl]
                  simp only [Option.map_some, addr_add]
                  have := VR.slice (σ := σ) (a.add (l * z)) (hh - l) (m - l) (m - l) g (by rw [add_block]; exact hg) (add_spot _ _ hs) (.known _ (by omega))
                  rw [add_off] at this
                  simpa [Nat.add_assoc] using this
              | sliceE _ a' _ g hg hc =>
                have hm0 : m = 0 := by omega
                subst hm0
                have hl0 : hh = 0 := by omega
                have hl1 : l = 0 := by omega
                subst hl0
                subst hl1
                refine ⟨_, run (some a') 0 0 hm (fun _ => c1) (fun _ => by omega) (Nat.le_refl _), ?_⟩
                simp only [if_true]
                exact .sliceE _ _ _ g (by simpa [add_block] using hg) (.inl rfl)
            · cases h
          · cases h
      · cases h
    · cases h
  · rename_i e len cap hu
    split at h
    · rename_i z l hh hz hlo hhi
      split at h
      · rename_i hc
        injection h with h
        subst h
        cases hx
        have hb := sliceBounds_run (P := P) (mx := none) true len cap h1 h2 h3 hlo hhi rfl (by simp) hc.1 (fun _ => hc.2) (Nat.le_refl _) w
        refine ⟨.slice none (hh - l) (cap - l), ?_, .snil _ _⟩
        simp only [Instr.sliceAt, Sem.run_bind, run_underlying hu, Result.andThen_ok, Instr.slice, hb, run_sizeOf' hz, Sem.run_pure]
        simp
      · cases h
    · cases h
  · rename_i n e a hu
    split at h
    · rename_i z l hh hz hlo hhi
      split at h
      · rename_i hc
        injection h with h
        subst h
        cases hx with
        | ptr _ g hg hs =>
          have hb := sliceBounds_run (P := P) (mx := none) false n n h1 h2 h3 hlo hhi rfl (by simp) hc.1 (fun _ => hc.2.1) (Nat.le_refl _) w
          refine ⟨.slice (some (if n = l then ⟨g.B, g.s + a.off, none⟩ else (⟨g.B, g.s + a.off, none⟩ : Addr).add (l * z))) (hh - l) (n - l), ?_, ?_⟩
          · simp only [Instr.sliceAt, Sem.run_bind, run_underlying hu, Result.andThen_ok, Instr.sureAddr, Sem.run_pure, hb, run_sizeOf' hz]
          · by_cases hcl : n = l
            · subst hcl
              simp only [if_true]
              exact .slice a _ _ _ g hg hs (.known _ (by omega))
            · rw [if_neg hcl, if_neg hcl]
              simp only [addr_add]
              have := VR.slice (σ := σ) (a.add (l * z)) (hh - l) (n - l) (n - l) g (by rw [add_block]; exact hg) (add_spot _ _ hs) (.known _ (by omega))
              rw [add_off] at this
              simpa [Nat.add_assoc] using this
      · cases h
    · cases h
  · cases h
end
end Go.Eng
