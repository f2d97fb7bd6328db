/- copy, clear, numbers, comparisons, maps. -/
import Derived.Test.YtfcfglpkgcheiaaDoorEngF
import Derived.LaidEqlPtr
namespace Go.Eng
open Go
set_option linter.unusedSectionVars false
variable [PlanTab]
set_option linter.unusedSimpArgs false

section
variable {P : Program} {σ : Inj} {W : AW} {w : World}

/-! ### copy, clear -/
noncomputable def aCopy (P : Program) (W : AW) (argTypes : Array TypeId) (d x : Value) : Option (Value × AW) :=
  match argTypes.toList with
  | t0 :: _ => match sliceElem P t0, d, x with
    | some e, .slice base dl _, .slice xb sl xc => match tSz P e with
      | some z =>
        if Nat.min sl dl = 0 then some (goInt 0, W)
        else if z = 0 then none
        else match readSlice W (.slice xb sl xc) (Nat.min sl dl * z), base with
          | some new, some a => (writeN W a.block a.off new).map fun W' => (goInt (Nat.min sl dl), W')
          | _, _ => none
      | none => none
    | _, _, _ => none
  | [] => none
theorem aCopy_run (hW : WRel σ W w.heap) {argTypes : Array TypeId} {ty : TypeId} {d x d' x' v : Value} {W' : AW} (h : aCopy P W argTypes d x = some (v, W')) (hd : VR σ d d') (hx : VR σ x x') :
    ∃ v' w', (Builtin.copy_ argTypes ty #[d', x']).run P w = .ok v' w' ∧ VR σ v v' ∧ WRel σ W' w'.heap ∧ Ext σ W w σ W' w' := by
  have h0 : ∀ (a' : Addr), (loadCells a' 0).run P w = .ok #[] w := fun a' => by simp [loadCells, loadCellsFrom]
  unfold aCopy at h
  split at h
  · rename_i t0 rest hat
    have hat' : argTypes = (t0 :: rest).toArray := by rw [← hat]
    subst hat'
    split at h
    · rename_i e base dl dc xb sl xc he
      have hu := sliceElem_eq he
      split at h
      · rename_i z hz
        have hxs : ∃ xb' xc', x' = .slice xb' sl xc' := by cases hx <;> exact ⟨_, _, rfl⟩
        obtain ⟨xb', xc', rfl⟩ := hxs
        have hds : ∃ b' c', d' = .slice b' dl c' := by cases hd <;> exact ⟨_, _, rfl⟩
        obtain ⟨db', dc', rfl⟩ := hds
        split at h
        · rename_i hn
          injection h with h
          injection h with hv hw
          subst hv
          subst hw
          refine ⟨goInt 0, w, ?_, .int _ _, hW, Ext.refl _ _ _⟩
          have hf : (Builtin.firstCells z 0 (.slice xb' sl xc')).run P w = .ok #[] w := by
            cases xb' <;> simp [Builtin.firstCells, h0]
          have hn' : min sl dl = 0 := hn
          cases db' <;> simp [Builtin.copy_, run_underlying hu, Builtin.lenOf, run_sizeOf' hz, hf, storeCells, hn, hn', goInt]
        · rename_i hn
          split at h
          · cases h
          · rename_i hz0
            split at h
            · rename_i new a hr
              cases hwn : writeN W a.block a.off new with
              | none => rw [hwn] at h; cases h
              | some W2 =>
                rw [hwn] at h
                simp only [Option.map_some, Option.some.injEq, Prod.mk.injEq] at h
                obtain ⟨hv, hw⟩ := h
                subst hw
                subst hv
                obtain ⟨new', h1, h2, h3⟩ := readSlice_run (P := P) hW hr hx
                cases hd with
                | sliceE _ a' _ g hg hcc => exact absurd (Nat.min_zero _) hn
                | slice _ _ _ c' g hg hsp hcc =>
                  obtain ⟨w2, k1, k2, k3⟩ := writeN_run (P := P) hW hwn hg h1
                  refine ⟨goInt (Nat.min sl dl), w2, ?_, .int _ _, k2, k3⟩
                  have hn' : Nat.min sl dl = min sl dl := rfl
                  rw [hn'] at h3
                  simp [Builtin.copy_, run_underlying hu, Builtin.lenOf, run_sizeOf' hz, h3, k1, goInt]
            · cases h
      · cases h
    · cases h
  · cases h

noncomputable def aClear (P : Program) (W : AW) (argTypes : Array TypeId) (x : Value) : Option AW :=
  match argTypes.toList with
  | t0 :: _ => match sliceElem P t0, x with
    | some e, .slice base n _ => match tSz P e, tZero P e with
      | some z, some zv =>
        if n = 0 then some W
        else match base with
          | none => none
          | some a => if (Builtin.zeroCells zv.cells n).toList.all scalar = true ∧ 0 < z then writeN W a.block a.off (Builtin.zeroCells zv.cells n).toList else none
      | _, _ => none
    | _, _ => none
  | [] => none
theorem aClear_run (hW : WRel σ W w.heap) {argTypes : Array TypeId} {ty : TypeId} {x x' : Value} {W' : AW} (h : aClear P W argTypes x = some W') (hx : VR σ x x') :
    ∃ w', (Builtin.clear_ argTypes ty #[x']).run P w = .ok (.tuple #[]) w' ∧ WRel σ W' w'.heap ∧ Ext σ W w σ W' w' := by
  unfold aClear at h
  split at h
  · rename_i t0 rest hat
    have hat' : argTypes = (t0 :: rest).toArray := by rw [← hat]
    subst hat'
    split at h
    · rename_i e base n c he
      have hu := sliceElem_eq he
      split at h
      · rename_i z zv hz hzv
        obtain ⟨hz1, hz2⟩ := tZero_run hzv w
        split at h
        · rename_i hn
          subst hn
          injection h with h
          subst h
          refine ⟨w, ?_, hW, Ext.refl _ _ _⟩
          cases hx <;> simp [Builtin.clear_, run_underlying hu]
        · rename_i hn
          split at h
          · cases h
          · rename_i a
            split at h
            · rename_i hc
              cases hx with
              | sliceE _ a' _ g hg hcc => exact absurd rfl hn
              | slice _ _ _ c' g hg hsp hcc =>
                obtain ⟨w2, k1, k2, k3⟩ := writeN_run (P := P) hW h hg (LR.refl_of (σ := σ) (fun _ => scalar_refl) hc.1)
                refine ⟨w2, ?_, k2, k3⟩
                obtain ⟨m, rfl⟩ : ∃ m, n = m + 1 := ⟨n - 1, by omega⟩
                simp [Builtin.clear_, run_underlying hu, hz1, k1]
            · cases h
      · cases h
    · cases h
  · cases h

/-! ### numbers -/
theorem wrap_in (k : IntKind) (n : Int) (h : k.min ≤ n ∧ n ≤ k.max) : k.wrap n = n := by
  obtain ⟨h1, h2⟩ := h
  cases k <;> simp [IntKind.wrap, IntKind.min, IntKind.max, IntKind.signed, IntKind.bits] at * <;> omega
noncomputable def wrapF (k : IntKind) (n : Int) : Int := if k.min ≤ n ∧ n ≤ k.max then n else k.wrap n
theorem wrapF_eq (k : IntKind) (n : Int) : wrapF k n = k.wrap n := by
  unfold wrapF
  split
  · rename_i h; exact (wrap_in k n h).symm
  · rfl
/-- the number is brought to a numeral -/
noncomputable def forceI (k : IntKind) (n : Int) : Value :=
  Int.rec (motive := fun _ => Value) (fun a => Nat.rec (motive := fun _ => Value) (.int k (.ofNat 0)) (fun m _ => .int k (.ofNat (Nat.succ m))) a)
    (fun a => Nat.rec (motive := fun _ => Value) (.int k (.negSucc 0)) (fun m _ => .int k (.negSucc (Nat.succ m))) a) n
theorem forceI_eq (k : IntKind) (n : Int) : forceI k n = .int k n := by
  cases n with
  | ofNat a => cases a <;> rfl
  | negSucc a => cases a <;> rfl
noncomputable def aInt (op : BinOp) (k : IntKind) (a b : Int) : Option Value :=
  match op with
  | .add => some (forceI k (wrapF k (a + b)))
  | .sub => some (forceI k (wrapF k (a - b)))
  | .mul => some (forceI k (wrapF k (a * b)))
  | .eql => some (.bool (decide (a = b)))
  | .neq => some (.bool (!decide (a = b)))
  | .lss => some (.bool (decide (a < b)))
  | .leq => some (.bool (decide (a ≤ b)))
  | .gtr => some (.bool (decide (b < a)))
  | .geq => some (.bool (decide (b ≤ a)))
  | _ => none

/-! ### comparing pointers, slices and maps against nil -/
def pEq : Value → Value → Option Bool
  | .pointer none, .pointer b => some b.isNone
  | .pointer (some _), .pointer none => some false
  | _, _ => none
noncomputable def aEql (P : Program) (W : AW) (t : TypeId) (x y : Value) : Option Bool :=
  match P.underlying t, x, y with
  | some (.pointer _), .pointer none, .pointer b => some b.isNone
  | some (.pointer _), .pointer (some _), .pointer none => some false
  | some (.pointer e), .pointer (some a), .pointer (some b) => match tSz P e with
    | some (_ + 1) => match W.get a.block, W.get b.block with
      | some (.cells ca), some (.cells cb) => if a.block = b.block then some (decide (a.off = b.off)) else if a.off < ca.length ∧ b.off < cb.length then some false else none
      | _, _ => none
    | _ => none
  | some (.slice _), .slice none _ _, .slice b _ _ => some b.isNone
  | some (.slice _), .slice (some _) _ _, .slice none _ _ => some false
  | some (.map _ _), .map none, .map b => some b.isNone
  | some (.map _ _), .map (some _), .map none => some false
  | some (.func _ _ _), .nilFunc, .nilFunc => some true
  | some (.func _ _ _), .nilFunc, .func _ _ _ => some false
  | some (.func _ _ _), .func _ _ _, .nilFunc => some false
  | _, _, _ => none
theorem aEql_run (hW : WRel σ W w.heap) {t : TypeId} {x y x' y' : Value} {b : Bool} (h : aEql P W t x y = some b) (hx : VR σ x x') (hy : VR σ y y') (d : Nat) :
    (Op.equalIn (d + 1) t x' y').run P w = .ok b w := by
  unfold aEql at h
  split at h
  · rename_i e b0 hu
    injection h with h; subst h; cases hx; cases hy <;> simp [Op.equalIn, run_underlying hu]
  · rename_i e a0 hu
    injection h with h; subst h; cases hx; cases hy; simp [Op.equalIn, run_underlying hu]
  · rename_i e a0 b0 hu
    split at h
    · rename_i n hn
      split at h
      · split at h
        · rename_i hab
          injection h with h
          subst h
          cases hx with
          | ptr _ g hg hs =>
            cases hy with
            | ptr _ g2 hg2 hs2 =>
              rw [← hab, hg] at hg2
              injection hg2 with hg2
              subst hg2
              have hbeq : ((⟨g.B, g.s + a0.off, none⟩ : Addr) == ⟨g.B, g.s + b0.off, none⟩) = decide (a0.off = b0.off) := by
                rw [Bool.eq_iff_iff]
                simp
              simp [Op.equalIn, run_underlying hu, run_sizeOf' hn, sameAddr, hbeq]
        · rename_i ca cb hca hcb hab
          split at h
          · rename_i hin
            injection h with h
            subst h
            cases hx with
            | ptr _ g hg hs =>
              cases hy with
              | ptr _ g2 hg2 hs2 =>
                obtain ⟨c1, t1, p1, p2, p3, _⟩ := hW.obj _ _ g hca hg
                obtain ⟨c2, t2, q1, q2, q3, _⟩ := hW.obj _ _ g2 hcb hg2
                have hd := hW.disj _ _ _ _ g g2 hab hca hcb hg hg2 rfl
                have hne : (⟨g.B, g.s + a0.off, none⟩ : Addr) ≠ ⟨g2.B, g2.s + b0.off, none⟩ := by
                  intro he
                  injection he with e1 e2 _
                  rcases hd with r | r | r
                  · exact r e1
                  · omega
                  · omega
                simp [Op.equalIn, run_underlying hu, run_sizeOf' hn, run_sameAddr_other w hne p1 q1]
          · cases h
      · cases h
    · cases h
  · rename_i e _ _ b0 _ _ hu
    injection h with h; subst h; cases hx; cases hy <;> simp [Op.equalIn, run_underlying hu]
  · rename_i e a0 _ _ _ _ hu
    injection h with h; subst h; cases hx <;> cases hy <;> simp [Op.equalIn, run_underlying hu]
  · rename_i k e b0 hu
    injection h with h; subst h; cases hx; cases hy <;> simp [Op.equalIn, run_underlying hu]
  · rename_i k e a0 hu
    injection h with h; subst h; cases hx; cases hy; simp [Op.equalIn, run_underlying hu]
  · rename_i ps rs vv hu
    injection h with h; subst h; cases hx; cases hy; simp [Op.equalIn, run_underlying hu]
  · rename_i ps rs vv _ _ _ hu
    injection h with h; subst h; cases hx; cases hy; simp [Op.equalIn, run_underlying hu]
  · rename_i ps rs vv _ _ _ hu
    injection h with h; subst h; cases hx; cases hy; simp [Op.equalIn, run_underlying hu]
  · cases h
end
end Go.Eng
