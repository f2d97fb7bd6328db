/- Operations that may be done ahead of their turn. -/
import Derived.Test.YtfcfglpkgcheiaaDoorEngJ
namespace Go.Eng
open Go
set_option linter.unusedSectionVars false
set_option linter.unusedSimpArgs false
variable [PlanTab]

/-- every live block of W lives in W' as it is -/
def Grow (W W' : AW) : Prop := ∀ b o, W.get b = some o → W'.get b = some o
theorem Grow.refl (W : AW) : Grow W W := fun _ _ h => h
theorem Grow.add {W : AW} (hf : W.get W.next = none) (o : AObj) : Grow W (W.add o) := fun b o' h => by
  have : W.next ≠ b := fun e => by subst e; rw [hf] at h; cases h
  rw [AW.get_add_ne _ _ this]; exact h
def Agree (o : Oper) (R R' : PlanTab.Fr) : Prop := ∀ x ∈ o.op.operands, aEval R' x = aEval R x

theorem aPure_congr {P : Program} {o : Oper} {R R' : PlanTab.Fr} (h : Agree o R R') : aPure P R' o = aPure P R o := by
  unfold aPure
  have e1 : o.op.operands.toList.all (fun x => plain (aEval R' x)) = o.op.operands.toList.all (fun x => plain (aEval R x)) := by
    rw [Bool.eq_iff_iff]
    simp only [List.all_eq_true, Array.mem_toList_iff]
    exact ⟨fun k x hx => by rw [← h x hx]; exact k x hx, fun k x hx => by rw [h x hx]; exact k x hx⟩
  rw [e1]
  cases hn : notSelect o.op with
  | false => rfl
  | true => rw [execOp_congr o (fun cs b hs => by rw [hs] at hn; cases hn) (fun x hx => h x hx)]

theorem aEql_plain {P : Program} {W W' : AW} {t : TypeId} {x y : Value} (hx : plain x = true) : aEql P W' t x y = aEql P W t x y := by
  unfold aEql
  split
  case h_3 => simp [plain, plain1, scalar] at hx
  all_goals first
    | rfl
    | (simp only [*]; done)
    | skip
  all_goals (split <;> first | rfl | (simp_all; done) | skip)
theorem aEql_grow {P : Program} {W W' : AW} (hg : Grow W W') {t : TypeId} {x y : Value} {b : Bool} (h : aEql P W t x y = some b) : aEql P W' t x y = some b := by
  unfold aEql at h ⊢
  split at h <;> try exact h
  split at h <;> try (cases h; done)
  split at h <;> try (cases h; done)
  rename_i ca cb h1 h2
  rw [hg _ _ h1, hg _ _ h2]
  exact h

theorem cellsAt_grow {W W' : AW} (hg : Grow W W') {b : Nat} {cs : List Value} (h : cellsAt W b = some cs) : cellsAt W' b = some cs := by
  unfold cellsAt at h ⊢
  split at h
  · rename_i cs' h1; rw [hg _ _ h1]; exact h
  · rename_i cs' h1; rw [hg _ _ h1]; exact h
  · cases h
theorem readN_grow {W W' : AW} (hg : Grow W W') {b off n : Nat} {l : List Value} (h : readN W b off n = some l) : readN W' b off n = some l := by
  rw [readN_def] at h ⊢
  split at h
  · rename_i cs hc; rw [cellsAt_grow hg hc]; exact h
  · cases h
theorem aLoad_grow {P : Program} {W W' : AW} (hg : Grow W W') {t : TypeId} {x v : Value} (h : aLoad P W t x = some v) : aLoad P W' t x = some v := by
  unfold aLoad at h ⊢
  split at h
  · rename_i a
    split at h
    · rename_i ha
      split at h
      · rename_i cs hc
        simp only [cellsAt_grow hg hc]
        exact h
      · cases h
    · rename_i ha
      split at h
      · rename_i n hn
        cases hr : readN W a.block a.off n with
        | none => rw [hr] at h; cases h
        | some l => rw [hr] at h; rw [readN_grow hg hr]; exact h
      · cases h
    · cases h
  · cases h
theorem aLookup_grow {P : Program} {W W' : AW} (hg : Grow W W') {t : TypeId} {m k v : Value} {ok : Bool} (h : aLookup P W t m k ok = some v) : aLookup P W' t m k ok = some v := by
  unfold aLookup at h ⊢
  split at h
  · exact h
  · rename_i kt e r hu
    split at h
    · rename_i es c hr
      simp only [hg _ _ hr]
      exact h
    · cases h
  · cases h

theorem parts_congr {R R' : PlanTab.Fr} {ps : Array (Nat × Operand)} (h : ∀ p ∈ ps.toList, aEval R' p.2 = aEval R p.2) : parts R' ps = parts R ps := by
  unfold parts
  exact List.map_congr_left fun p hp => by rw [h p hp]

set_option maxHeartbeats 1000000 in
theorem keep_step {P : Program} {call : Callee} {o : Oper} {R : PlanTab.Fr} {W W1 : AW} {v : Value} (hk : kindE o ≤ 1) (h : aOpC P call o R W = some (v, W1)) :
    W1 = W ∧ ∀ R' W', Agree o R R' → (kindE o = 0 ∨ Grow W W') → aOpC P call o R' W' = some (v, W') := by
  have hmap : ∀ (x : Option Value), (x.map fun v => (v, W)) = some (v, W1) → x = some v ∧ W1 = W := by
    intro x hx
    cases x with
    | none => cases hx
    | some u => simp at hx; exact ⟨by rw [hx.1], hx.2.symm⟩
  have hpc : ∀ R', Agree o R R' → aPure P R' o = aPure P R o := fun R' ha => aPure_congr ha
  obtain ⟨dst, op, type, pos, after, guard⟩ := o
  cases op <;> simp only [kindE] at hk <;> (try (exfalso; omega)) <;> simp only [aOpC_eq, aOpS, aOp] at h ⊢ <;> simp only [Agree, Op.operands] at hpc ⊢
  case move x => injection h with h; injection h with h1 h2; subst h1; subst h2; exact ⟨rfl, fun R' W' ha _ => by rw [ha x (by simp)]⟩
  case assign x => injection h with h; injection h with h1 h2; subst h1; subst h2; exact ⟨rfl, fun R' W' ha _ => by rw [ha x (by simp)]⟩
  case pick c a b =>
    split at h <;> (try (cases h; done)) <;> rename_i hcc <;> injection h with h <;> injection h with h1 h2 <;> subst h1 <;> subst h2 <;>
      exact ⟨rfl, fun R' W' ha _ => by rw [ha c (by simp), ha a (by simp), ha b (by simp), hcc]⟩
  case build t ps =>
    obtain ⟨hb, rfl⟩ := hmap _ h
    refine ⟨rfl, fun R' W' ha _ => ?_⟩
    have : aBuild P R' t ps = aBuild P R t ps := by
      unfold aBuild
      rw [parts_congr fun p hp => ha p.2 (by simp; exact ⟨p.1, by simpa using hp⟩)]
    rw [this, hb]; rfl
  case nilCheck x =>
    split at h <;> (try (cases h; done)) <;> rename_i hcc <;> injection h with h <;> injection h with h1 h2 <;> subst h1 <;> subst h2 <;>
      exact ⟨rfl, fun R' W' ha _ => by rw [ha x (by simp), hcc]⟩
  case unOp op t x =>
    obtain ⟨hb, rfl⟩ := hmap _ h
    exact ⟨rfl, fun R' W' ha _ => by rw [hpc R' (fun y hy => ha y hy), hb]; rfl⟩
  case convert s d x =>
    obtain ⟨hb, rfl⟩ := hmap _ h
    exact ⟨rfl, fun R' W' ha _ => by rw [hpc R' (fun y hy => ha y hy), hb]; rfl⟩
  case makeInterface t x =>
    split at h
    · cases h
    · rename_i d hd hu
      injection h with h; injection h with h1 h2; subst h1; subst h2
      exact ⟨rfl, fun R' W' ha _ => by rw [ha x (by simp)]⟩
    · cases h
  case slice t x lo hi mx =>
    have key : ∀ R', (∀ y ∈ #[x] ++ lo.toArray ++ hi.toArray ++ mx.toArray, aEval R' y = aEval R y) → aSlice P t (aEval R' x) (lo.map (aEval R')) (hi.map (aEval R')) (mx.map (aEval R')) = aSlice P t (aEval R x) (lo.map (aEval R)) (hi.map (aEval R)) (mx.map (aEval R)) := by
      intro R' ha
      have e1 : aEval R' x = aEval R x := ha x (by simp)
      have e2 : lo.map (aEval R') = lo.map (aEval R) := by
        cases lo with
        | none => rfl
        | some y => simp only [Option.map_some]; rw [ha y (by simp)]
      have e3 : hi.map (aEval R') = hi.map (aEval R) := by
        cases hi with
        | none => rfl
        | some y => simp only [Option.map_some]; rw [ha y (by simp)]
      have e4 : mx.map (aEval R') = mx.map (aEval R) := by
        cases mx with
        | none => rfl
        | some y => simp only [Option.map_some]; rw [ha y (by simp)]
      rw [e1, e2, e3, e4]
    split at h
    · rename_i u hs
      injection h with h; injection h with h1 h2; subst h1; subst h2
      exact ⟨rfl, fun R' W' ha _ => by rw [key R' (fun y hy => ha y (by simpa using hy)), hs]⟩
    · rename_i hs
      obtain ⟨hb, rfl⟩ := hmap _ h
      exact ⟨rfl, fun R' W' ha _ => by rw [key R' (fun y hy => ha y (by simpa using hy)), hs, hpc R' (fun y hy => ha y hy), hb]; rfl⟩
  case fieldAddr s x f =>
    split at h
    · rename_i fs a hu hx0
      split at h
      · rename_i fl hfl
        split at h
        · rename_i n hn
          injection h with h; injection h with h1 h2; subst h1; subst h2
          exact ⟨rfl, fun R' W' ha _ => by rw [ha x (by simp)]; simp [hu, hx0, hfl, hn]⟩
        · cases h
      · cases h
    · cases h
  case field t x f =>
    split at h
    · rename_i fs cs hu hx0
      split at h
      · rename_i fl hfl
        obtain ⟨hb, rfl⟩ := hmap _ h
        exact ⟨rfl, fun R' W' ha _ => by rw [ha x (by simp)]; simp [hu, hx0, hfl, hb]⟩
      · cases h
    · cases h
  case indexAddr t x i =>
    have : W1 = W := by
      split at h <;> (try (cases h; done)) <;> split at h <;> (try (cases h; done)) <;> split at h <;> (try (cases h; done)) <;> (injection h with h; injection h with h1 h2; exact h2.symm)
    subst this
    refine ⟨rfl, fun R' W' ha _ => ?_⟩
    rw [ha x (by simp), ha i (by simp)]
    split at h <;> (try (cases h; done)) <;> rename_i z hz <;> split at h <;> (try (cases h; done)) <;> split at h <;> (try (cases h; done)) <;> (injection h with h; injection h with h1 h2; simp [*])
  case index t x i =>
    split at h
    · rename_i len e cs n hu hx0 hi0
      split at h
      · rename_i z hz
        split at h
        · rename_i hlt
          obtain ⟨hb, rfl⟩ := hmap _ h
          exact ⟨rfl, fun R' W' ha _ => by rw [ha x (by simp), ha i (by simp)]; simp [hu, hx0, hi0, hz, hlt, hb]⟩
        · cases h
      · cases h
    · rename_i hno
      obtain ⟨hb, rfl⟩ := hmap _ h
      refine ⟨rfl, fun R' W' ha _ => ?_⟩
      rw [ha x (by simp), ha i (by simp)]
      split
      · rename_i len e cs n hu hx0 hi0
        exact absurd hi0 (by intro hi0; exact hno _ _ _ _ hu hx0 hi0)
      · rw [hpc R' (fun y hy => ha y hy), hb]; rfl
  case extract x i =>
    split at h
    · rename_i vs hx0
      obtain ⟨hb, rfl⟩ := hmap _ h
      exact ⟨rfl, fun R' W' ha _ => by rw [ha x (by simp), hx0]; simp [hb]⟩
    · cases h
  case typeAssert x s t ok =>
    split at h
    · cases h
    · rename_i hno u v0 hu hx0
      split at h
      · rename_i hut
        injection h with h; injection h with h1 h2; subst h1; subst h2
        exact ⟨rfl, fun R' W' ha _ => by rw [ha x (by simp)]; simp [hu, hx0, hut]⟩
      · cases h
    · cases h
  case load t a =>
    obtain ⟨hb, rfl⟩ := hmap _ h
    refine ⟨rfl, fun R' W' ha hg => ?_⟩
    have hg' : Grow W1 W' := hg.resolve_left (by simp [kindE])
    rw [ha a (by simp), aLoad_grow hg' hb]; rfl
  case lookup t m k ok =>
    obtain ⟨hb, rfl⟩ := hmap _ h
    refine ⟨rfl, fun R' W' ha hg => ?_⟩
    have hg' : Grow W1 W' := hg.resolve_left (by simp [kindE])
    rw [ha m (by simp), ha k (by simp), aLookup_grow hg' hb]; rfl
  case makeFunc fn first captured =>
    cases fn <;> (try (simp only [kindE] at hk; exfalso; omega))
    rename_i f0
    simp only at h ⊢
    injection h with h; injection h with h1 h2; subst h1; subst h2
    refine ⟨rfl, fun R' W' ha _ => ?_⟩
    have e1 : first.map (aEval R') = first.map (aEval R) := Array.map_congr_left fun y hy => ha y (by simp [hy])
    have e2 : captured.map (aEval R') = captured.map (aEval R) := Array.map_congr_left fun y hy => ha y (by simp [hy])
    rw [e1, e2]
  case binOp op t x y yt =>
    by_cases hop : op = .eql ∨ op = .neq
    · have hne : ∀ W', (kindE (⟨dst, .binOp op t x y yt, type, pos, after, guard⟩ : Oper) = 0 ∨ Grow W W') → Grow W W' := fun W' hg => hg.resolve_left (by rcases hop with rfl | rfl <;> simp [kindE])
      split at h
      · rename_i u hb
        injection h with h; injection h with h1 h2; subst h1; subst h2
        refine ⟨rfl, fun R' W' ha hg => ?_⟩
        have hg' := hne W' hg
        have : aBin P W' op t (aEval R x) (aEval R y) = some u := by
          unfold aBin at hb ⊢
          split at hb
          · exact hb
          · split at hb
            · cases he : aEql P W t (aEval R x) (aEval R y) with
              | none =>
                rw [he] at hb
                cases ht : aEqT P t (aEval R x) (aEval R y) with
                | none => rw [ht] at hb; cases hb
                | some b => rw [aEqT_none ht W', ← ht] ; rw [ht] at hb ⊢; exact hb
              | some b => rw [he] at hb; simp only [aEql_grow hg' he]; exact hb
            · cases he : aEql P W t (aEval R x) (aEval R y) with
              | none =>
                rw [he] at hb
                cases ht : aEqT P t (aEval R x) (aEval R y) with
                | none => rw [ht] at hb; cases hb
                | some b => rw [aEqT_none ht W', ← ht] ; rw [ht] at hb ⊢; exact hb
              | some b => rw [he] at hb; simp only [aEql_grow hg' he]; exact hb
            · cases hb
        rw [ha x (by simp), ha y (by simp), this]
      · rename_i hb
        obtain ⟨hp, rfl⟩ := hmap _ h
        refine ⟨rfl, fun R' W' ha hg => ?_⟩
        have hpl : plain (aEval R x) = true := by
          unfold aPure at hp
          split at hp
          · rename_i hc
            simp only [Bool.and_eq_true, List.all_eq_true, Array.mem_toList_iff] at hc
            exact hc.2 x (by simp [Op.operands])
          · cases hp
        have : aBin P W' op t (aEval R x) (aEval R y) = none := by
          rw [← hb]
          unfold aBin
          split
          · rfl
          · split
            · rw [aEql_plain hpl]
            · rw [aEql_plain hpl]
            · rfl
        rw [ha x (by simp), ha y (by simp), this, hpc R' (fun y hy => ha y hy), hp]; rfl
    · have hsame : ∀ W', aBin P W' op t (aEval R x) (aEval R y) = aBin P W op t (aEval R x) (aEval R y) := by
        intro W'
        unfold aBin
        split
        · rfl
        · cases op <;> simp at hop ⊢
      split at h
      · rename_i u hb
        injection h with h; injection h with h1 h2; subst h1; subst h2
        exact ⟨rfl, fun R' W' ha hg => by rw [ha x (by simp), ha y (by simp), hsame W', hb]⟩
      · rename_i hb
        obtain ⟨hp, rfl⟩ := hmap _ h
        exact ⟨rfl, fun R' W' ha hg => by rw [ha x (by simp), ha y (by simp), hsame W', hb, hpc R' (fun y hy => ha y hy), hp]; rfl⟩
  case call c =>
    obtain ⟨callee, args, argTypes⟩ := c
    cases callee with
    | value f => simp only at hk; exfalso; omega
    | invoke r name => simp only at hk; exfalso; omega
    | builtin b =>
      cases b <;> (try (simp only at hk; exfalso; omega))
      simp only at h ⊢
      have hargs : ∀ R', (∀ y ∈ (Call.operands { callee := .builtin .len, args, argTypes }), aEval R' y = aEval R y) → args.toList.map (aEval R') = args.toList.map (aEval R) := fun R' ha =>
        List.map_congr_left fun y hy => ha y (by simp only [Call.operands]; simpa using hy)
      unfold aBuiltin at h
      split at h
      · rename_i n c hl
        split at h
        · rename_i e hu
          injection h with h; injection h with h1 h2; subst h1; subst h2
          exact ⟨rfl, fun R' W' ha hg => by unfold aBuiltin; rw [hargs R' ha, hl]; simp only [hu]⟩
        · cases h
      · rename_i hl
        split at h
        · rename_i k e hu
          injection h with h; injection h with h1 h2; subst h1; subst h2
          exact ⟨rfl, fun R' W' ha hg => by unfold aBuiltin; rw [hargs R' ha, hl]; simp only [hu]⟩
        · cases h
      · rename_i r hl
        split at h
        · rename_i k e es c hu hr
          injection h with h; injection h with h1 h2; subst h1; subst h2
          refine ⟨rfl, fun R' W' ha hg => ?_⟩
          have hg' : Grow W W' := hg.resolve_left (by simp [kindE])
          unfold aBuiltin; rw [hargs R' ha, hl]; simp only [hu, hg' _ _ hr]
        · cases h
      · rename_i hb hl; cases hb
      · rename_i hb hl; cases hb
      · rename_i hb hl; cases hb
      · rename_i hb hl; cases hb
      · rename_i h1 h2 h3 _ _ _ _
        obtain ⟨hp, rfl⟩ := hmap _ h
        refine ⟨rfl, fun R' W' ha hg => ?_⟩
        unfold aBuiltin
        rw [hargs R' ha]
        split
        · rename_i hl; exact absurd hl (h1 _ _ _ rfl)
        · rename_i hl; exact absurd hl (h2 rfl)
        · rename_i hl; exact absurd hl (h3 _ rfl)
        · rename_i hb hl; cases hb
        · rename_i hb hl; cases hb
        · rename_i hb hl; cases hb
        · rename_i hb hl; cases hb
        · rw [hpc R' (fun y hy => ha y hy), hp]; rfl
end Go.Eng
