/- Heaps in plain: sifting up and down. -/
namespace Go.Hp
set_option linter.unusedVariables false
set_option linter.unusedSectionVars false
set_option linter.unusedSimpArgs false
variable {α : Type}
/-- an order in which of two one is not before the other -/
structure Ord (lt : α → α → Bool) : Prop where
  asym : ∀ a b, lt a b = true → lt b a = false
  neg : ∀ a b c, lt b a = false → lt c b = false → lt c a = false
def par (k : Nat) : Nat := (k - 1) / 2
def swp (f : Nat → α) (i k : Nat) : Nat → α := fun j => if j = i then f k else if j = k then f i else f j
theorem swp_l (f : Nat → α) (i k : Nat) : swp f i k i = f k := if_pos rfl
theorem swp_r (f : Nat → α) (i k : Nat) : swp f i k k = f i := by
  unfold swp
  by_cases h : k = i
  · rw [if_pos h, h]
  · rw [if_neg h, if_pos rfl]
theorem swp_ne (f : Nat → α) {i k j : Nat} (h1 : j ≠ i) (h2 : j ≠ k) : swp f i k j = f j := by
  unfold swp; rw [if_neg h1, if_neg h2]
def swN (i k : Nat) : Nat → Nat := swp id i k
theorem swp_comp (f : Nat → α) (i k : Nat) : swp f i k = fun j => f (swN i k j) := by
  funext j
  unfold swN swp
  by_cases h : j = i
  · rw [if_pos h, if_pos h]; rfl
  · rw [if_neg h, if_neg h]
    by_cases h2 : j = k
    · rw [if_pos h2, if_pos h2]; rfl
    · rw [if_neg h2, if_neg h2]; rfl
theorem swN_lt {i k n j : Nat} (hi : i < n) (hk : k < n) (hj : j < n) : swN i k j < n := by
  unfold swN swp
  split
  · exact hk
  · split
    · exact hi
    · exact hj
theorem swN_swN (i k j : Nat) : swN i k (swN i k j) = j := by
  unfold swN swp
  simp only [id]
  by_cases h : j = i
  · subst h
    rw [if_pos rfl]
    by_cases h2 : k = j
    · rw [if_pos h2, h2]
    · rw [if_neg h2, if_pos rfl]
  · rw [if_neg h]
    by_cases h2 : j = k
    · subst h2
      rw [if_pos rfl, if_pos rfl]
    · rw [if_neg h2, if_neg h, if_neg h2]
theorem swN_perm {i k n : Nat} (hi : i < n) (hk : k < n) : ((List.range n).map (swN i k)).Perm (List.range n) := by
  have hinj : ∀ a b, swN i k a = swN i k b → a = b := fun a b h => by
    have := congrArg (swN i k) h
    rwa [swN_swN, swN_swN] at this
  have hnd : ((List.range n).map (swN i k)).Nodup := by
    rw [List.nodup_iff_pairwise_ne, List.pairwise_map]
    exact List.nodup_range.imp fun {a b} h e => h (hinj a b e)
  refine (List.perm_ext_iff_of_nodup hnd List.nodup_range).2 fun j => ?_
  rw [List.mem_map, List.mem_range]
  constructor
  · rintro ⟨a, ha, rfl⟩
    exact swN_lt hi hk (List.mem_range.1 ha)
  · intro hj
    exact ⟨swN i k j, List.mem_range.2 (swN_lt hi hk hj), swN_swN _ _ _⟩
/-- what lies in the first n places -/
def all (n : Nat) (f : Nat → α) : List α := (List.range n).map f
theorem all_swp {i k n : Nat} (f : Nat → α) (hi : i < n) (hk : k < n) : (all n (swp f i k)).Perm (all n f) := by
  unfold all
  rw [swp_comp]
  have := (swN_perm hi hk).map f
  rwa [List.map_map] at this
theorem all_succ (n : Nat) (f : Nat → α) : all (n + 1) f = all n f ++ [f n] := by
  unfold all
  rw [List.range_succ, List.map_append]; rfl
theorem all_len (n : Nat) (f : Nat → α) : (all n f).length = n := by simp [all]
theorem all_mem {n : Nat} {f : Nat → α} {a : α} : a ∈ all n f ↔ ∃ i, i < n ∧ f i = a := by
  unfold all
  rw [List.mem_map]
  constructor
  · rintro ⟨i, h, rfl⟩; exact ⟨i, List.mem_range.1 h, rfl⟩
  · rintro ⟨i, h, rfl⟩; exact ⟨i, List.mem_range.2 h, rfl⟩
def Heap (lt : α → α → Bool) (n : Nat) (f : Nat → α) : Prop := ∀ k, 0 < k → k < n → lt (f k) (f (par k)) = false
/-- a heap but for one that may have to go up -/
def Up (lt : α → α → Bool) (n : Nat) (f : Nat → α) (j : Nat) : Prop :=
  (∀ k, 0 < k → k < n → k ≠ j → lt (f k) (f (par k)) = false) ∧ ∀ k, 0 < k → k < n → par k = j → 0 < j → lt (f k) (f (par j)) = false
/-- a heap but for one that may have to go down -/
def Dn (lt : α → α → Bool) (n : Nat) (f : Nat → α) (i : Nat) : Prop :=
  (∀ k, 0 < k → k < n → par k ≠ i → lt (f k) (f (par k)) = false) ∧ ∀ k, 0 < k → k < n → par k = i → 0 < i → lt (f k) (f (par i)) = false
theorem par_lt {k : Nat} (h : 0 < k) : par k < k := by unfold par; omega
section
variable {lt : α → α → Bool} (o : Ord lt)
include o
theorem Up.step {n j : Nat} {f : Nat → α} (h : Up lt n f j) (hj : 0 < j) (hn : j < n) (hl : lt (f j) (f (par j)) = true) : Up lt n (swp f (par j) j) (par j) := by
  have hp := par_lt hj
  refine ⟨fun k h0 h1 h2 => ?_, fun k h0 h1 h2 h3 => ?_⟩
  · have hpk := par_lt h0
    by_cases e1 : k = j
    · subst e1
      rw [swp_r, swp_l]
      exact o.asym _ _ hl
    · rw [swp_ne _ h2 e1]
      by_cases e2 : par k = j
      · rw [e2, swp_r]
        exact h.2 k h0 h1 e2 hj
      · by_cases e3 : par k = par j
        · rw [e3, swp_l]
          have := h.1 k h0 h1 e1
          rw [e3] at this
          exact o.neg _ _ _ (o.asym _ _ hl) this
        · rw [swp_ne _ e3 e2]
          exact h.1 k h0 h1 e1
  · have hpp := par_lt h3
    rw [swp_ne (j := par (par j)) _ (by omega) (by omega)]
    have hi := h.1 (par j) h3 (by omega) (by omega)
    by_cases e1 : k = j
    · subst e1
      rw [swp_r]
      exact hi
    · have hkp : k ≠ par j := fun e => by rw [e] at h2; omega
      rw [swp_ne _ hkp e1]
      have := h.1 k h0 h1 e1
      rw [h2] at this
      exact o.neg _ _ _ hi this
omit o in
theorem Up.done {n j : Nat} {f : Nat → α} (h : Up lt n f j) (hj : j = 0 ∨ lt (f j) (f (par j)) = false) : Heap lt n f := by
  intro k h0 h1
  by_cases e : k = j
  · subst e
    rcases hj with hj | hj
    · omega
    · exact hj
  · exact h.1 k h0 h1 e
theorem Dn.step {n i j : Nat} {f : Nat → α} (h : Dn lt n f i) (hj : j = 2 * i + 1 ∨ j = 2 * i + 2) (hn : j < n) (hl : lt (f j) (f i) = true)
    (hmin : ∀ k, (k = 2 * i + 1 ∨ k = 2 * i + 2) → k < n → lt (f k) (f j) = false) : Dn lt n (swp f i j) j := by
  have hpj : par j = i := by unfold par; omega
  refine ⟨fun k h0 h1 h2 => ?_, fun k h0 h1 h2 h3 => ?_⟩
  · have hpk := par_lt h0
    by_cases e1 : k = j
    · subst e1
      rw [hpj, swp_r, swp_l]
      exact o.asym _ _ hl
    · by_cases e2 : par k = i
      · rw [e2, swp_l, swp_ne _ (by omega) e1]
        exact hmin k (by unfold par at e2; omega) h1
      · by_cases e3 : k = i
        · subst e3
          rw [swp_l, swp_ne _ (by omega) (by omega)]
          exact h.2 j (by omega) hn hpj h0
        · rw [swp_ne _ e3 e1, swp_ne _ e2 h2]
          exact h.1 k h0 h1 e2
  · rw [hpj, swp_l]
    have hk : k ≠ i := by unfold par at h2; omega
    have hkj : k ≠ j := fun e => by rw [e] at h2; unfold par at h2; omega
    rw [swp_ne _ hk hkj]
    have := h.1 k h0 h1 (by rw [h2]; omega)
    rw [h2] at this
    exact this
theorem Dn.done {n i : Nat} {f : Nat → α} (h : Dn lt n f i) (hd : ∀ k, (k = 2 * i + 1 ∨ k = 2 * i + 2) → k < n → lt (f k) (f i) = false) : Heap lt n f := by
  intro k h0 h1
  by_cases e : par k = i
  · rw [e]; exact hd k (by unfold par at e; omega) h1
  · exact h.1 k h0 h1 e
/-- nothing is before the first -/
theorem Heap.first {n : Nat} {f : Nat → α} (h : Heap lt n f) : ∀ k, k < n → lt (f k) (f 0) = false := by
  intro k
  induction k using Nat.strongRecOn with
  | _ k ih =>
    intro hk
    rcases Nat.eq_zero_or_pos k with rfl | h0
    · cases hc : lt (f 0) (f 0) with
      | false => rfl
      | true => have := o.asym _ _ hc; rw [hc] at this; exact this
    · exact o.neg _ _ _ (ih (par k) (par_lt h0) (by have := par_lt h0; omega)) (h k h0 hk)
end
end Go.Hp
