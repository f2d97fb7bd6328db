/- Contracts of functions, and their laws. -/
import Derived.Test.YtkpgmabebjmahaaGreatPlainA
import Derived.Test.YtkpgmabebjmahaaGreatOpnA
import Derived.KernelRfl
/- The specification's holds: asked, at, New, first, Passed, Next. -/
namespace Go.Proofs.YtkpgmabebjmahaaGreat.Ho
open Go Go.Eng Go.Hp
set_option linter.unusedVariables false
set_option linter.unusedSimpArgs false
set_option linter.unusedSectionVars false
set_option maxRecDepth 100000
theorem sz39 : sliceZ Tryz.prog 22 = some 2 := by kernel_rfl
theorem al91 (W : AW) : oAlloc Tryz.prog 30 W = some (.pointer (some ⟨W.next, 0, none⟩), W.add (.cells [.int .i64 0, .slice none 0 0])) := Eq.trans (by kernel_rfl) rfl
theorem bd91 (n : Int) (W : AW) : oBuild Tryz.prog 30 [(0, .int .i64 n)] W = some (.agg #[.int .i64 n, .slice none 0 0], W) := Eq.trans (by kernel_rfl) rfl
theorem bd91_0 (W : AW) : oBuild Tryz.prog 30 [] W = some (.agg #[.int .i64 0, .slice none 0 0], W) := Eq.trans (by kernel_rfl) rfl
theorem bd43_0 (W : AW) : oBuild Tryz.prog 43 [] W = some (hoV (0, 0), W) := Eq.trans (by kernel_rfl) rfl
theorem bs39_0 (W : AW) : oBuildSlice Tryz.prog 22 0 [] W = some (.slice (some ⟨W.next, 0, none⟩) 0 0, W.add (.cells [])) := Eq.trans (by kernel_rfl) rfl
theorem oL91 (x : Value) (W : AW) : oLoad Tryz.prog 30 x W = ldA 2 x W := by kernel_rfl
abbrev rV (seats : Int) (ev : Value) : Value := .agg #[.int .i64 seats, ev]
theorem vs_rV {n : Int} {v : Value} (h : isSl v) : vsame (rV n v) (rV n v) = true := vsame_agg (by simp [vsL, vs1_int, h.vs])
/-! ### a box of two cells -/
section
variable {W : AW} {b : Nat} {n : Int} {ev : Value}
theorem bx91 (n : Int) (ev : Value) (W : AW) : ∃ V, oBox (rV n ev) W = some (.pointer (some ⟨W.next, 0, none⟩), V) ∧ Le W V ∧ V.next = W.next + 1 ∧ V.get W.next = some (.cells [.int .i64 n, ev]) := ⟨_, oBox_agg _, (Le.refl _).add _, AW.add_next _ _, AW.get_add _ _⟩
theorem nw91 (W : AW) : ∃ V, oAlloc Tryz.prog 30 W = some (.pointer (some ⟨W.next, 0, none⟩), V) ∧ Le W V ∧ V.next = W.next + 1 ∧ V.get W.next = some (.cells [.int .i64 0, .slice none 0 0]) := ⟨_, al91 W, (Le.refl _).add _, AW.add_next _ _, AW.get_add _ _⟩
theorem st91 {x y : Value} (h : W.get b = some (.cells [x, y])) (ho : isSl ev) : stV 2 (.pointer (some ⟨b, 0, none⟩)) (rV n ev) W = some (undef, W.put b (.cells [.int .i64 n, ev])) := by
  rw [stV_agg, rwOf h, Option.bind_some, if_pos ⟨rfl, by simp, by have := ho.one; simp [this, one_int]⟩]
  rfl
theorem ld91 (h : W.get b = some (.cells [.int .i64 n, ev])) : ldA 2 (.pointer (some ⟨b, 0, none⟩)) W = some (rV n ev, W) := ldA_all (cellsAt_of h) rfl
theorem ld91a (h : W.get b = some (.cells [.int .i64 n, ev])) : ldC (.pointer (some ⟨b, 0, none⟩)) W = some (.int .i64 n, W) := ldR (rwOf h) rfl
theorem ld91b (h : W.get b = some (.cells [.int .i64 n, ev])) : ldC (.pointer (some ⟨b, 1, none⟩)) W = some (ev, W) := ldR (rwOf h) rfl
end
/-- what comes back with its world -/
theorem om_q {o t : Option (Value × AW)} {W : AW} {Q : Value → AW → Prop} (h : Ok t fun r => Q r.1 r.2) (hom : ∀ {r}, t = some r → o = some (gc W r)) (hq : ∀ v W', Q v W' → Le W W' → plain v = true → Q v W) : ∃ v W', o = some (v, W') ∧ Q v W' := by
  obtain ⟨⟨v, W'⟩, h1, h2⟩ := h
  cases hp : (plain v && !isU v)
  · exact ⟨v, W', by rw [hom h1, gc_not hp], h2⟩
  · rcases gc_two (W := W) (W' := W') v with hg | ⟨hg, hle⟩
    · exact ⟨v, W', by rw [hom h1, hg], h2⟩
    · refine ⟨v, W, by rw [hom h1, hg], hq v W' h2 hle ?_⟩
      simp only [Bool.and_eq_true] at hp
      exact hp.1
/-- the specification's New -/
theorem rNew_ok {s : Int} (hs : 1 ≤ s ∧ s ≤ 4096) (W : AW) : omS (.func (.func 20) #[] #[]) [.int .i64 s] W = some (.tuple #[rV s (.slice none 0 0), .int .i64 0], W) := by
  refine om_drop rfl ?_ ref17_New_om
  unfold ref17_New
  have e1 : ¬ s < 1 := by omega
  have e2 : ¬ 4096 < s := by omega
  obtain ⟨V, a1, a2, a3, a4⟩ := nw91 W
  have st := st91 (n := s) a4 (.inr ⟨0, 0, rfl⟩)
  have lx := ld91 (W := V.put W.next (.cells [.int .i64 s, .slice none 0 0])) (AW.get_put _ _ _)
  simp only [SX, a1, e1, e2, decide_false, bd91, st, oRes_L1n, oL91, lx, Option.bind_some, Ok_some]
  exact ⟨trivial, a2.put (Nat.le_refl _) _⟩
theorem rNew7_ok {s : Int} (hs : ¬ (1 ≤ s ∧ s ≤ 4096)) (W : AW) : omS (.func (.func 20) #[] #[]) [.int .i64 s] W = some (.tuple #[rV 0 (.slice none 0 0), .int .i64 7], W) := by
  refine om_drop rfl ?_ ref17_New_om
  unfold ref17_New
  obtain ⟨V, a1, a2, a3, a4⟩ := nw91 W
  have st := st91 (n := 0) a4 (.inr ⟨0, 0, rfl⟩)
  have lx := ld91 (W := V.put W.next (.cells [.int .i64 0, .slice none 0 0])) (AW.get_put _ _ _)
  by_cases e1 : s < 1
  · simp only [SX, a1, e1, decide_true, bd91_0, st, oRes_L1n, oL91, lx, Option.bind_some, Ok_some]
    exact ⟨trivial, a2.put (Nat.le_refl _) _⟩
  have e2 : 4096 < s := by omega
  simp only [SX, a1, e1, e2, decide_true, decide_false, bd91_0, st, oRes_L1n, oL91, lx, Option.bind_some, Ok_some]
  exact ⟨trivial, a2.put (Nat.le_refl _) _⟩
theorem asked_ok {seats : Int} {ev : Value} (s t : Int) (W : AW) : omS (.func (.func 21) #[] #[]) [rV seats ev, .int .i64 s, .int .i64 t] W = some (.int .i64 (if hbad seats s t then 7 else 0), W) := by
  refine om_drop rfl ?_ ref17_asked_om
  unfold ref17_asked
  obtain ⟨V, oB, l1, n1, x1⟩ := bx91 seats ev W
  have ld := ld91a x1
  by_cases e1 : s < 0
  · have hb : hbad seats s t = true := by unfold hbad; simp [e1]
    simp only [SX, oB, e1, decide_true, hb, if_true, Ok_some]
    exact ⟨trivial, l1⟩
  by_cases e2 : seats ≤ s
  · have hb : hbad seats s t = true := by unfold hbad; simp [e2]
    simp only [SX, oB, Nat.zero_add, ld, e1, e2, decide_true, decide_false, hb, if_true, Ok_some]
    exact ⟨trivial, l1⟩
  by_cases e3 : t < 0
  · have hb : hbad seats s t = true := by unfold hbad; simp [e3]
    simp only [SX, oB, Nat.zero_add, ld, e1, e2, e3, decide_true, decide_false, hb, if_true, Ok_some]
    exact ⟨trivial, l1⟩
  have hb : hbad seats s t = false := by unfold hbad; simp [e1, e2, e3]
  simp only [SX, oB, Nat.zero_add, ld, e1, e2, e3, decide_true, decide_false, hb, if_neg Bool.false_ne_true, Ok_some]
  exact ⟨trivial, l1⟩
section
variable {W : AW} {seats : Int} {ev : Value} {l : List (Int × Int)}
/-- the place of a seat -/
theorem at_ok (h : HoL W ev l) (hl : l.length ≤ 10000) (s : Int) : (∃ i : Nat, ∃ hi : i < l.length, l[i].1 = s ∧ omS (.func (.func 50) #[] #[]) [rV seats ev, .int .i64 s] W = some (.int .i64 (i : Int), W)) ∨ ((∀ x ∈ l, ¬ x.1 = s) ∧ omS (.func (.func 50) #[] #[]) [rV seats ev, .int .i64 s] W = some (.int .i64 (-1), W)) := by
  have main : Ok (ref17_at omS (rV seats ev) (.int .i64 s) W) fun r => Le W r.2 ∧ ((∃ i : Nat, ∃ hi : i < l.length, l[i].1 = s ∧ r.1 = .int .i64 (i : Int)) ∨ ((∀ x ∈ l, ¬ x.1 = s) ∧ r.1 = .int .i64 (-1))) := by
    unfold ref17_at
    obtain ⟨V, oB, l1, n1, x1⟩ := bx91 seats ev W
    have hV := h.mono l1
    have ld := ld91b x1
    simp only [SX, oB]
    refine Ok_loop l.length (by omega) (fun k R W' => W' = V ∧ R 1 = .int .i64 s ∧ R 2 = .pointer (some ⟨W.next, 0, none⟩) ∧ R 5 = .int .i64 (k : Int) ∧ ∀ j (hj : j < l.length), j < k → ¬ l[j].1 = s)
      (fun r => r.2.2 = V ∧ ((r.1 = .exit 0 ∧ ∀ x ∈ l, ¬ x.1 = s) ∨ (r.1 = .ret ∧ ∃ i : Nat, ∃ hi : i < l.length, l[i].1 = s ∧ r.2.1 4 = .int .i64 (i : Int)))) ⟨rfl, rfl, rfl, rfl, fun j hj h => absurd h (by omega)⟩ ?_ ?_ ?_
    · rintro k R W' hk ⟨rfl, r1, r2, r5, hx⟩
      unfold ref17_at_L1
      obtain ⟨b, o, i1, i2, i3⟩ := HoL.get hV hk
      obtain ⟨-, f1, f2⟩ := i3 W' rfl
      have t1 : ((k : Int) < (l.length : Int)) := by omega
      have t2 := fun W' => oBin_add (P := Tryz.prog) (W := W') (t := 3) (c := false) (d := true) (a := (k : Int)) (b := 1) (by omega) (by omega)
      by_cases e : l[k].1 = s
      · have e' : decide (l[k].1 = s) = true := decide_eq_true e
        simp only [SX, r1, r2, r5, Nat.zero_add, ld, hV.len len39, t1, decide_true, i1, f1, Nat.add_zero, e', Ok_some]
        exact .inr ⟨by simp, trivial, .inr ⟨trivial, k, hk, e, rfl⟩⟩
      · have e' : decide (l[k].1 = s) = false := decide_eq_false e
        simp only [SX, r1, r2, r5, Nat.zero_add, ld, hV.len len39, t1, decide_true, i1, f1, Nat.add_zero, e', t2, Ok_some]
        refine .inl ⟨trivial, trivial, r1, r2, by rw [show ((k + 1 : Nat) : Int) = (k : Int) + 1 by omega]; rfl, fun j hj hjk => ?_⟩
        by_cases ej : j = k
        · subst ej; exact e
        · exact hx j hj (by omega)
    · rintro R W' ⟨rfl, r1, r2, r5, hx⟩
      unfold ref17_at_L1
      have t1 : ¬ ((l.length : Int) < (l.length : Int)) := by omega
      simp only [SX, r2, r5, Nat.zero_add, ld, hV.len len39, t1, decide_false, Ok_some]
      refine ⟨by simp, trivial, .inl ⟨trivial, fun x hx' => ?_⟩⟩
      obtain ⟨j, hj, rfl⟩ := List.mem_iff_getElem.1 hx'
      exact hx j hj hj
    · rintro ⟨x, R, W'⟩ ⟨rfl, hx⟩
      simp only at hx l1
      rcases hx with ⟨rfl, hx⟩ | ⟨rfl, i, hi, e1, e2⟩
      · simp only [SX, Ok_some]
        exact ⟨l1, .inr ⟨hx, trivial⟩⟩
      · simp only [SX, e2, Ok_some]
        exact ⟨l1, .inl ⟨i, hi, e1, rfl⟩⟩
  obtain ⟨⟨v, W'⟩, h1, h2, h3⟩ := main
  simp only at h2 h3
  rcases h3 with ⟨i, hi, e1, rfl⟩ | ⟨hx, rfl⟩
  · exact .inl ⟨i, hi, e1, om_drop rfl ⟨_, h1, rfl, h2⟩ ref17_at_om⟩
  · exact .inr ⟨hx, om_drop rfl ⟨_, h1, rfl, h2⟩ ref17_at_om⟩
theorem wu : wnt undef true = false := rfl
theorem hoLs_f {a b : Int × Int} : hoLs a b = false ↔ ¬ a.2 < b.2 ∧ ¬ (a.2 = b.2 ∧ a.1 < b.1) := by
  unfold hoLs
  simp only [Bool.or_eq_false_iff, Bool.and_eq_false_imp, decide_eq_true_eq, decide_eq_false_iff_not, not_and]
/-- the first in the order of ends -/
theorem first_ok (h : HoL W ev l) (h0 : 0 < l.length) (hl : l.length ≤ 10000) : ∃ i : Nat, ∃ hi : i < l.length, (∀ x ∈ l, hoLs x l[i] = false) ∧ omS (.func (.func 54) #[] #[]) [ev] W = some (.int .i64 (i : Int), W) := by
  have main : Ok (ref17_first omS ev W) fun r => Le W r.2 ∧ ∃ i : Nat, ∃ hi : i < l.length, (∀ x ∈ l, hoLs x l[i] = false) ∧ r.1 = .int .i64 (i : Int) := by
    unfold ref17_first
    simp only [SX]
    refine Ok_loop (l.length - 1) (by omega) (fun k R W' => W' = W ∧ R 0 = ev ∧ R 4 = .int .i64 ((k + 1 : Nat) : Int) ∧ ∃ i : Nat, ∃ hi : i < l.length, R 3 = .int .i64 (i : Int) ∧ i ≤ k ∧ ∀ j (hj : j < l.length), j ≤ k → hoLs l[j] l[i] = false)
      (fun r => r.1 = .exit 0 ∧ r.2.2 = W ∧ ∃ i : Nat, ∃ hi : i < l.length, r.2.1 3 = .int .i64 (i : Int) ∧ ∀ x ∈ l, hoLs x l[i] = false) ⟨rfl, rfl, rfl, 0, h0, rfl, Nat.le_refl _, fun j hj hj0 => ?_⟩ ?_ ?_ ?_
    · obtain rfl : j = 0 := by omega
      rw [hoLs_f]; omega
    · rintro k R W' hk ⟨rfl, r0, r4, i, hi, r3, hik, hx⟩
      unfold ref17_first_L1
      have hk1 : k + 1 < l.length := by omega
      obtain ⟨b, o, i1, i2, i3⟩ := HoL.get h hk1
      obtain ⟨-, f1, f2⟩ := i3 W' rfl
      obtain ⟨b', o', j1, j2, j3⟩ := HoL.get h hi
      obtain ⟨-, g1, g2⟩ := j3 W' rfl
      have t1 : (((k + 1 : Nat) : Int) < (l.length : Int)) := by omega
      have t2 := fun W' => oBin_add (P := Tryz.prog) (W := W') (t := 3) (c := false) (d := true) (a := ((k + 1 : Nat) : Int)) (b := 1) (by omega) (by omega)
      have e3 : ((k + 1 + 1 : Nat) : Int) = ((k + 1 : Nat) : Int) + 1 := by omega
      have stay : ¬ l[k + 1].2 < l[i].2 → ¬ (l[k + 1].2 = l[i].2 ∧ l[k + 1].1 < l[i].1) → ∀ j (hj : j < l.length), j ≤ k + 1 → hoLs l[j] l[i] = false := fun a1 a2 j hj hjk => by
        by_cases e : j = k + 1
        · subst e; exact hoLs_f.2 ⟨a1, a2⟩
        · exact hx j hj (by omega)
      have go : (l[k + 1].2 < l[i].2 ∨ (l[k + 1].2 = l[i].2 ∧ l[k + 1].1 < l[i].1)) → ∀ j (hj : j < l.length), j ≤ k + 1 → hoLs l[j] l[k + 1] = false := fun a1 j hj hjk => by
        by_cases e : j = k + 1
        · subst e; rw [hoLs_f]; omega
        · have := hoLs_f.1 (hx j hj (by omega))
          rw [hoLs_f]; omega
      by_cases e1 : l[k + 1].2 < l[i].2
      · simp only [SX, r0, r3, r4, h.len len39, t1, decide_true, i1, j1, f1, f2, g1, g2, e1, wu, t2, Ok_some]
        exact .inl ⟨trivial, trivial, r0, by rw [e3]; rfl, k + 1, hk1, rfl, Nat.le_refl _, go (.inl e1)⟩
      by_cases e2 : l[k + 1].2 = l[i].2
      · have e2' : decide (l[k + 1].2 = l[i].2) = true := decide_eq_true e2
        by_cases e4 : l[k + 1].1 < l[i].1
        · simp only [SX, r0, r3, r4, h.len len39, t1, decide_true, i1, j1, Nat.add_zero, f1, f2, g1, g2, e1, decide_false, e2', e4, t2, Ok_some]
          exact .inl ⟨trivial, trivial, r0, by rw [e3]; rfl, k + 1, hk1, rfl, Nat.le_refl _, go (.inr ⟨e2, e4⟩)⟩
        · simp only [SX, r0, r3, r4, h.len len39, t1, decide_true, i1, j1, Nat.add_zero, f1, f2, g1, g2, e1, decide_false, e2', e4, t2, Ok_some]
          exact .inl ⟨trivial, trivial, r0, by rw [e3]; rfl, i, hi, r3, by omega, stay e1 (fun x => e4 x.2)⟩
      · have e2' : decide (l[k + 1].2 = l[i].2) = false := decide_eq_false e2
        simp only [SX, r0, r3, r4, h.len len39, t1, decide_true, i1, j1, Nat.add_zero, f1, f2, g1, g2, e1, decide_false, e2', t2, Ok_some]
        exact .inl ⟨trivial, trivial, r0, by rw [e3]; rfl, i, hi, r3, by omega, stay e1 (fun x => e2 x.1)⟩
    · rintro R W' ⟨rfl, r0, r4, i, hi, r3, hik, hx⟩
      unfold ref17_first_L1
      have t1 : ¬ (((l.length - 1 + 1 : Nat) : Int) < (l.length : Int)) := by omega
      simp only [SX, r0, r4, h.len len39, t1, decide_false, Ok_some]
      refine ⟨by simp, trivial, trivial, i, hi, r3, fun x hx' => ?_⟩
      obtain ⟨j, hj, rfl⟩ := List.mem_iff_getElem.1 hx'
      exact hx j hj (by omega)
    · rintro ⟨x, R, W'⟩ ⟨hx, rfl, i, hi, e1, e2⟩
      simp only at hx e1 e2
      subst hx
      simp only [SX, e1, Ok_some]
      exact ⟨.refl _, i, hi, e2, rfl⟩
  obtain ⟨⟨v, W'⟩, h1, h2, i, hi, h3, h4⟩ := main
  simp only at h2 h4
  subst h4
  exact ⟨i, hi, h3, om_drop rfl ⟨_, h1, rfl, h2⟩ ref17_first_om⟩
/-- the specification's Passed -/
theorem rPassed_ok {a b : Int} (ha : 0 ≤ a) (hb : 0 ≤ b) (W : AW) : omS (.func (.func 55) #[] #[]) [.int .i64 a, .int .i64 b] W = some (.tuple #[.bool (decide (a ≤ b)), .int .i64 0], W) := by
  have e1 : ¬ a < 0 := by omega
  have e2 : ¬ b < 0 := by omega
  have both : omS (.func (.func 77) #[] #[]) [.int .i64 a, .int .i64 b] W = some (.int .i64 0, W) := by
    refine om_drop rfl ?_ ref05_both_om
    unfold ref05_both
    simp only [SX, e1, e2, decide_false, Ok_some]
    exact ⟨trivial, .refl _⟩
  refine om_drop rfl ?_ ref05_Passed_om
  unfold ref05_Passed
  simp only [SX, both, decide_true, Ok_some]
  exact ⟨trivial, .refl _⟩
/-- the specification's Next -/
theorem rNext0_ok (h : HoL W ev l) (h0 : l = []) : omS (.func (.func 31) #[] #[]) [rV seats ev] W = some (.tuple #[hoV (0, 0), .int .i64 4], W) := by
  refine om_drop rfl ?_ ref17_Next_om
  unfold ref17_Next
  obtain ⟨V, oB, l1, n1, x1⟩ := bx91 seats ev W
  obtain ⟨V2, a1, a2, a3, a4⟩ := boxed V
  have hV := h.mono (l1.trans a2)
  have ld : ldC (.pointer (some ⟨W.next, 1, none⟩)) V2 = some (ev, V2) := ld91b (by rw [a2.get _ (by omega)]; exact x1)
  have e0 : decide ((l.length : Int) = 0) = true := decide_eq_true (by rw [h0]; rfl)
  have st := st43 (0, 0) a4
  have lx := ld43 (W := V2.put V.next (.cells [.int .i64 (0, 0).1, .int .i64 (0, 0).2])) (b := V.next) (v := (0, 0)) (AW.get_put _ _ _)
  simp only [SX, oB, a1, Nat.zero_add, ld, hV.len len39, e0, bd43_0, st, oRes_L1n, oL43, lx, Option.bind_some, Ok_some]
  exact ⟨trivial, (l1.trans a2).put (by have := l1.next; omega) _⟩
theorem rNext_ok (h : HoL W ev l) (h0 : 0 < l.length) (hl : l.length ≤ 10000) (hs : isSl ev) : ∃ x ∈ l, (∀ y ∈ l, hoLs y x = false) ∧ omS (.func (.func 31) #[] #[]) [rV seats ev] W = some (.tuple #[hoV x, .int .i64 0], W) := by
  obtain ⟨V, oB, l1, n1, x1⟩ := bx91 seats ev W
  obtain ⟨V2, a1, a2, a3, a4⟩ := boxed V
  have hV := h.mono (l1.trans a2)
  have ld : ldC (.pointer (some ⟨W.next, 1, none⟩)) V2 = some (ev, V2) := ld91b (by rw [a2.get _ (by omega)]; exact x1)
  have e0 : decide ((l.length : Int) = 0) = false := decide_eq_false (by omega)
  obtain ⟨i, hi, hx, hf⟩ := first_ok hV h0 hl
  refine ⟨l[i], List.getElem_mem hi, hx, ?_⟩
  refine om_drop rfl ?_ ref17_Next_om
  unfold ref17_Next
  obtain ⟨b, o, i1, i2, i3⟩ := HoL.get hV hi
  obtain ⟨f0, f1, f2⟩ := i3 V2 rfl
  have st := st43 l[i] a4
  have lx := ld43 (W := V2.put V.next (.cells [.int .i64 l[i].1, .int .i64 l[i].2])) (b := V.next) (v := l[i]) (AW.get_put _ _ _)
  simp only [SX, oB, a1, Nat.zero_add, ld, hV.len len39, e0, hf, agV_some, hs.vsame, Bool.and_self, i1, f0, st, oRes_L1n, oL43, lx, Option.bind_some, Ok_some]
  exact ⟨trivial, (l1.trans a2).put (by have := l1.next; omega) _⟩
end
end Go.Proofs.YtkpgmabebjmahaaGreat.Ho
/- The specification's holds: without, Of, Put, Drop, Move. -/
namespace Go.Proofs.YtkpgmabebjmahaaGreat.Ho
open Go Go.Eng Go.Hp
set_option linter.unusedVariables false
set_option linter.unusedSimpArgs false
set_option linter.unusedSectionVars false
set_option maxRecDepth 100000
abbrev RE (lo : Nat) (W : AW) (v : Value) (l : List (Int × Int)) : Prop := EL lo W 2 hoC v l
theorem hol {lo : Nat} {W : AW} {v : Value} {l : List (Int × Int)} (h : RE lo W v l) : HoL W v l := h.row hoC_len hoC_at
theorem pl_rV {n : Int} {v : Value} (h : plain (rV n v) = true) (a : Addr) (k c : Nat) : ¬ v = .slice (some a) k c ∨ k = 0 := .inl fun e => by
  subst e; exact absurd h (by simp [plain, plain1, scalar])
theorem pl_rV2 {n : Int} {v u : Value} (h : plain (.tuple #[rV n v, u]) = true) (a : Addr) (k c : Nat) : ¬ v = .slice (some a) k c ∨ k = 0 := .inl fun e => by
  subst e; exact absurd h (by simp [plain, plain1, scalar])
theorem pl_rV3 {n : Int} {v u x : Value} (h : plain (.tuple #[rV n v, u, x]) = true) (a : Addr) (k c : Nat) : ¬ v = .slice (some a) k c ∨ k = 0 := .inl fun e => by
  subst e; exact absurd h (by simp [plain, plain1, scalar])
section
variable {W : AW} {lo : Nat} {seats : Int} {ev : Value} {l : List (Int × Int)}
theorem without_ok (h : RE lo W ev l) {i : Nat} (hi : i < l.length) (hl : l.length ≤ 10000) : ∃ W' ev', omS (.func (.func 51) #[] #[]) [rV seats ev, .int .i64 (i : Int)] W = some (rV seats ev', W') ∧ Le W W' ∧ RE W.next W' ev' (l.take i ++ l.drop (i + 1)) := by
  have main : Ok (ref17_without omS (rV seats ev) (.int .i64 (i : Int)) W) fun r => ∃ ev', r.1 = rV seats ev' ∧ Le W r.2 ∧ RE W.next r.2 ev' (l.take i ++ l.drop (i + 1)) := by
    unfold ref17_without
    obtain ⟨V, oB, l1, n1, x1⟩ := bx91 seats ev W
    obtain ⟨V2, a1, a2, a3, a4⟩ := nw91 V
    generalize hV3 : V2.add (.cells []) = V3
    have n3 : V3.next = V2.next + 1 := by rw [← hV3, AW.add_next]
    have l3 : Le V2 V3 := by rw [← hV3]; exact (Le.refl _).add _
    have lW3 : Le W V3 := (l1.trans a2).trans l3
    have x3 : V3.get W.next = some (.cells [.int .i64 seats, ev]) := by rw [l3.get _ (by omega), a2.get _ (by omega)]; exact x1
    have y3 : V3.get V.next = some (.cells [.int .i64 0, .slice none 0 0]) := by rw [l3.get _ (by omega)]; exact a4
    obtain ⟨v1, s1, s2⟩ := h.to (kk := .i64) sz39 (by omega) hoC_len (k := i) (by omega) (by omega)
    obtain ⟨v2, s3, s4⟩ := h.from (kk := .i64) sz39 (by omega) hoC_len (k := i + 1) (by omega) (by omega)
    obtain ⟨v3, V4, p1, p2, p3, p4⟩ := (EL.nil' V2.next V3 2 hoC V2.next).app ap39 hoC_len hoC_one (s2.keep lW3) (by simp; omega) (by simp; omega) (by omega)
    have p1' : aAppend Tryz.prog (V2.add (.cells [])) #[22, 22] (.slice (some ⟨V2.next, 0, none⟩) 0 0) v1 = some (v3, V4) := by rw [hV3]; exact p1
    have lW4 : Le W V4 := ⟨by have := lW3.next; omega, fun b hb => by rw [p4 b (by omega), lW3.get b hb]⟩
    obtain ⟨v5, V5, q1, q2, q3, q4⟩ := p2.app ap39 hoC_len hoC_one (s4.keep lW4) (by simp; omega) (by simp; omega) (by omega)
    have x4 : V4.get W.next = some (.cells [.int .i64 seats, ev]) := by rw [p4 _ (by omega)]; exact x3
    have x5 : V5.get W.next = some (.cells [.int .i64 seats, ev]) := by rw [q4 _ (by omega)]; exact x4
    have y5 : V5.get V.next = some (.cells [.int .i64 0, .slice none 0 0]) := by rw [q4 _ (by omega), p4 _ (by omega)]; exact y3
    have hsl := h.isSl
    have hsl5 := q2.isSl
    have t1 := fun W' => oBin_add (P := Tryz.prog) (W := W') (t := 3) (c := false) (d := true) (a := (i : Int)) (b := 1) (by omega) (by omega)
    have e3 : (i : Int) + 1 = ((i + 1 : Nat) : Int) := by omega
    have st := stA (v := v5) (o := 1) x5 (by simp) (by rcases hsl5 with ⟨b, l, c, rfl⟩ | ⟨l, c, rfl⟩ <;> rfl) hsl5.one
    rw [show ([.int .i64 seats, ev] : List Value).set 1 v5 = [.int .i64 seats, v5] from rfl] at st
    generalize hV6 : V5.put W.next (.cells [.int .i64 seats, v5]) = V6 at st
    have x6 : V6.get W.next = some (.cells [.int .i64 seats, v5]) := by rw [← hV6]; exact AW.get_put _ _ _
    have g6 : ∀ b, b ≠ W.next → V6.get b = V5.get b := fun b hb => by rw [← hV6]; exact AW.get_put_ne _ _ (Ne.symm hb)
    have n6 : V6.next = V5.next := by rw [← hV6, AW.put_next]
    have y6 : V6.get V.next = some (.cells [.int .i64 0, .slice none 0 0]) := by rw [g6 _ (by omega)]; exact y5
    have st2 := st91 (n := seats) y6 hsl5
    have lx := ld91 (W := V6.put V.next (.cells [.int .i64 seats, v5])) (AW.get_put _ _ _)
    have ldx : ldC (.pointer (some ⟨W.next, 1, none⟩)) (V2.add (.cells [])) = some (ev, V2.add (.cells [])) := by rw [hV3]; exact ld91b x3
    have ldx4 := ld91b x4
    simp only [SX, oB, a1, bs39_0, Nat.zero_add, ldx, s1, t1, e3, s3, p1', ldx4, agV_some, hsl.vsame, Bool.and_self, q1, st, ld91 x6, st2, oRes_L1, oL91, lx, Option.bind_some, Ok_some]
    refine ⟨v5, rfl, ⟨?_, fun b hb => ?_⟩, ?_⟩
    · rw [AW.put_next]
      have := lW3.next
      omega
    · rw [AW.get_put_ne _ _ (by omega), g6 b (by omega), q4 b (by omega), p4 b (by omega), lW3.get b hb]
    · exact (q2.keep (W' := V6.put V.next (.cells [.int .i64 seats, v5])) (by rw [AW.put_next]; omega) fun b hb1 hb2 => by rw [AW.get_put_ne _ _ (by omega), g6 b (by omega)]).low (by omega)
  obtain ⟨v, W', h1, ev', rfl, h2, h3⟩ := om_q (Q := fun v W' => ∃ ev', v = rV seats ev' ∧ Le W W' ∧ RE W.next W' ev' (l.take i ++ l.drop (i + 1))) main ref17_without_om (fun v W' ⟨ev', e, h1, h2⟩ hle hp => ⟨ev', e, .refl _, h2.anew (pl_rV (e ▸ hp))⟩)
  exact ⟨W', ev', h1, h2, h3⟩
/-- the specification's Of -/
theorem rOf7_ok {s : Int} (hb : hbad seats s 0 = true) (W : AW) (hs : isSl ev) : omS (.func (.func 30) #[] #[]) [rV seats ev, .int .i64 s] W = some (.tuple #[.int .i64 0, .int .i64 7], W) := by
  refine om_drop rfl ?_ ref17_Of_om
  unfold ref17_Of
  obtain ⟨V, oB, l1, n1, x1⟩ := bx91 seats ev W
  have e7 : decide ((7 : Int) = 0) = false := rfl
  simp only [SX, oB, ld91 x1, asked_ok, hb, if_true, e7, Ok_some]
  exact ⟨trivial, l1⟩
theorem rOf4_ok {s : Int} (h : RE lo W ev l) (hl : l.length ≤ 10000) (hb : hbad seats s 0 = false) (hx : ∀ x ∈ l, ¬ x.1 = s) : omS (.func (.func 30) #[] #[]) [rV seats ev, .int .i64 s] W = some (.tuple #[.int .i64 0, .int .i64 4], W) := by
  refine om_drop rfl ?_ ref17_Of_om
  unfold ref17_Of
  obtain ⟨V, oB, l1, n1, x1⟩ := bx91 seats ev W
  have e1 : decide ((-1 : Int) < 0) = true := rfl
  rcases at_ok (seats := seats) (hol (h.mono l1)) hl s with ⟨i, hi, a1, -⟩ | ⟨-, a2⟩
  · exact absurd a1 (hx _ (List.getElem_mem hi))
  simp only [SX, oB, ld91 x1, asked_ok, hb, if_neg Bool.false_ne_true, a2, e1, Ok_some]
  exact ⟨trivial, l1⟩
theorem rOf_ok {x : Int × Int} (h : RE lo W ev l) (hl : l.length ≤ 10000) (hb : hbad seats x.1 0 = false) (hx : x ∈ l) (hd : Dif l) : omS (.func (.func 30) #[] #[]) [rV seats ev, .int .i64 x.1] W = some (.tuple #[.int .i64 x.2, .int .i64 0], W) := by
  refine om_drop rfl ?_ ref17_Of_om
  unfold ref17_Of
  obtain ⟨V, oB, l1, n1, x1⟩ := bx91 seats ev W
  have hV := hol (h.mono l1)
  rcases at_ok (seats := seats) hV hl x.1 with ⟨i, hi, a1, a2⟩ | ⟨a1, -⟩
  · have e : l[i] = x := hd.eq (List.getElem_mem hi) hx a1
    have e1 : ¬ ((i : Int) < 0) := by omega
    obtain ⟨b, o, i1, i2, i3⟩ := HoL.get hV hi
    obtain ⟨-, f1, f2⟩ := i3 V rfl
    rw [e] at f2
    simp only [SX, oB, ld91 x1, asked_ok, hb, if_neg Bool.false_ne_true, a2, e1, decide_false, decide_true, Nat.zero_add, ld91b x1, i1, f2, Ok_some]
    exact ⟨trivial, l1⟩
  · exact absurd rfl (a1 x hx)
/-- the specification's Put -/
theorem rPut7_ok {s t : Int} (hb : hbad seats s t = true) (h : RE lo W ev l) : ∃ W', omS (.func (.func 25) #[] #[]) [rV seats ev, .int .i64 s, .int .i64 t] W = some (.tuple #[rV seats ev, .int .i64 7], W') ∧ Le W W' := by
  have main : Ok (ref17_Put omS (rV seats ev) (.int .i64 s) (.int .i64 t) W) fun r => r.1 = .tuple #[rV seats ev, .int .i64 7] ∧ Le W r.2 := by
    unfold ref17_Put
    obtain ⟨V, oB, l1, n1, x1⟩ := bx91 seats ev W
    obtain ⟨V2, a1, a2, a3, a4⟩ := nw91 V
    have x2 : V2.get W.next = some (.cells [.int .i64 seats, ev]) := by rw [a2.get _ (by omega)]; exact x1
    have e7 : decide ((7 : Int) = 0) = false := rfl
    have st := st91 (n := seats) a4 h.isSl
    have lx := ld91 (W := V2.put V.next (.cells [.int .i64 seats, ev])) (AW.get_put _ _ _)
    simp only [SX, oB, a1, ld91 x2, asked_ok, hb, if_true, e7, st, oRes_L1n, oL91, lx, Option.bind_some, Ok_some]
    exact ⟨trivial, (l1.trans a2).put (by have := l1.next; omega) _⟩
  obtain ⟨v, W', h1, rfl, h2⟩ := om_q (Q := fun v W' => v = .tuple #[rV seats ev, .int .i64 7] ∧ Le W W') main ref17_Put_om (fun v W' h hle hp => ⟨h.1, .refl _⟩)
  exact ⟨W', h1, h2⟩
theorem rPut8_ok {s t : Int} (hb : hbad seats s t = false) (h : RE lo W ev l) (hl : l.length ≤ 10000) {x : Int × Int} (hx : x ∈ l) (hs : x.1 = s) : ∃ W', omS (.func (.func 25) #[] #[]) [rV seats ev, .int .i64 s, .int .i64 t] W = some (.tuple #[rV seats ev, .int .i64 8], W') ∧ Le W W' := by
  have main : Ok (ref17_Put omS (rV seats ev) (.int .i64 s) (.int .i64 t) W) fun r => r.1 = .tuple #[rV seats ev, .int .i64 8] ∧ Le W r.2 := by
    unfold ref17_Put
    obtain ⟨V, oB, l1, n1, x1⟩ := bx91 seats ev W
    obtain ⟨V2, a1, a2, a3, a4⟩ := nw91 V
    have x2 : V2.get W.next = some (.cells [.int .i64 seats, ev]) := by rw [a2.get _ (by omega)]; exact x1
    have e8 : decide ((8 : Int) = 0) = false := rfl
    have st := st91 (n := seats) a4 h.isSl
    have lx := ld91 (W := V2.put V.next (.cells [.int .i64 seats, ev])) (AW.get_put _ _ _)
    rcases at_ok (seats := seats) (hol (h.mono (l1.trans a2))) hl s with ⟨i, hi, b1, b2⟩ | ⟨b1, -⟩
    · have e1 : (0 : Int) ≤ (i : Int) := by omega
      simp only [SX, oB, a1, ld91 x2, asked_ok, hb, if_neg Bool.false_ne_true, b2, e1, decide_true, e8, st, oRes_L1n, oL91, lx, Option.bind_some, Ok_some]
      exact ⟨trivial, (l1.trans a2).put (by have := l1.next; omega) _⟩
    · exact absurd hs (b1 x hx)
  obtain ⟨v, W', h1, rfl, h2⟩ := om_q (Q := fun v W' => v = .tuple #[rV seats ev, .int .i64 8] ∧ Le W W') main ref17_Put_om (fun v W' h hle hp => ⟨h.1, .refl _⟩)
  exact ⟨W', h1, h2⟩
/-- put in its place -/
def putIn (l : List (Int × Int)) (x : Int × Int) (n : Nat) : List (Int × Int) := l.take n ++ (x :: l.drop n)
theorem putIn_perm (l : List (Int × Int)) (x : Int × Int) (n : Nat) : (putIn l x n).Perm (x :: l) := by
  unfold putIn
  refine List.perm_middle.trans ?_
  rw [List.take_append_drop]
theorem putIn_sort {l : List (Int × Int)} {x : Int × Int} {n : Nat} (h : l.Pairwise fun a b => a.1 ≤ b.1) (h1 : ∀ j (hj : j < l.length), j < n → l[j].1 < x.1) (h2 : ∀ hn : n < l.length, ¬ l[n].1 < x.1) : (putIn l x n).Pairwise fun a b => a.1 ≤ b.1 := by
  have hlow : ∀ a ∈ l.take n, a.1 < x.1 := fun a ha => by
    obtain ⟨j, hj, rfl⟩ := List.mem_iff_getElem.1 ha
    rw [List.length_take] at hj
    rw [List.getElem_take]
    exact h1 j (by omega) (by omega)
  have hup : ∀ b ∈ l.drop n, x.1 ≤ b.1 := fun b hb => by
    obtain ⟨j, hj, rfl⟩ := List.mem_iff_getElem.1 hb
    rw [List.length_drop] at hj
    rw [List.getElem_drop]
    have hn := h2 (by omega)
    rcases Nat.eq_zero_or_pos j with rfl | h0
    · simp only [Nat.add_zero]; omega
    · have := (List.pairwise_iff_getElem.1 h) n (n + j) (by omega) (by omega) (by omega)
      omega
  have hs : (l.take n ++ l.drop n).Pairwise fun a b => a.1 ≤ b.1 := by rw [List.take_append_drop]; exact h
  rw [List.pairwise_append] at hs
  unfold putIn
  rw [List.pairwise_append]
  refine ⟨hs.1, List.Pairwise.cons hup hs.2.1, fun a ha b hb => ?_⟩
  rcases List.mem_cons.1 hb with rfl | hb
  · have := hlow a ha; omega
  · exact hs.2.2 a ha b hb
theorem rPut_ok {s t : Int} (hb : hbad seats s t = false) (h : RE lo W ev l) (hl : l.length ≤ 10000) (hx : ∀ x ∈ l, ¬ x.1 = s) : ∃ W' ev' n, omS (.func (.func 25) #[] #[]) [rV seats ev, .int .i64 s, .int .i64 t] W = some (.tuple #[rV seats ev', .int .i64 0], W') ∧ Le W W' ∧ RE W.next W' ev' (putIn l (s, t) n) ∧ (∀ j (hj : j < l.length), j < n → l[j].1 < s) ∧ ∀ hn : n < l.length, ¬ l[n].1 < s := by
  have main : Ok (ref17_Put omS (rV seats ev) (.int .i64 s) (.int .i64 t) W) fun r => ∃ ev' n, r.1 = .tuple #[rV seats ev', .int .i64 0] ∧ Le W r.2 ∧ RE W.next r.2 ev' (putIn l (s, t) n) ∧ (∀ j (hj : j < l.length), j < n → l[j].1 < s) ∧ ∀ hn : n < l.length, ¬ l[n].1 < s := by
    unfold ref17_Put
    obtain ⟨V, oB, l1, n1, x1⟩ := bx91 seats ev W
    obtain ⟨V2, a1, a2, a3, a4⟩ := nw91 V
    have x2 : V2.get W.next = some (.cells [.int .i64 seats, ev]) := by rw [a2.get _ (by omega)]; exact x1
    have l2 := l1.trans a2
    have h2 := h.mono l2
    have em : decide ((0 : Int) ≤ (-1 : Int)) = false := rfl
    rcases at_ok (seats := seats) (hol h2) hl s with ⟨i, hi, b1, -⟩ | ⟨-, b2⟩
    · exact absurd b1 (hx _ (List.getElem_mem hi))
    simp only [SX, oB, a1, ld91 x2, asked_ok, hb, if_neg Bool.false_ne_true, b2, em, decide_true]
    refine Ok_loop l.length (by omega) (fun k R W' => W' = V2 ∧ R 1 = .int .i64 s ∧ R 2 = .int .i64 t ∧ R 3 = .pointer (some ⟨W.next, 0, none⟩) ∧ R 6 = .pointer (some ⟨V.next, 0, none⟩) ∧ R 9 = .int .i64 (k : Int) ∧ ∀ j (hj : j < l.length), j < k → l[j].1 < s)
      (fun r => r.1 = .exit 0 ∧ r.2.2 = V2 ∧ r.2.1 1 = .int .i64 s ∧ r.2.1 2 = .int .i64 t ∧ r.2.1 3 = .pointer (some ⟨W.next, 0, none⟩) ∧ r.2.1 6 = .pointer (some ⟨V.next, 0, none⟩) ∧ ∃ n : Nat, n ≤ l.length ∧ r.2.1 9 = .int .i64 (n : Int) ∧ (∀ j (hj : j < l.length), j < n → l[j].1 < s) ∧ ∀ hn : n < l.length, ¬ l[n].1 < s) ⟨rfl, rfl, rfl, rfl, rfl, rfl, fun j hj h => absurd h (by omega)⟩ ?_ ?_ ?_
    · rintro k R W' hk ⟨rfl, r1, r2, r3, r6, r9, hlow⟩
      unfold ref17_Put_L2
      obtain ⟨b, o, i1, i2, i3⟩ := HoL.get (hol h2) hk
      obtain ⟨-, f1, f2⟩ := i3 W' rfl
      have t1 : ((k : Int) < (l.length : Int)) := by omega
      have t2 := fun W' => oBin_add (P := Tryz.prog) (W := W') (t := 3) (c := false) (d := true) (a := (k : Int)) (b := 1) (by omega) (by omega)
      by_cases e : l[k].1 < s
      · simp only [SX, r1, r3, r9, Nat.zero_add, ld91b x2, (hol h2).len len39, t1, decide_true, i1, Nat.add_zero, f1, e, t2, Ok_some]
        refine .inl ⟨trivial, trivial, r1, r2, r3, r6, by rw [show ((k + 1 : Nat) : Int) = (k : Int) + 1 by omega]; rfl, fun j hj hjk => ?_⟩
        by_cases ej : j = k
        · subst ej; exact e
        · exact hlow j hj (by omega)
      · simp only [SX, r1, r3, r9, Nat.zero_add, ld91b x2, (hol h2).len len39, t1, decide_true, i1, Nat.add_zero, f1, e, decide_false, Ok_some]
        exact .inr ⟨by simp, trivial, trivial, r1, r2, r3, r6, k, by omega, r9, hlow, fun _ => e⟩
    · rintro R W' ⟨rfl, r1, r2, r3, r6, r9, hlow⟩
      unfold ref17_Put_L2
      have t1 : ¬ ((l.length : Int) < (l.length : Int)) := by omega
      simp only [SX, r1, r3, r9, Nat.zero_add, ld91b x2, (hol h2).len len39, t1, decide_false, Ok_some]
      exact ⟨by simp, trivial, trivial, r1, r2, r3, r6, l.length, by omega, r9, hlow, fun hn => absurd hn (by omega)⟩
    · rintro ⟨x, R, W'⟩ ⟨hx', rfl, r1, r2, r3, r6, n, hn, r9, hlow, hup⟩
      simp only at hx' r1 r2 r3 r6 r9 a2 a3 a4 x2 l2 h2
      subst hx'
      generalize hV3 : W'.add (.cells [.int .i64 s, .int .i64 t]) = V3
      have n3 : V3.next = W'.next + 1 := by rw [← hV3, AW.add_next]
      have l3 : Le W' V3 := by rw [← hV3]; exact (Le.refl _).add _
      have hc3 : V3.get W'.next = some (.cells (hoC (s, t))) := by rw [← hV3]; exact AW.get_add _ _
      have lW3 := l2.trans l3
      obtain ⟨v1, s1, s2⟩ := h.from (kk := .i64) sz39 (by omega) hoC_len (k := n) hn (by omega)
      obtain ⟨v2, s3, s4⟩ := h.to (kk := .i64) sz39 (by omega) hoC_len (k := n) hn (by omega)
      have hlit : RE W'.next V3 (.slice (some ⟨W'.next, 0, none⟩) 1 1) [(s, t)] := .inr ⟨by simp, W'.next, 1, Nat.le_refl _, by omega, rfl, .inr rfl, by simpa using hc3⟩
      obtain ⟨v4, V4, p1, p2, p3, p4⟩ := hlit.app ap39 hoC_len hoC_one (s2.keep lW3) (by simp; omega) (by simp; omega) (by omega)
      have p1' : aAppend Tryz.prog (W'.add (.cells [.int .i64 s, .int .i64 t])) #[22, 22] (.slice (some ⟨W'.next, 0, none⟩) 1 1) v1 = some (v4, V4) := by rw [hV3]; exact p1
      have lW4 : Le W V4 := ⟨by have := lW3.next; omega, fun b hb => by rw [p4 b (by have := l2.next; omega), lW3.get b hb]⟩
      generalize hV5 : V4.add (.cells []) = V5
      have n5 : V5.next = V4.next + 1 := by rw [← hV5, AW.add_next]
      have l5 : Le V4 V5 := by rw [← hV5]; exact (Le.refl _).add _
      obtain ⟨v6, V6, q1, q2, q3, q4⟩ := (EL.nil' V4.next V5 2 hoC V4.next).app ap39 hoC_len hoC_one (s4.keep (lW4.trans l5)) (by simp; omega) (by simp; omega) (by omega)
      have q1' : aAppend Tryz.prog (V4.add (.cells [])) #[22, 22] (.slice (some ⟨V4.next, 0, none⟩) 0 0) v2 = some (v6, V6) := by rw [hV5]; exact q1
      have p6 : RE W'.next V6 v4 ([(s, t)] ++ l.drop n) := p2.keep (by omega) fun b hb1 hb2 => by rw [q4 b hb2, l5.get b hb2]
      obtain ⟨v7, V7, u1, u2, u3, u4⟩ := q2.app ap39 hoC_len hoC_one (p6.rd hoC_len) (by simp; omega) (by simp; omega) (by omega)
      have lW5 := lW4.trans l5
      have lW7 : Le W V7 := ⟨by have := lW5.next; omega, fun b hb => by rw [u4 b (by have := lW4.next; omega), q4 b (by have := lW4.next; omega), lW5.get b hb]⟩
      have lw := l2.next
      have lo2 : ∀ b, b < W'.next → V7.get b = W'.get b := fun b hb => by rw [u4 b (by omega), q4 b (by omega), l5.get b (by omega), p4 b (by omega), l3.get b hb]
      have x7 : V7.get W.next = some (.cells [.int .i64 seats, ev]) := by rw [lo2 _ (by have := a2.next; omega)]; exact x2
      have y7 : V7.get V.next = some (.cells [.int .i64 0, .slice none 0 0]) := by rw [lo2 _ (by omega)]; exact a4
      have hsl7 := u2.isSl
      have st := stA (v := v7) (o := 1) x7 (by simp) (by rcases hsl7 with ⟨b, l, c, rfl⟩ | ⟨l, c, rfl⟩ <;> rfl) hsl7.one
      rw [show ([.int .i64 seats, ev] : List Value).set 1 v7 = [.int .i64 seats, v7] from rfl] at st
      generalize hV8 : V7.put W.next (.cells [.int .i64 seats, v7]) = V8 at st
      have x8 : V8.get W.next = some (.cells [.int .i64 seats, v7]) := by rw [← hV8]; exact AW.get_put _ _ _
      have g8 : ∀ b, b ≠ W.next → V8.get b = V7.get b := fun b hb => by rw [← hV8]; exact AW.get_put_ne _ _ (Ne.symm hb)
      have n8 : V8.next = V7.next := by rw [← hV8, AW.put_next]
      have y8 : V8.get V.next = some (.cells [.int .i64 0, .slice none 0 0]) := by rw [g8 _ (by have := l1.next; omega)]; exact y7
      have st2 := st91 (n := seats) y8 hsl7
      have lx := ld91 (W := V8.put V.next (.cells [.int .i64 seats, v7])) (AW.get_put _ _ _)
      have ldx4 : ldC (.pointer (some ⟨W.next, 1, none⟩)) (V4.add (.cells [])) = some (ev, V4.add (.cells [])) := by
        rw [hV5]
        exact ld91b (by rw [l5.get _ (by have := a2.next; omega), p4 _ (by have := a2.next; omega), l3.get _ (by have := a2.next; omega)]; exact x2)
      have ldx3 : ldC (.pointer (some ⟨W.next, 1, none⟩)) (W'.add (.cells [.int .i64 s, .int .i64 t])) = some (ev, W'.add (.cells [.int .i64 s, .int .i64 t])) := by
        rw [hV3]
        exact ld91b (by rw [l3.get _ (by have := a2.next; omega)]; exact x2)
      simp only [SX, r1, r2, r3, r6, r9, bd43, bs39, Nat.zero_add, ldx3, s1, p1', bs39_0, ldx4, s3, q1', u1, st, ld91 x8, st2, oRes_L1n, oL91, lx, Option.bind_some, Ok_some]
      refine ⟨v7, n, rfl, ⟨?_, fun b hb => ?_⟩, ?_, hlow, hup⟩
      · rw [AW.put_next]
        have := lW7.next
        omega
      · have := l1.next
        rw [AW.get_put_ne _ _ (by omega), g8 b (by omega), lW7.get b hb]
      · have := lW4.next
        have := l1.next
        refine (u2.keep (W' := V8.put V.next (.cells [.int .i64 seats, v7])) (by rw [AW.put_next]; omega) fun b hb1 hb2 => ?_).low (by omega)
        have := a2.next
        rw [AW.get_put_ne _ _ (by omega), g8 b (by omega)]
  obtain ⟨v, W', h1, ev', n, rfl, h2, h3, h4, h5⟩ := om_q (Q := fun v W' => ∃ ev' n, v = .tuple #[rV seats ev', .int .i64 0] ∧ Le W W' ∧ RE W.next W' ev' (putIn l (s, t) n) ∧ (∀ j (hj : j < l.length), j < n → l[j].1 < s) ∧ ∀ hn : n < l.length, ¬ l[n].1 < s) main ref17_Put_om (fun v W' ⟨ev', n, e, h1, h2, h3⟩ hle hp => ⟨ev', n, e, .refl _, h2.anew (pl_rV2 (e ▸ hp)), h3⟩)
  exact ⟨W', ev', n, h1, h2, h3, h4, h5⟩
end
end Go.Proofs.YtkpgmabebjmahaaGreat.Ho
/- The specification's holds: Drop, Move, Due. -/
namespace Go.Proofs.YtkpgmabebjmahaaGreat.Ho
open Go Go.Eng Go.Hp
set_option linter.unusedVariables false
set_option linter.unusedSimpArgs false
set_option linter.unusedSectionVars false
set_option maxRecDepth 100000
theorem oRes_L1nn {P : Program} {W : AW} {t : TypeId} {x y u : Value} : oRes P [(x, some t), (y, none), (u, none)] W = (oLoad P t x W).bind fun r => some (.tuple #[r.1, y, u], W) := by
  unfold oRes oLoad; simp only [oResL]; cases aLoad P W t x <;> rfl
section
variable {W : AW} {lo : Nat} {seats : Int} {ev : Value} {l : List (Int × Int)}
theorem rDropE_ok {s e : Int} (h : RE lo W ev l) (he : ¬ e = 0) (hof : ∀ V, Le W V → omS (.func (.func 30) #[] #[]) [rV seats ev, .int .i64 s] V = some (.tuple #[.int .i64 0, .int .i64 e], V)) : ∃ W', omS (.func (.func 28) #[] #[]) [rV seats ev, .int .i64 s] W = some (.tuple #[rV seats ev, .int .i64 0, .int .i64 e], W') ∧ Le W W' := by
  have main : Ok (ref17_Drop omS (rV seats ev) (.int .i64 s) W) fun r => r.1 = .tuple #[rV seats ev, .int .i64 0, .int .i64 e] ∧ Le W r.2 := by
    unfold ref17_Drop
    obtain ⟨V, oB, l1, n1, x1⟩ := bx91 seats ev W
    obtain ⟨V2, a1, a2, a3, a4⟩ := nw91 V
    have x2 : V2.get W.next = some (.cells [.int .i64 seats, ev]) := by rw [a2.get _ (by omega)]; exact x1
    have e7 : decide (e = 0) = false := decide_eq_false he
    have st := st91 (n := seats) a4 h.isSl
    have lx := ld91 (W := V2.put V.next (.cells [.int .i64 seats, ev])) (AW.get_put _ _ _)
    simp only [SX, oB, a1, ld91 x2, hof V2 (l1.trans a2), e7, st, oRes_L1nn, oL91, lx, Option.bind_some, Ok_some]
    exact ⟨trivial, (l1.trans a2).put (by have := l1.next; omega) _⟩
  obtain ⟨v, W', h1, rfl, h2⟩ := om_q (Q := fun v W' => v = .tuple #[rV seats ev, .int .i64 0, .int .i64 e] ∧ Le W W') main ref17_Drop_om (fun v W' h hle hp => ⟨h.1, .refl _⟩)
  exact ⟨W', h1, h2⟩
/-- what is left without an entry -/
theorem wo_perm {l : List (Int × Int)} {i : Nat} (hi : i < l.length) : (l[i] :: (l.take i ++ l.drop (i + 1))).Perm l := by
  have e : l.take i ++ l[i] :: l.drop (i + 1) = l := by rw [List.getElem_cons_drop, List.take_append_drop]
  exact (List.perm_middle.symm).trans (by rw [e])
theorem wo_sub (l : List (Int × Int)) (i : Nat) : (l.take i ++ l.drop (i + 1)).Sublist l := by
  have : (l.take i ++ l.drop (i + 1)).Sublist (l.take i ++ l.drop i) := List.Sublist.append_left (List.drop_sublist_drop_left _ (by omega)) _
  rwa [List.take_append_drop] at this
theorem rDrop_ok {x : Int × Int} (h : RE lo W ev l) (hl : l.length ≤ 10000) (hb : hbad seats x.1 0 = false) (hx : x ∈ l) (hd : Dif l) (hs : l.Pairwise fun a b => a.1 ≤ b.1) : ∃ W' ev' l', omS (.func (.func 28) #[] #[]) [rV seats ev, .int .i64 x.1] W = some (.tuple #[rV seats ev', .int .i64 x.2, .int .i64 0], W') ∧ Le W W' ∧ RE W.next W' ev' l' ∧ (x :: l').Perm l ∧ l'.Pairwise fun a b => a.1 ≤ b.1 := by
  have main : Ok (ref17_Drop omS (rV seats ev) (.int .i64 x.1) W) fun r => ∃ ev' l', r.1 = .tuple #[rV seats ev', .int .i64 x.2, .int .i64 0] ∧ Le W r.2 ∧ RE W.next r.2 ev' l' ∧ (x :: l').Perm l ∧ l'.Pairwise fun a b => a.1 ≤ b.1 := by
    unfold ref17_Drop
    obtain ⟨V, oB, l1, n1, x1⟩ := bx91 seats ev W
    obtain ⟨V2, a1, a2, a3, a4⟩ := nw91 V
    have x2 : V2.get W.next = some (.cells [.int .i64 seats, ev]) := by rw [a2.get _ (by omega)]; exact x1
    have l2 := l1.trans a2
    have h2 := h.mono l2
    rcases at_ok (seats := seats) (hol h2) hl x.1 with ⟨i, hi, b1, b2⟩ | ⟨b1, -⟩
    case inr => exact absurd rfl (b1 x hx)
    have e : l[i] = x := hd.eq (List.getElem_mem hi) hx b1
    obtain ⟨V3, ev', w1, w2, w3⟩ := without_ok (seats := seats) h2 hi hl
    have y3 : V3.get V.next = some (.cells [.int .i64 0, .slice none 0 0]) := by rw [w2.get _ (by omega)]; exact a4
    have st := st91 (n := seats) y3 w3.isSl
    have lx := ld91 (W := V3.put V.next (.cells [.int .i64 seats, ev'])) (AW.get_put _ _ _)
    have n2 := l1.next
    have n3 := w2.next
    simp only [SX, oB, a1, ld91 x2, rOf_ok h2 hl hb hx hd, b2, agV_some, vs_rV h.isSl, Bool.and_self, w1, st, oRes_L1nn, oL91, lx, Option.bind_some, decide_true, Ok_some]
    refine ⟨ev', _, rfl, (l2.trans w2).put (by omega) _, (w3.keep (W' := V3.put V.next (.cells [.int .i64 seats, ev'])) (by rw [AW.put_next]; omega) fun b hb1 hb2 => AW.get_put_ne _ _ (by omega)).low (by omega), ?_, hs.sublist (wo_sub l i)⟩
    rw [← e]; exact wo_perm hi
  obtain ⟨v, W', h1, ev', l', rfl, h2, h3, h4⟩ := om_q (Q := fun v W' => ∃ ev' l', v = .tuple #[rV seats ev', .int .i64 x.2, .int .i64 0] ∧ Le W W' ∧ RE W.next W' ev' l' ∧ (x :: l').Perm l ∧ l'.Pairwise fun a b => a.1 ≤ b.1) main ref17_Drop_om (fun v W' ⟨ev', l', e, h1, h2, h3⟩ hle hp => ⟨ev', l', e, .refl _, h2.anew (pl_rV3 (e ▸ hp)), h3⟩)
  exact ⟨W', ev', l', h1, h2, h3, h4⟩
/-- the specification's Move -/
theorem rMove7_ok {s t : Int} (hb : hbad seats s t = true) (h : RE lo W ev l) : ∃ W', omS (.func (.func 26) #[] #[]) [rV seats ev, .int .i64 s, .int .i64 t] W = some (.tuple #[rV seats ev, .int .i64 7], W') ∧ Le W W' := by
  have main : Ok (ref17_Move omS (rV seats ev) (.int .i64 s) (.int .i64 t) W) fun r => r.1 = .tuple #[rV seats ev, .int .i64 7] ∧ Le W r.2 := by
    unfold ref17_Move
    obtain ⟨V, oB, l1, n1, x1⟩ := bx91 seats ev W
    obtain ⟨V2, a1, a2, a3, a4⟩ := nw91 V
    have x2 : V2.get W.next = some (.cells [.int .i64 seats, ev]) := by rw [a2.get _ (by omega)]; exact x1
    have e7 : decide ((7 : Int) = 0) = false := rfl
    have st := st91 (n := seats) a4 h.isSl
    have lx := ld91 (W := V2.put V.next (.cells [.int .i64 seats, ev])) (AW.get_put _ _ _)
    simp only [SX, oB, a1, ld91 x2, asked_ok, hb, if_true, e7, st, oRes_L1n, oL91, lx, Option.bind_some, Ok_some]
    exact ⟨trivial, (l1.trans a2).put (by have := l1.next; omega) _⟩
  obtain ⟨v, W', h1, rfl, h2⟩ := om_q (Q := fun v W' => v = .tuple #[rV seats ev, .int .i64 7] ∧ Le W W') main ref17_Move_om (fun v W' h hle hp => ⟨h.1, .refl _⟩)
  exact ⟨W', h1, h2⟩
theorem hbad0 {s t : Int} (hb : hbad seats s t = false) : hbad seats s 0 = false := by
  unfold hbad at hb ⊢
  simp only [Bool.or_eq_false_iff, decide_eq_false_iff_not] at hb ⊢
  omega
theorem rMove4_ok {s t : Int} (hb : hbad seats s t = false) (h : RE lo W ev l) (hl : l.length ≤ 10000) (hx : ∀ x ∈ l, ¬ x.1 = s) : ∃ W', omS (.func (.func 26) #[] #[]) [rV seats ev, .int .i64 s, .int .i64 t] W = some (.tuple #[rV seats ev, .int .i64 4], W') ∧ Le W W' := by
  have main : Ok (ref17_Move omS (rV seats ev) (.int .i64 s) (.int .i64 t) W) fun r => r.1 = .tuple #[rV seats ev, .int .i64 4] ∧ Le W r.2 := by
    unfold ref17_Move
    obtain ⟨V, oB, l1, n1, x1⟩ := bx91 seats ev W
    obtain ⟨V2, a1, a2, a3, a4⟩ := nw91 V
    have x2 : V2.get W.next = some (.cells [.int .i64 seats, ev]) := by rw [a2.get _ (by omega)]; exact x1
    have e4 : decide ((4 : Int) = 0) = false := rfl
    have st := st91 (n := seats) a4 h.isSl
    have lx := ld91 (W := V2.put V.next (.cells [.int .i64 seats, ev])) (AW.get_put _ _ _)
    simp only [SX, oB, a1, ld91 x2, asked_ok, hb, if_neg Bool.false_ne_true, rOf4_ok (h.mono (l1.trans a2)) hl (hbad0 hb) hx, e4, decide_true, st, oRes_L1n, oL91, lx, Option.bind_some, Ok_some]
    exact ⟨trivial, (l1.trans a2).put (by have := l1.next; omega) _⟩
  obtain ⟨v, W', h1, rfl, h2⟩ := om_q (Q := fun v W' => v = .tuple #[rV seats ev, .int .i64 4] ∧ Le W W') main ref17_Move_om (fun v W' h hle hp => ⟨h.1, .refl _⟩)
  exact ⟨W', h1, h2⟩
theorem rMove_ok {x : Int × Int} {t : Int} (hb : hbad seats x.1 t = false) (h : RE lo W ev l) (hl : l.length ≤ 10000) (hx : x ∈ l) (hd : Dif l) (hs : l.Pairwise fun a b => a.1 ≤ b.1) : ∃ W' ev' l' l0, omS (.func (.func 26) #[] #[]) [rV seats ev, .int .i64 x.1, .int .i64 t] W = some (.tuple #[rV seats ev', .int .i64 0], W') ∧ Le W W' ∧ RE W.next W' ev' l' ∧ (x :: l0).Perm l ∧ l'.Perm ((x.1, t) :: l0) ∧ l'.Pairwise fun a b => a.1 ≤ b.1 := by
  have main : Ok (ref17_Move omS (rV seats ev) (.int .i64 x.1) (.int .i64 t) W) fun r => ∃ ev' l' l0, r.1 = .tuple #[rV seats ev', .int .i64 0] ∧ Le W r.2 ∧ RE W.next r.2 ev' l' ∧ (x :: l0).Perm l ∧ l'.Perm ((x.1, t) :: l0) ∧ l'.Pairwise fun a b => a.1 ≤ b.1 := by
    unfold ref17_Move
    obtain ⟨V, oB, l1, n1, x1⟩ := bx91 seats ev W
    obtain ⟨V2, a1, a2, a3, a4⟩ := nw91 V
    have x2 : V2.get W.next = some (.cells [.int .i64 seats, ev]) := by rw [a2.get _ (by omega)]; exact x1
    have l2 := l1.trans a2
    have h2 := h.mono l2
    rcases at_ok (seats := seats) (hol h2) hl x.1 with ⟨i, hi, b1, b2⟩ | ⟨b1, -⟩
    case inr => exact absurd rfl (b1 x hx)
    have e : l[i] = x := hd.eq (List.getElem_mem hi) hx b1
    obtain ⟨V3, ev', w1, w2, w3⟩ := without_ok (seats := seats) h2 hi hl
    have hp := wo_perm hi
    rw [e] at hp
    have hs0 := hs.sublist (wo_sub l i)
    have hnot : ∀ y ∈ l.take i ++ l.drop (i + 1), ¬ y.1 = x.1 := fun y hy ey => by
      have hd' : Dif (x :: (l.take i ++ l.drop (i + 1))) := hd.perm hp
      unfold Dif at hd'
      rw [List.map_cons, List.nodup_cons] at hd'
      exact hd'.1 (List.mem_map.2 ⟨y, hy, ey⟩)
    have hl0 : (l.take i ++ l.drop (i + 1)).length ≤ 10000 := by
      have := (wo_sub l i).length_le
      omega
    generalize l.take i ++ l.drop (i + 1) = l0 at w3 hp hs0 hnot hl0
    obtain ⟨V4, ev2, n, u1, u2, u3, u4, u5⟩ := rPut_ok (t := t) hb w3 hl0 hnot
    have y4 : V4.get V.next = some (.cells [.int .i64 0, .slice none 0 0]) := by rw [u2.get _ (by have := w2.next; omega), w2.get _ (by omega)]; exact a4
    have st := st91 (n := seats) y4 u3.isSl
    have lx := ld91 (W := V4.put V.next (.cells [.int .i64 seats, ev2])) (AW.get_put _ _ _)
    have n2 := l1.next
    have n3 := w2.next
    have n4 := u2.next
    simp only [SX, oB, a1, ld91 x2, asked_ok, hb, if_neg Bool.false_ne_true, rOf_ok h2 hl (hbad0 hb) hx hd, b2, agV_some, vs_rV h.isSl, Bool.and_self, w1, u1, st, oRes_L1n, oL91, lx, Option.bind_some, decide_true, Ok_some]
    exact ⟨ev2, putIn l0 (x.1, t) n, l0, rfl, ((l2.trans w2).trans u2).put (by omega) _, (u3.keep (W' := V4.put V.next (.cells [.int .i64 seats, ev2])) (by rw [AW.put_next]; omega) fun b hb1 hb2 => AW.get_put_ne _ _ (by omega)).low (by omega), hp, putIn_perm _ _ _, putIn_sort hs0 u4 u5⟩
  obtain ⟨v, W', h1, ev', l', l0, rfl, h2, h3, h4⟩ := om_q (Q := fun v W' => ∃ ev' l' l0, v = .tuple #[rV seats ev', .int .i64 0] ∧ Le W W' ∧ RE W.next W' ev' l' ∧ (x :: l0).Perm l ∧ l'.Perm ((x.1, t) :: l0) ∧ l'.Pairwise fun a b => a.1 ≤ b.1) main ref17_Move_om (fun v W' ⟨ev', l', l0, e, h1, h2, h3⟩ hle hp => ⟨ev', l', l0, e, .refl _, h2.anew (pl_rV2 (e ▸ hp)), h3⟩)
  exact ⟨W', ev', l', l0, h1, h2, h3, h4⟩
end
end Go.Proofs.YtkpgmabebjmahaaGreat.Ho
/- The specification's holds: Due. -/
namespace Go.Proofs.YtkpgmabebjmahaaGreat.Ho
open Go Go.Eng Go.Hp
set_option linter.unusedVariables false
set_option linter.unusedSimpArgs false
set_option linter.unusedSectionVars false
set_option maxRecDepth 100000
section
variable {W : AW} {lo : Nat} {seats : Int} {ev : Value} {l : List (Int × Int)}
theorem rDue7_ok {now : Int} (hb : now < 0) (h : RE lo W ev l) : ∃ W', omS (.func (.func 32) #[] #[]) [rV seats ev, .int .i64 now] W = some (.tuple #[rV seats ev, .slice none 0 0, .int .i64 7], W') ∧ Le W W' := by
  have main : Ok (ref17_Due omS (rV seats ev) (.int .i64 now) W) fun r => r.1 = .tuple #[rV seats ev, .slice none 0 0, .int .i64 7] ∧ Le W r.2 := by
    unfold ref17_Due
    obtain ⟨V, oB, l1, n1, x1⟩ := bx91 seats ev W
    obtain ⟨V2, a1, a2, a3, a4⟩ := nw91 V
    have x2 : V2.get W.next = some (.cells [.int .i64 seats, ev]) := by rw [a2.get _ (by omega)]; exact x1
    have st := st91 (n := seats) a4 h.isSl
    have lx := ld91 (W := V2.put V.next (.cells [.int .i64 seats, ev])) (AW.get_put _ _ _)
    simp only [SX, oB, a1, ld91 x2, hb, decide_true, st, oRes_L1nn, oL91, lx, Option.bind_some, Ok_some]
    exact ⟨trivial, (l1.trans a2).put (by have := l1.next; omega) _⟩
  obtain ⟨v, W', h1, rfl, h2⟩ := om_q (Q := fun v W' => v = .tuple #[rV seats ev, .slice none 0 0, .int .i64 7] ∧ Le W W') main ref17_Due_om (fun v W' h hle hp => ⟨h.1, .refl _⟩)
  exact ⟨W', h1, h2⟩
/-- what the specification's Due answers -/
structure RDue (l : List (Int × Int)) (now : Int) (o e : List (Int × Int)) : Prop where
  perm : (o ++ e).Perm l
  sort : o.Pairwise fun a b => hoLs b a = false
  due : ∀ x ∈ o, x.2 ≤ now
  rest : ∀ x ∈ e, now < x.2
  seats : e.Pairwise fun a b => a.1 ≤ b.1
theorem rDue_ok {now : Int} (h : RE lo W ev l) (hnow : 0 ≤ now) (hl : l.length ≤ 10000) (hpos : ∀ x ∈ l, 0 ≤ x.2) (hs : l.Pairwise fun a b => a.1 ≤ b.1) : ∃ W' ev' out o e, omS (.func (.func 32) #[] #[]) [rV seats ev, .int .i64 now] W = some (.tuple #[rV seats ev', out, .int .i64 0], W') ∧ Le W W' ∧ HoL W' out o ∧ ((ev' = ev ∧ e = l) ∨ RE W.next W' ev' e) ∧ RDue l now o e := by
  have main : Ok (ref17_Due omS (rV seats ev) (.int .i64 now) W) fun r => ∃ ev' out o e, r.1 = .tuple #[rV seats ev', out, .int .i64 0] ∧ Le W r.2 ∧ Lst 0 r.2 2 hoC out o ∧ ((ev' = ev ∧ e = l) ∨ RE W.next r.2 ev' e) ∧ RDue l now o e := by
    unfold ref17_Due
    obtain ⟨V, oB, l1, n1, x1⟩ := bx91 seats ev W
    obtain ⟨V2, a1, a2, a3, a4⟩ := nw91 V
    have x2 : V2.get W.next = some (.cells [.int .i64 seats, ev]) := by rw [a2.get _ (by omega)]; exact x1
    have l2 := l1.trans a2
    have en : ¬ now < 0 := by omega
    simp only [SX, oB, a1, en, decide_false]
    refine Ok_loop l.length (by omega) (fun k R U => ∃ evk ek out o bo lo', R 1 = .int .i64 now ∧ R 2 = .pointer (some ⟨W.next, 0, none⟩) ∧ R 4 = .pointer (some ⟨V.next, 0, none⟩) ∧ R 7 = out ∧ U.get W.next = some (.cells [.int .i64 seats, evk]) ∧ U.get V.next = some (.cells [.int .i64 0, .slice none 0 0]) ∧ Le W U ∧ V2.next ≤ U.next ∧ isSl evk ∧
        (∀ U' : AW, U.next ≤ U'.next → (∀ b, b < U.next → b ≠ W.next → b ≠ V.next → bo ≠ some b → U'.get b = U.get b) → RE lo' U' evk ek) ∧ LstA U 2 hoC out o bo ∧ (∀ B, bo = some B → V2.next ≤ B) ∧ o.length = k ∧ k + ek.length = l.length ∧ (k = 0 → evk = ev ∧ ek = l) ∧ (0 < k → lo' = W.next) ∧
        (o ++ ek).Perm l ∧ o.Pairwise (fun a b => hoLs b a = false) ∧ (∀ x ∈ o, x.2 ≤ now) ∧ (∀ x ∈ o, ∀ y ∈ ek, hoLs y x = false) ∧ ek.Pairwise fun a b => a.1 ≤ b.1)
      (fun r => r.1 = .exit 0 ∧ ∃ evk ek out o, r.2.1 2 = .pointer (some ⟨W.next, 0, none⟩) ∧ r.2.1 4 = .pointer (some ⟨V.next, 0, none⟩) ∧ r.2.1 7 = out ∧ r.2.2.get W.next = some (.cells [.int .i64 seats, evk]) ∧ r.2.2.get V.next = some (.cells [.int .i64 0, .slice none 0 0]) ∧ Le W r.2.2 ∧ isSl evk ∧ Lst 0 (r.2.2.put V.next (.cells [.int .i64 seats, evk])) 2 hoC out o ∧ ((evk = ev ∧ ek = l) ∨ RE W.next (r.2.2.put V.next (.cells [.int .i64 seats, evk])) evk ek) ∧ RDue l now o ek)
      ⟨ev, l, .slice none 0 0, [], none, lo, rfl, rfl, rfl, rfl, x2, a4, l2, Nat.le_refl _, h.isSl, fun U' hn hg => ?_, .inl ⟨rfl, rfl, rfl⟩, fun B hB => (by cases hB), rfl, by simp, fun _ => ⟨rfl, rfl⟩, fun h => absurd h (by omega), by simp, List.Pairwise.nil, fun x hx => (by cases hx), fun x hx => (by cases hx), hs⟩ ?_ ?_ ?_
    · refine h.mono ⟨by have := l2.next; omega, fun b hb => ?_⟩
      rw [hg b (by have := l2.next; omega) (by omega) (by omega) (by simp), l2.get b hb]
    · rintro k R U hk ⟨evk, ek, out, o, bo, lo', r1, r2, r4, r7, u1, u2, u3, u4, u5, u6, u7, u8, u9, u10, u11, u12, d1, d2, d3, d4, d5⟩
      unfold ref17_Due_L1
      have hek := u6 U (Nat.le_refl _) (fun _ _ _ _ _ => rfl)
      have hh := hol hek
      have t1 : (0 : Int) < (ek.length : Int) := by omega
      obtain ⟨i, hi, f1, f2⟩ := first_ok hh (by omega) (by omega)
      obtain ⟨b, off, i1, i2, i3⟩ := HoL.get hh hi
      obtain ⟨g0, g1, g2⟩ := i3 U rfl
      have hmem : ek[i] ∈ l := d1.mem_iff.1 (List.mem_append_right _ (List.getElem_mem hi))
      have hp := rPassed_ok (hpos _ hmem) hnow U
      by_cases hd : ek[i].2 ≤ now
      · -- it is due
        have nU := l1.next
        generalize hUa : U.add (.cells [.int .i64 ek[i].1, .int .i64 ek[i].2]) = Ua
        have na : Ua.next = U.next + 1 := by rw [← hUa, AW.add_next]
        have la : Le U Ua := by rw [← hUa]; exact (Le.refl _).add _
        have ca : cellsAt Ua U.next = some (hoC ek[i]) := by rw [← hUa]; exact cellsAt_new
        have o7 : LstA Ua 2 hoC out o bo := u7.keep la.next fun B hB => la.get B (u7.lt hB)
        obtain ⟨out', Ub, p1, p2, p3, p4⟩ := o7.push (b := U.next) (c := 1) (a := ek[i]) ap39 hoC_len hoC_one ca (by omega) (by omega)
        have p1' : aAppend Tryz.prog (U.add (.cells [.int .i64 ek[i].1, .int .i64 ek[i].2])) #[22, 22] out (.slice (some ⟨U.next, 0, none⟩) 1 1) = some (out', Ub) := by rw [hUa]; exact p1
        have gb : ∀ b, b < U.next → bo ≠ some b → Ub.get b = U.get b := fun b h1 h2 => by rw [p4 b (by omega) h2, la.get b h1]
        have bW : bo ≠ some W.next := fun e => by have := u8 _ e; omega
        have bV : bo ≠ some V.next := fun e => by have := u8 _ e; omega
        have hb : RE lo' Ub evk ek := u6 Ub (by omega) fun b h1 _ _ h2 => gb b h1 h2
        have xb : Ub.get W.next = some (.cells [.int .i64 seats, evk]) := by rw [gb _ (by omega) bW]; exact u1
        have yb : Ub.get V.next = some (.cells [.int .i64 0, .slice none 0 0]) := by rw [gb _ (by omega) bV]; exact u2
        obtain ⟨Uc, ev', w1, w2, w3⟩ := without_ok (seats := seats) hb hi (by omega)
        have nc := w2.next
        have xc : Uc.get W.next = some (.cells [.int .i64 seats, evk]) := by rw [w2.get _ (by omega)]; exact xb
        have yc : Uc.get V.next = some (.cells [.int .i64 0, .slice none 0 0]) := by rw [w2.get _ (by omega)]; exact yb
        have st := st91 (n := seats) xc w3.isSl
        have lw : (ek.take i ++ ek.drop (i + 1)).length + 1 = ek.length := by simp; omega
        have t2 : decide (ek[i].2 ≤ now) = true := decide_eq_true hd
        rw [t2] at hp
        simp only [SX, r1, r2, r7, Nat.zero_add, ld91b u1, hh.len len39, t1, decide_true, f2, i1, g0, g2, hp, bs39, p1', ld91 xb, w1, st, Ok_some]
        refine .inl ⟨trivial, ev', ek.take i ++ ek.drop (i + 1), out', o ++ [ek[i]], some Ua.next, W.next, r1, r2, r4, rfl, AW.get_put _ _ _, by rw [AW.get_put_ne _ _ (by omega)]; exact yc, ⟨?_, fun b h1 => ?_⟩, by rw [AW.put_next]; omega, w3.isSl, fun U' h1 h2 => ?_, ?_, fun B hB => ?_, by simp [u9], by omega, fun h => absurd h (by omega), fun _ => rfl, ?_, ?_, ?_, ?_, d5.sublist (wo_sub ek i)⟩
        · have := u3.next; rw [AW.put_next]; omega
        · have := u3.next
          rw [AW.get_put_ne _ _ (by omega), w2.get b (by omega), gb b (by omega) (fun e => by have := u8 _ e; omega), u3.get b h1]
        · rw [AW.put_next] at h1
          refine (w3.keep (W' := U') (by omega) fun b hb1 hb2 => ?_).low (by omega)
          rw [h2 b (by rw [AW.put_next]; exact hb2) (by omega) (by omega) (by intro e; injection e with e; omega), AW.get_put_ne _ _ (by omega)]
        · refine p2.keep (by rw [AW.put_next]; omega) fun B hB => ?_
          have := p2.lt hB
          injection hB with hB
          rw [AW.get_put_ne _ _ (by omega), w2.get B (by omega)]
        · injection hB with hB; omega
        · rw [List.append_assoc]
          exact (List.Perm.append_left o (wo_perm hi)).trans d1
        · rw [List.pairwise_append]
          refine ⟨d2, List.pairwise_singleton _ _, fun a ha b hb => ?_⟩
          obtain rfl := List.mem_singleton.1 hb
          exact d4 a ha _ (List.getElem_mem hi)
        · intro x hx
          rcases List.mem_append.1 hx with hx | hx
          · exact d3 x hx
          · obtain rfl := List.mem_singleton.1 hx
            exact hd
        · intro x hx y hy
          have hy' := (wo_sub ek i).subset hy
          rcases List.mem_append.1 hx with hx | hx
          · exact d4 x hx y hy'
          · obtain rfl := List.mem_singleton.1 hx
            exact f1 y hy'
      · have t2 : decide (ek[i].2 ≤ now) = false := decide_eq_false hd
        rw [t2] at hp
        simp only [SX, r1, r2, r7, Nat.zero_add, ld91b u1, hh.len len39, t1, decide_true, f2, i1, g2, hp, Ok_some]
        refine .inr ⟨by simp, trivial, evk, ek, out, o, r2, r4, r7, u1, u2, u3, u5, ?_, ?_, ⟨d1, d2, d3, fun x hx => ?_, d5⟩⟩
        · exact (u7.keep (by rw [AW.put_next]; omega) fun B hB => AW.get_put_ne _ _ (fun e => by have := u8 _ hB; omega)).lst
        · rcases Nat.eq_zero_or_pos k with rfl | h0
          · exact .inl (u11 rfl)
          · exact .inr (by rw [← u12 h0]; exact u6 _ (by rw [AW.put_next]; omega) fun b h1 h2 h3 h4 => AW.get_put_ne _ _ (Ne.symm h3))
        · have := hoLs_f.1 (f1 x hx)
          omega
    · rintro R U ⟨evk, ek, out, o, bo, lo', r1, r2, r4, r7, u1, u2, u3, u4, u5, u6, u7, u8, u9, u10, u11, u12, d1, d2, d3, d4, d5⟩
      unfold ref17_Due_L1
      have hek := u6 U (Nat.le_refl _) (fun _ _ _ _ _ => rfl)
      have hh := hol hek
      have t1 : ¬ (0 : Int) < (ek.length : Int) := by omega
      have e0 : ek = [] := List.length_eq_zero_iff.1 (by omega)
      simp only [SX, r1, r2, r7, Nat.zero_add, ld91b u1, hh.len len39, t1, decide_false, Ok_some]
      refine ⟨by simp, trivial, evk, ek, out, o, r2, r4, r7, u1, u2, u3, u5, ?_, ?_, ⟨d1, d2, d3, fun x hx => ?_, d5⟩⟩
      · exact (u7.keep (by rw [AW.put_next]; omega) fun B hB => AW.get_put_ne _ _ (fun e => by have := u8 _ hB; omega)).lst
      · rcases Nat.eq_zero_or_pos l.length with h0 | h0
        · exact .inl (u11 h0)
        · exact .inr (by rw [← u12 h0]; exact u6 _ (by rw [AW.put_next]; omega) fun b h1 h2 h3 h4 => AW.get_put_ne _ _ (Ne.symm h3))
      · rw [e0] at hx; cases hx
    · rintro ⟨x, R, U⟩ ⟨hx, evk, ek, out, o, r2, r4, r7, u1, u2, u3, u5, u6, u7, u8⟩
      simp only at hx r2 r4 r7 u1 u2 u3 u6 u7
      subst hx
      have st := st91 (n := seats) u2 u5
      have lx := ld91 (W := U.put V.next (.cells [.int .i64 seats, evk])) (AW.get_put _ _ _)
      simp only [SX, r2, r4, r7, ld91 u1, st, oRes_L1nn, oL91, lx, Option.bind_some, Ok_some]
      exact ⟨evk, out, o, ek, rfl, u3.put (by have := l1.next; omega) _, u6, u7, u8⟩
  have hq : ∀ (v : Value) (W' : AW), (∃ ev' out o e, v = .tuple #[rV seats ev', out, .int .i64 0] ∧ Le W W' ∧ Lst 0 W' 2 hoC out o ∧ ((ev' = ev ∧ e = l) ∨ RE W.next W' ev' e) ∧ RDue l now o e) → Le W W' → plain v = true → ∃ ev' out o e, v = .tuple #[rV seats ev', out, .int .i64 0] ∧ Le W W ∧ Lst 0 W 2 hoC out o ∧ ((ev' = ev ∧ e = l) ∨ RE W.next W ev' e) ∧ RDue l now o e := by
    rintro v W' ⟨ev', out, o, e, h0, h1, h2, h3, h4⟩ hle hp
    refine ⟨ev', out, o, e, h0, .refl _, ?_, ?_, h4⟩
    · rcases h2 with h2 | ⟨h2, B, _, _, rfl, _⟩
      · exact .inl h2
      · subst h0; exact absurd hp (by simp [plain, plain1, scalar])
    · rcases h3 with h3 | h3
      · exact .inl h3
      · exact .inr (h3.anew (pl_rV3 (h0 ▸ hp)))
  obtain ⟨v, W', h1, ev', out, o, e, rfl, h2, h3, h4⟩ := om_q (Q := fun v W' => ∃ ev' out o e, v = .tuple #[rV seats ev', out, .int .i64 0] ∧ Le W W' ∧ Lst 0 W' 2 hoC out o ∧ ((ev' = ev ∧ e = l) ∨ RE W.next W' ev' e) ∧ RDue l now o e) main ref17_Due_om hq
  exact ⟨W', ev', out, o, e, h1, h2, lst_ho h3, h4⟩
end
end Go.Proofs.YtkpgmabebjmahaaGreat.Ho
/- Two holds beside each other. -/
namespace Go.Proofs.YtkpgmabebjmahaaGreat.Ho
open Go Go.Eng Go.Hp
set_option linter.unusedVariables false
set_option linter.unusedSimpArgs false
set_option linter.unusedSectionVars false
set_option maxRecDepth 100000
theorem Gr.mono {W W' : AW} {A B : Nat → Prop} (h : Gr W W' A) (hs : ∀ b, A b → B b) : Gr W W' B := ⟨h.next, fun b hb hn => h.get b hb fun ha => hn (hs b ha)⟩
/-- what holds have, but for their place -/
structure St where
  q : Nat
  mh : Nat
  hm : Nat
  nx : Int
  n : Nat
  f : Nat → En
abbrev St.es (s : St) : List (Int × Int) := ents s.n s.f
abbrev HT (W : AW) (In : Nat → Prop) (H : Nat) (s : St) : Prop := HS W In H s.q s.mh s.hm 65 s.nx s.n s.f
/-- two holds that share nothing -/
def Two (K : Nat → Prop) (V : AW) (Ha Hb : Nat) (s t : St) : Prop :=
  (∀ b, V.next ≤ b → K b) ∧ ∃ A B : Nat → Prop, HT V A Ha s ∧ HT V B Hb t ∧ (∀ b, A b → K b) ∧ (∀ b, B b → K b) ∧ ∀ b, b < V.next → A b → ¬ B b
section
variable {K : Nat → Prop} {V V' : AW} {Ha Hb : Nat} {s t : St}
theorem Two.symm (h : Two K V Ha Hb s t) : Two K V Hb Ha t s := by
  obtain ⟨h0, A, B, ha, hb, ka, kb, d⟩ := h
  exact ⟨h0, B, A, hb, ha, kb, ka, fun b h1 h2 h3 => d b h1 h3 h2⟩
theorem Two.shift (h : Two K V Ha Hb s t) (l : Le V V') : Two (fun b => K b ∧ b < V.next ∨ V'.next ≤ b) V' Ha Hb s t := by
  obtain ⟨h0, A, B, ha, hb, ka, kb, d⟩ := h
  exact ⟨fun b hb => .inr hb, fun b => A b ∧ b < V.next, fun b => B b ∧ b < V.next, ha.keep l.next (fun b hb _ => l.get b hb) (fun b h1 h2 => ⟨h2, h1⟩), hb.keep l.next (fun b hb _ => l.get b hb) (fun b h1 h2 => ⟨h2, h1⟩), fun b h => .inl ⟨ka b h.1, h.2⟩, fun b h => .inl ⟨kb b h.1, h.2⟩, fun b _ h1 h2 => d b h1.2 h1.1 h2.1⟩
theorem Two.le (h : Two K V Ha Hb s t) (l : Le V V') : Two K V' Ha Hb s t := by
  have k := h.1
  obtain ⟨h0, A, B, ha, hb, ka, kb, d⟩ := h.shift l
  have c : ∀ b, K b ∧ b < V.next ∨ V'.next ≤ b → K b := fun b hb => by
    rcases hb with hb | hb
    · exact hb.1
    · exact k b (Nat.le_trans l.next hb)
  exact ⟨fun b hb => k b (Nat.le_trans l.next hb), A, B, ha, hb, fun b h => c b (ka b h), fun b h => c b (kb b h), d⟩
/-- the first one is worked on -/
theorem Two.on (h : Two K V Ha Hb s t) : ∃ In : Nat → Prop, HT V In Ha s ∧ (∀ b, V.next ≤ b → In b) ∧ (∀ b, In b → K b) ∧ ∀ V' s', Gr V V' In → HT V' In Ha s' → Two K V' Ha Hb s' t := by
  obtain ⟨h0, A, B, ha, hb, ka, kb, d⟩ := h
  refine ⟨fun b => A b ∧ b < V.next ∨ V.next ≤ b, ha.keep (Nat.le_refl _) (fun _ _ _ => rfl) (fun b h1 h2 => .inl ⟨h2, h1⟩), fun b h => .inr h, fun b h => ?_, fun V' s' g hs => ⟨fun b hb => h0 b (Nat.le_trans g.next hb), _, fun b => B b ∧ b < V.next, hs, hb.keep g.next (fun b h1 h2 => g.get b h1 fun h3 => ?_) (fun b h1 h2 => ⟨h2, h1⟩), fun b h => ?_, fun b h => kb b h.1, fun b _ h1 h2 => ?_⟩⟩
  · rcases h with h | h
    · exact ka b h.1
    · exact h0 b h
  · rcases h3 with h3 | h3
    · exact d b h1 h3.1 h2
    · omega
  · rcases h with h | h
    · exact ka b h.1
    · exact h0 b h
  · rcases h1 with h1 | h1
    · exact d b h1.2 h1.1 h2.1
    · omega
theorem Two.dif (h : Two K V Ha Hb s t) : Dif s.es := by
  obtain ⟨In, h1, -⟩ := h.on
  exact h1.dif
theorem ents_upd {n : Nat} {f : Nat → En} {i : Nat} (hi : i < n) {p x : Int × Int} {l : List (Int × Int)} (e : (f i).v = x) (hp : (ents n f).Perm (x :: l)) : (ents n (upd f i p)).Perm (p :: l) := by
  have h0 : (List.range n).Perm (i :: (List.range n).erase i) := List.perm_cons_erase (List.mem_range.2 hi)
  have e1 : ∀ g : Nat → En, ents n g = (List.range n).map fun j => (g j).v := fun g => by unfold ents all; rw [List.map_map]; rfl
  have h1 := h0.map fun j => (f j).v
  have h2 := h0.map fun j => (upd f i p j).v
  rw [← e1, List.map_cons] at h1 h2
  have e2 : ((List.range n).erase i).map (fun j => (upd f i p j).v) = ((List.range n).erase i).map fun j => (f j).v := List.map_congr_left fun j hj => by
    have : j ≠ i := fun e => by
      subst e
      exact absurd hj (List.Nodup.not_mem_erase List.nodup_range)
    rw [upd_ne _ _ this]
  rw [e2, upd_i] at h2
  rw [e] at h1
  exact h2.trans (List.Perm.cons _ (List.Perm.cons_inv (h1.symm.trans hp)))
end
end Go.Proofs.YtkpgmabebjmahaaGreat.Ho
/- Holds and their specification, side by side. -/
namespace Go.Proofs.YtkpgmabebjmahaaGreat.Ho
open Go Go.Eng Go.Hp
set_option linter.unusedVariables false
set_option linter.unusedSimpArgs false
set_option linter.unusedSectionVars false
set_option maxRecDepth 100000
abbrev HSt (V : AW) (In : Nat → Prop) (H : Nat) (seats : Int) (s : St) : Prop := HS V In H s.q s.mh s.hm seats s.nx s.n s.f
/-- holds, and what the specification says of them -/
structure JS (In : Nat → Prop) (V : AW) (H : Nat) (s : St) (seats : Int) (ev : Value) (E : List (Int × Int)) : Prop where
  hs : HSt V In H seats s
  up : ∀ b, V.next ≤ b → In b
  row : ∀ V' : AW, Gr V V' In → RE 0 V' ev E
  perm : E.Perm s.es
  sort : E.Pairwise fun a b => a.1 ≤ b.1
def Sh (In : Nat → Prop) (V V' : AW) : Nat → Prop := fun b => In b ∧ b < V.next ∨ V'.next ≤ b
theorem HS.sh {In : Nat → Prop} {V V' : AW} {H : Nat} {seats : Int} {s : St} (h : HSt V In H seats s) (l : Le V V') : HSt V' (Sh In V V') H seats s := h.keep l.next (fun b hb _ => l.get b hb) fun b h1 h2 => .inl ⟨h2, h1⟩
theorem Gr.sh {In : Nat → Prop} {V V' V'' : AW} (l : Le V V') (g : Gr V' V'' (Sh In V V')) : Gr V V'' In := ⟨Nat.le_trans l.next g.next, fun b hb hn => by
  have := l.next
  rw [g.get b (by omega) fun h => ?_, l.get b hb]
  rcases h with h | h
  · exact hn h.1
  · omega⟩
theorem Gr.le' {In : Nat → Prop} {V V' : AW} (l : Le V V') : Gr V V' In := ⟨l.next, fun b hb _ => l.get b hb⟩
section
variable {In : Nat → Prop} {V V' : AW} {H : Nat} {s : St} {seats : Int} {ev : Value} {E : List (Int × Int)}
theorem JS.shift (h : JS In V H s seats ev E) (l : Le V V') : JS (Sh In V V') V' H s seats ev E :=
  ⟨HS.sh h.hs l, fun b hb => .inr hb, fun V'' g => h.row V'' (Gr.sh l g), h.perm, h.sort⟩
theorem JS.dif (h : JS In V H s seats ev E) : Dif E := h.hs.dif.perm h.perm
theorem JS.len (h : JS In V H s seats ev E) : E.length = s.n := by rw [h.perm.length_eq, ents_len]
theorem JS.mem (h : JS In V H s seats ev E) {x : Int × Int} (hx : x ∈ E) : ∃ i, i < s.n ∧ (s.f i).v = x := ents_mem.1 (h.perm.mem_iff.1 hx)
theorem JS.pos (h : JS In V H s seats ev E) {x : Int × Int} (hx : x ∈ E) : 0 ≤ x.2 := by
  obtain ⟨i, hi, rfl⟩ := h.mem hx
  exact (h.hs.ok i hi).2.2
theorem JS.isSl (h : JS In V H s seats ev E) : isSl ev := (h.row V (.refl _ _)).isSl
theorem JS.no (h : JS In V H s seats ev E) {a : Int} (hs : ∀ i, i < s.n → (s.f i).v.1 ≠ a) : ∀ x ∈ E, ¬ x.1 = a := fun x hx => by
  obtain ⟨i, hi, rfl⟩ := h.mem hx
  exact hs i hi
/-- the specification's new row is kept -/
def RowN (In : Nat → Prop) (V0 Va Vb : AW) (ev : Value) (E : List (Int × Int)) : Prop := ∀ V' : AW, Gr V0 V' In → Vb.next ≤ V'.next → (∀ b, Va.next ≤ b → b < Vb.next → V'.get b = Vb.get b) → RE 0 V' ev E
theorem RE.rowN {Va Vb : AW} (h : RE Va.next Vb ev E) {V0 : AW} : RowN In V0 Va Vb ev E := fun V' _ hn hg => (h.keep hn hg).low (Nat.zero_le _)
theorem JS.rowN (h : JS In V H s seats ev E) {Va Vb : AW} : RowN In V Va Vb ev E := fun V' g _ _ => h.row V' g
/-- what the specification's function leaves -/
def RefR (In : Nat → Prop) (V0 : AW) (seats : Int) (f : Value) (args : List Value) (ev : Value) (ret : Value → Value) (T : List (Int × Int)) : Prop :=
  ∀ V, Gr V0 V In → ∃ V' ev' E', omS f (rV seats ev :: args) V = some (ret (rV seats ev'), V') ∧ Le V V' ∧ RowN In V0 V V' ev' E' ∧ E'.Perm T ∧ E'.Pairwise (fun a b => a.1 ≤ b.1) ∧ Eng.isSl ev'
/-- what the function leaves -/
def HoR (H : Nat) (seats : Int) (s : St) (f : Value) (args : List Value) (r : Value) (T : List (Int × Int)) : Prop :=
  ∀ U In2, HSt U In2 H seats s → (∀ b, U.next ≤ b → In2 b) → ∃ U' s', omS f (hP H :: args) U = some (r, U') ∧ HSt U' In2 H seats s' ∧ Gr U U' In2 ∧ s'.es.Perm T ∧ s'.n ≤ s.n + 1 ∧ s'.nx ≤ s.nx + 1
theorem putBoth (J : JS In V H s seats ev E) (hn : s.n < 5000) (hx : s.nx < 1000000000000000) (a t : Int) : ∃ (e : Int) (T : List (Int × Int)), RefR In V seats (.func (.func 25) #[] #[]) [.int .i64 a, .int .i64 t] ev (fun v => .tuple #[v, .int .i64 e]) T ∧ HoR H seats s (.func (.func 11) #[] #[]) [.int .i64 a, .int .i64 t] (.int .i64 e) T := by
  have hl : E.length ≤ 10000 := by rw [J.len]; omega
  cases hb : hbad seats a t
  · rcases J.hs.which a with ⟨i, hi, e⟩ | hs
    · have hmem : (s.f i).v ∈ E := J.perm.mem_iff.2 (ents_mem.2 ⟨i, hi, rfl⟩)
      refine ⟨8, s.es, fun V1 g => ?_, fun U In2 h1 h2 => ⟨U, s, ?_, h1, .refl _ _, .refl _, by omega, by omega⟩⟩
      · obtain ⟨V2, p1, p2⟩ := rPut8_ok hb (J.row V1 g) hl hmem e
        exact ⟨V2, ev, E, p1, p2, J.rowN, J.perm, J.sort, J.isSl⟩
      · rw [← e] at hb ⊢
        exact put8_ok h1 hi hb
    · refine ⟨0, (a, t) :: s.es, fun V1 g => ?_, fun U In2 h1 h2 => ?_⟩
      · obtain ⟨V2, ev', n, p1, p2, p3, p4, p5⟩ := rPut_ok (t := t) hb (J.row V1 g) hl (J.no hs)
        exact ⟨V2, ev', putIn E (a, t) n, p1, p2, RE.rowN p3, (putIn_perm _ _ _).trans (J.perm.cons _), putIn_sort J.sort p4 p5, p3.isSl⟩
      · obtain ⟨U', g, p1, p2, p3, p4⟩ := hPut_ok h1 hb hs hn hx h2
        exact ⟨U', ⟨s.q, s.mh, s.hm, s.nx + 1, s.n + 1, g⟩, p1, p2, p4, p3, Nat.le_refl _, Int.le_refl _⟩
  · refine ⟨7, s.es, fun V1 g => ?_, fun U In2 h1 h2 => ⟨U, s, put7_ok h1 hb, h1, .refl _ _, .refl _, by omega, by omega⟩⟩
    obtain ⟨V2, p1, p2⟩ := rPut7_ok hb (J.row V1 g)
    exact ⟨V2, ev, E, p1, p2, J.rowN, J.perm, J.sort, J.isSl⟩
theorem moveBoth (J : JS In V H s seats ev E) (hn : s.n < 5000) (a t : Int) : ∃ (e : Int) (T : List (Int × Int)), RefR In V seats (.func (.func 26) #[] #[]) [.int .i64 a, .int .i64 t] ev (fun v => .tuple #[v, .int .i64 e]) T ∧ HoR H seats s (.func (.func 13) #[] #[]) [.int .i64 a, .int .i64 t] (.int .i64 e) T := by
  have hl : E.length ≤ 10000 := by rw [J.len]; omega
  cases hb : hbad seats a t
  · rcases J.hs.which a with ⟨i, hi, e⟩ | hs
    · have hmem : (s.f i).v ∈ E := J.perm.mem_iff.2 (ents_mem.2 ⟨i, hi, rfl⟩)
      subst e
      obtain ⟨l1, hl1⟩ : ∃ l, s.es.Perm ((s.f i).v :: l) := ⟨_, List.perm_cons_erase (ents_mem.2 ⟨i, hi, rfl⟩)⟩
      refine ⟨0, ((s.f i).v.1, t) :: l1, fun V1 g => ?_, fun U In2 h1 h2 => ?_⟩
      · obtain ⟨V2, ev', l', l0, p1, p2, p3, p4, p5, p6⟩ := rMove_ok hb (J.row V1 g) hl hmem J.dif J.sort
        exact ⟨V2, ev', l', p1, p2, RE.rowN p3, p5.trans ((List.Perm.cons_inv (p4.trans (J.perm.trans hl1))).cons _), p6, p3.isSl⟩
      · obtain ⟨U', g, p1, p2, p3, p4⟩ := hMove_ok h1 hi hb (by omega)
        exact ⟨U', ⟨s.q, s.mh, s.hm, s.nx, s.n, g⟩, p1, p2, p4, p3.trans (ents_upd hi rfl hl1), Nat.le_succ _, by show s.nx ≤ s.nx + 1; omega⟩
    · refine ⟨4, s.es, fun V1 g => ?_, fun U In2 h1 h2 => ⟨U, s, move4_ok h1 hb hs, h1, .refl _ _, .refl _, by omega, by omega⟩⟩
      obtain ⟨V2, p1, p2⟩ := rMove4_ok hb (J.row V1 g) hl (J.no hs)
      exact ⟨V2, ev, E, p1, p2, J.rowN, J.perm, J.sort, J.isSl⟩
  · refine ⟨7, s.es, fun V1 g => ?_, fun U In2 h1 h2 => ⟨U, s, move7_ok h1 hb, h1, .refl _ _, .refl _, by omega, by omega⟩⟩
    obtain ⟨V2, p1, p2⟩ := rMove7_ok hb (J.row V1 g)
    exact ⟨V2, ev, E, p1, p2, J.rowN, J.perm, J.sort, J.isSl⟩
theorem dropBoth (J : JS In V H s seats ev E) (hn : s.n < 5000) (a : Int) : ∃ (d e : Int) (T : List (Int × Int)), RefR In V seats (.func (.func 28) #[] #[]) [.int .i64 a] ev (fun v => .tuple #[v, .int .i64 d, .int .i64 e]) T ∧ HoR H seats s (.func (.func 27) #[] #[]) [.int .i64 a] (.tuple #[.int .i64 d, .int .i64 e]) T := by
  have hl : E.length ≤ 10000 := by rw [J.len]; omega
  cases hb : hbad seats a 0
  · rcases J.hs.which a with ⟨i, hi, e⟩ | hs
    · have hmem : (s.f i).v ∈ E := J.perm.mem_iff.2 (ents_mem.2 ⟨i, hi, rfl⟩)
      subst e
      obtain ⟨l1, hl1⟩ : ∃ l, s.es.Perm ((s.f i).v :: l) := ⟨_, List.perm_cons_erase (ents_mem.2 ⟨i, hi, rfl⟩)⟩
      refine ⟨(s.f i).v.2, 0, l1, fun V1 g => ?_, fun U In2 h1 h2 => ?_⟩
      · obtain ⟨V2, ev', l', p1, p2, p3, p4, p5⟩ := rDrop_ok (J.row V1 g) hl hb hmem J.dif J.sort
        exact ⟨V2, ev', l', p1, p2, RE.rowN p3, List.Perm.cons_inv (p4.trans (J.perm.trans hl1)), p5, p3.isSl⟩
      · obtain ⟨q, mh, hm, nx, n, f⟩ := s
        simp only at hi hn h1 hl1
        obtain ⟨n, rfl⟩ : ∃ n', n = n' + 1 := ⟨n - 1, by omega⟩
        obtain ⟨U', g, p1, p2, p3, p4⟩ := hDrop_ok h1 hi (by omega)
        exact ⟨U', ⟨q, mh, hm, nx, n, g⟩, p1, p2, p4, List.Perm.cons_inv (p3.trans hl1), by show n ≤ n + 1 + 1; omega, by show nx ≤ nx + 1; omega⟩
    · refine ⟨0, 4, s.es, fun V1 g => ?_, fun U In2 h1 h2 => ⟨U, s, drop4_ok h1 hb hs, h1, .refl _ _, .refl _, by omega, by omega⟩⟩
      obtain ⟨V2, p1, p2⟩ := rDropE_ok (s := a) (e := 4) (J.row V1 g) (by omega) fun V3 g3 => rOf4_ok ((J.row V1 g).mono g3) hl hb (J.no hs)
      exact ⟨V2, ev, E, p1, p2, J.rowN, J.perm, J.sort, J.isSl⟩
  · refine ⟨0, 7, s.es, fun V1 g => ?_, fun U In2 h1 h2 => ⟨U, s, drop7_ok h1 hb, h1, .refl _ _, .refl _, by omega, by omega⟩⟩
    obtain ⟨V2, p1, p2⟩ := rDropE_ok (s := a) (e := 7) (J.row V1 g) (by omega) fun V3 g3 => rOf7_ok hb V3 J.isSl
    exact ⟨V2, ev, E, p1, p2, J.rowN, J.perm, J.sort, J.isSl⟩
theorem ofBoth (J : JS In V H s seats ev E) (hn : s.n < 5000) (a : Int) : ∃ d e : Int, (∀ V1, Gr V V1 In → omS (.func (.func 30) #[] #[]) [rV seats ev, .int .i64 a] V1 = some (.tuple #[.int .i64 d, .int .i64 e], V1)) ∧ ∀ U In2, HSt U In2 H seats s → omS (.func (.func 29) #[] #[]) [hP H, .int .i64 a] U = some (.tuple #[.int .i64 d, .int .i64 e], U) := by
  have hl : E.length ≤ 10000 := by rw [J.len]; omega
  cases hb : hbad seats a 0
  · rcases J.hs.which a with ⟨i, hi, e⟩ | hs
    · have hmem : (s.f i).v ∈ E := J.perm.mem_iff.2 (ents_mem.2 ⟨i, hi, rfl⟩)
      subst e
      exact ⟨(s.f i).v.2, 0, fun V1 g => rOf_ok (J.row V1 g) hl hb hmem J.dif, fun U In2 h1 => hOf_ok h1 hi⟩
    · exact ⟨0, 4, fun V1 g => rOf4_ok (J.row V1 g) hl hb (J.no hs), fun U In2 h1 => of4_ok h1 hb hs⟩
  · exact ⟨0, 7, fun V1 g => rOf7_ok hb V1 J.isSl, fun U In2 h1 => of7_ok h1 hb⟩
theorem ho_eq {a b : Int × Int} {E : List (Int × Int)} (hd : Dif E) (ha : a ∈ E) (hb : b ∈ E) (h1 : hoLs a b = false) (h2 : hoLs b a = false) : a = b := by
  rw [hoLs_f] at h1 h2
  exact hd.eq ha hb (by omega)
theorem nextBoth (J : JS In V H s seats ev E) (hn : s.n < 5000) : ∃ (x : Int × Int) (e : Int), (∀ V1, Gr V V1 In → omS (.func (.func 31) #[] #[]) [rV seats ev] V1 = some (.tuple #[hoV x, .int .i64 e], V1)) ∧ ∀ U In2, HSt U In2 H seats s → omS (.func (.func 12) #[] #[]) [hP H] U = some (.tuple #[hoV x, .int .i64 e], U) := by
  have hl : E.length ≤ 10000 := by rw [J.len]; omega
  by_cases h0 : s.n = 0
  · have e0 : E = [] := List.length_eq_zero_iff.1 (by rw [J.len]; exact h0)
    refine ⟨(0, 0), 4, fun V1 g => rNext0_ok (hol (J.row V1 g)) e0, fun U In2 h1 => ?_⟩
    have := hNext_ok h1
    rw [if_pos h0] at this
    unfold nextE at this
    rw [if_pos h0] at this
    exact this
  · refine ⟨(s.f 0).v, 0, fun V1 g => ?_, fun U In2 h1 => ?_⟩
    · obtain ⟨x, hx, h1, h2⟩ := rNext_ok (seats := seats) (hol (J.row V1 g)) (by rw [J.len]; omega) hl J.isSl
      have hm : (s.f 0).v ∈ E := J.perm.mem_iff.2 (ents_mem.2 ⟨0, by omega, rfl⟩)
      obtain ⟨k, hk, ek⟩ := J.mem hx
      have : (s.f 0).v = x := ho_eq J.dif hm hx (h1 _ hm) (by rw [← ek]; exact J.hs.first hk)
      rw [this]; exact h2
    · have := hNext_ok h1
      rw [if_neg h0] at this
      unfold nextE at this
      rw [if_neg h0] at this
      exact this
/-- Due of both, at a time that is one -/
theorem dueBoth (J : JS In V H s seats ev E) (hn : s.n < 5000) {now : Int} (hnow : 0 ≤ now) :
    ∀ U In2, HSt U In2 H seats s → ∃ U' s' v o, omS (.func (.func 14) #[] #[]) [hP H, .int .i64 now] U = some (.tuple #[v, .int .i64 0], U') ∧ HSt U' In2 H seats s' ∧ Gr U U' In2 ∧ Lst U.next U' 2 hoC v o ∧ o.length ≤ 5000 ∧ s'.n ≤ s.n ∧ s'.nx = s.nx ∧
      ∀ V1, Gr V V1 In → ∃ V' ev' out E', omS (.func (.func 32) #[] #[]) [rV seats ev, .int .i64 now] V1 = some (.tuple #[rV seats ev', out, .int .i64 0], V') ∧ Le V1 V' ∧ HoL V' out o ∧ RowN In V V1 V' ev' E' ∧ E'.Perm s'.es ∧ E'.Pairwise (fun a b => a.1 ≤ b.1) ∧ Eng.isSl ev' := by
  have hl : E.length ≤ 10000 := by rw [J.len]; omega
  intro U In2 h1
  obtain ⟨v, U', o, m, g, d1, d2, d3, d4, d5⟩ := hDue_ok h1 hnow (by omega)
  have hlen := d5.len
  refine ⟨U', ⟨s.q, s.mh, s.hm, s.nx, m, g⟩, v, o, d1, d2, d3, d4, by omega, by show m ≤ s.n; omega, rfl, fun V1 g1 => ?_⟩
  obtain ⟨V', ev', out, o', E', e1, e2, e3, e4, e5⟩ := rDue_ok (seats := seats) (J.row V1 g1) hnow hl (fun x hx => J.pos hx) J.sort
  have hP1 : (o ++ ents m g).Perm (o' ++ E') := d5.perm.trans (J.perm.symm.trans e5.perm.symm)
  have hrest : ∀ x ∈ ents m g, now < x.2 := fun x hx => by
    obtain ⟨i, hi, rfl⟩ := ents_mem.1 hx
    exact d5.rest i hi
  have hf : o.Perm o' := by
    have f0 : ∀ {a b : List (Int × Int)}, (∀ x ∈ a, x.2 ≤ now) → (∀ x ∈ b, now < x.2) → (a ++ b).filter (fun x => decide (x.2 ≤ now)) = a := fun {a b} h1 h2 => by
      rw [List.filter_append, List.filter_eq_self.2 (fun x hx => by simpa using h1 x hx), List.filter_eq_nil_iff.2 (fun x hx => by have := h2 x hx; simp; omega), List.append_nil]
    have := hP1.filter fun x => decide (x.2 ≤ now)
    rwa [f0 d5.due hrest, f0 e5.due e5.rest] at this
  have hsub : ∀ x ∈ o', x ∈ E := fun x hx => e5.perm.mem_iff.1 (List.mem_append_left _ hx)
  have heq : o = o' := List.Perm.eq_of_pairwise (le := fun a b => hoLs b a = false) (fun a b ha hb h1 h2 => ho_eq J.dif (hsub a (hf.mem_iff.1 ha)) (hsub b hb) h2 h1) d5.sort e5.sort hf
  subst heq
  refine ⟨V', ev', out, E', e1, e2, e3, ?_, ((List.perm_append_left_iff o).1 hP1).symm, e5.seats, ?_⟩
  · rcases e4 with ⟨rfl, rfl⟩ | e4
    · exact J.rowN
    · exact RE.rowN e4
  · rcases e4 with ⟨rfl, rfl⟩ | e4
    · exact J.isSl
    · exact e4.isSl
theorem due7Both (J : JS In V H s seats ev E) {now : Int} (hnow : now < 0) :
    (∀ U In2, HSt U In2 H seats s → omS (.func (.func 14) #[] #[]) [hP H, .int .i64 now] U = some (.tuple #[.slice none 0 0, .int .i64 7], U)) ∧ ∀ V1, Gr V V1 In → ∃ V', omS (.func (.func 32) #[] #[]) [rV seats ev, .int .i64 now] V1 = some (.tuple #[rV seats ev, .slice none 0 0, .int .i64 7], V') ∧ Le V1 V' :=
  ⟨fun U In2 h1 => due7_ok h1 hnow, fun V1 g => rDue7_ok hnow (J.row V1 g)⟩
end
end Go.Proofs.YtkpgmabebjmahaaGreat.Ho
/- law17.one: one call of holds and of their specification. -/
namespace Go.Proofs.YtkpgmabebjmahaaGreat.Ho
open Go Go.Eng Go.Hp
set_option linter.unusedVariables false
set_option linter.unusedSimpArgs false
set_option linter.unusedSectionVars false
set_option maxRecDepth 100000
abbrev caV (c : Int × Int × Int) : Value := .agg #[.int .u8 c.1, .int .i64 c.2.1, .int .i64 c.2.2]
abbrev bp (b : Nat) : Value := .pointer (some ⟨b, 0, none⟩)
/-- the law's own boxes -/
def BX (p : Nat) (seats : Int) (ev : Value) (c : Int × Int × Int) (V : AW) : Prop :=
  V.get p = some (.cells [.int .i64 seats, ev]) ∧ V.get (p + 1) = some (.cells [.int .u8 c.1, .int .i64 c.2.1, .int .i64 c.2.2]) ∧ V.get (p + 2) = some (.cells [.int .i64 0, .slice none 0 0])
section
variable {p : Nat} {seats : Int} {ev : Value} {c : Int × Int × Int} {V V' : AW}
theorem BX.keep (h : BX p seats ev c V) (hg : ∀ b, p ≤ b → b < p + 3 → V'.get b = V.get b) : BX p seats ev c V' := ⟨(hg p (by omega) (by omega)).trans h.1, (hg (p + 1) (by omega) (by omega)).trans h.2.1, (hg (p + 2) (by omega) (by omega)).trans h.2.2⟩
theorem BX.le (h : BX p seats ev c V) (l : Le V V') (hp : p + 3 ≤ V.next) : BX p seats ev c V' := h.keep fun b _ hb => l.get b (by omega)
theorem BX.a (h : BX p seats ev c V) : ldA 2 (bp p) V = some (rV seats ev, V) := ld91 h.1
theorem BX.e (h : BX p seats ev c V) : ldC (.pointer (some ⟨p, 1, none⟩)) V = some (ev, V) := ld91b h.1
theorem BX.x (h : BX p seats ev c V) : ldC (.pointer (some ⟨p + 1, 0, none⟩)) V = some (.int .u8 c.1, V) := ldR (rwOf h.2.1) rfl
theorem BX.y (h : BX p seats ev c V) : ldC (.pointer (some ⟨p + 1, 1, none⟩)) V = some (.int .i64 c.2.1, V) := ldR (rwOf h.2.1) rfl
theorem BX.z (h : BX p seats ev c V) : ldC (.pointer (some ⟨p + 1, 2, none⟩)) V = some (.int .i64 c.2.2, V) := ldR (rwOf h.2.1) rfl
theorem BX.st (h : BX p seats ev c V) {v : Value} (hv : Eng.isSl v) {n : Int} : stV 2 (bp (p + 2)) (rV n v) V = some (undef, V.put (p + 2) (.cells [.int .i64 n, v])) := st91 h.2.2 hv
theorem one_pre (c : Int × Int × Int) (V : AW) : ∃ V1 V2 V3, oBox (rV seats ev) V = some (bp V.next, V1) ∧ oBox (caV c) V1 = some (bp (V.next + 1), V2) ∧ oAlloc Tryz.prog 30 V2 = some (bp (V.next + 2), V3) ∧ V3.next = V.next + 3 ∧ Le V V3 ∧ BX V.next seats ev c V3 := by
  obtain ⟨V1, b1, l1, n1, x1⟩ := bx91 seats ev V
  obtain ⟨V3, a1, l3, n3, x3⟩ := nw91 (V1.add (.cells [.int .u8 c.1, .int .i64 c.2.1, .int .i64 c.2.2]))
  have n2 : (V1.add (.cells [.int .u8 c.1, .int .i64 c.2.1, .int .i64 c.2.2])).next = V.next + 2 := by rw [AW.add_next, n1]
  have l2 : Le V1 (V1.add (.cells [.int .u8 c.1, .int .i64 c.2.1, .int .i64 c.2.2])) := (Le.refl _).add _
  have b2 : oBox (caV c) V1 = some (bp (V.next + 1), V1.add (.cells [.int .u8 c.1, .int .i64 c.2.1, .int .i64 c.2.2])) := by rw [← n1]; exact oBox_agg _
  rw [n2] at a1 n3 x3
  refine ⟨V1, _, V3, b1, b2, a1, n3, (l1.trans l2).trans l3, ?_, ?_, x3⟩
  · rw [l3.get _ (by omega), l2.get _ (by omega)]; exact x1
  · rw [l3.get _ (by omega), ← n1]; exact AW.get_add _ _
/-- a box for the specification's answer -/
theorem box91 {ev' : Value} (n : Int) (V : AW) (h : Eng.isSl ev') : ∃ V5 V6, oAlloc Tryz.prog 30 V = some (bp V.next, V5) ∧ stV 2 (bp V.next) (rV n ev') V5 = some (undef, V6) ∧ Le V V6 ∧ V6.next = V.next + 1 ∧ V6.get V.next = some (.cells [.int .i64 n, ev']) := by
  obtain ⟨V5, a1, l5, n5, x5⟩ := nw91 V
  exact ⟨V5, _, a1, st91 x5 h, l5.put (Nat.le_refl _) _, by rw [AW.put_next, n5], AW.get_put _ _ _⟩
theorem box43 (x : Int × Int) (V : AW) : ∃ V5 V6, oAlloc Tryz.prog 43 V = some (bp V.next, V5) ∧ stV 2 (bp V.next) (hoV x) V5 = some (undef, V6) ∧ Le V V6 ∧ V6.next = V.next + 1 ∧ V6.get V.next = some (.cells [.int .i64 x.1, .int .i64 x.2]) := by
  obtain ⟨V5, a1, l5, n5, x5⟩ := boxed V
  exact ⟨V5, _, a1, st43 x x5, l5.put (Nat.le_refl _) _, by rw [AW.put_next, n5], AW.get_put _ _ _⟩
end
section
variable {In : Nat → Prop} {V : AW} {H : Nat} {s : St} {seats : Int} {ev : Value} {E : List (Int × Int)}
/-- what one leaves -/
def OneQ (In : Nat → Prop) (V : AW) (H : Nat) (s : St) (seats : Int) (v : Value) (V' : AW) : Prop :=
  ∃ (In' : Nat → Prop) (s' : St) (ev' : Value) (E' : List (Int × Int)), v = .tuple #[rV seats ev', .bool true] ∧ JS In' V' H s' seats ev' E' ∧ s'.n ≤ s.n + 1 ∧ s'.nx ≤ s.nx + 1 ∧ Gr V V' In ∧ ∀ b, In' b → In b
theorem fin {Va Vb Vc Vd : AW} {In2 : Nat → Prop} {s' : St} {ev' : Value} {E' : List (Int × Int)} {r : Nat} {c : List Value} (g0 : Gr V Vc In) (sub : ∀ b, In2 b → In b) (hs : HSt Vd In2 H seats s') (gd : Gr Vc Vd In2) (up : ∀ b, Vc.next ≤ b → In2 b) (hr : V.next ≤ r) (hra : r < Va.next) (hrc : r < Vc.next) (hr2 : ¬ In2 r) (nab : Vb.next ≤ Vc.next)
    (kept : ∀ b, Va.next ≤ b → b < Vb.next → Vc.get b = Vb.get b ∧ ¬ In2 b) (row : RowN In V Va Vb ev' E') (perm : E'.Perm s'.es) (sort : E'.Pairwise fun a b => a.1 ≤ b.1) (bn : s'.n ≤ s.n + 1) (bx : s'.nx ≤ s.nx + 1) : OneQ In V H s seats (.tuple #[rV seats ev', .bool true]) (Vd.put r (.cells c)) := by
  have nd := gd.next
  have n0 := g0.next
  refine ⟨In2, s', ev', E', rfl, ⟨hs.keep (by rw [AW.put_next]; omega) (fun b hb hi => AW.get_put_ne _ _ fun e => hr2 (e ▸ hi)) (fun b _ hi => hi), fun b hb => up b (by rw [AW.put_next] at hb; omega), fun V'' g => ?_, perm, sort⟩, bn, bx, ⟨by rw [AW.put_next]; omega, fun b hb hi => ?_⟩, sub⟩
  · have ng := g.next
    rw [AW.put_next] at ng
    refine row V'' ⟨by omega, fun b hb hi => ?_⟩ (by omega) fun b h1 h2 => ?_
    · rw [g.get b (by rw [AW.put_next]; omega) (fun h => hi (sub b h)), AW.get_put_ne _ _ (by omega), gd.get b (by omega) (fun h => hi (sub b h)), g0.get b hb hi]
    · rw [g.get b (by rw [AW.put_next]; omega) (kept b h1 h2).2, AW.get_put_ne _ _ (by omega), gd.get b (by omega) (kept b h1 h2).2, (kept b h1 h2).1]
  · rw [AW.get_put_ne _ _ (by omega), gd.get b (by omega) (fun h => hi (sub b h)), g0.get b hb hi]
theorem SlAt.len_eq {W W' : AW} {n m : Nat} {f g : Nat → En} {lv : Value} {bl bl' : Option Nat} (h : SlAt W n f lv bl) (h' : SlAt W' m g lv bl') : n = m := by
  cases h with
  | nil h0 => cases h' with
    | nil h0' => omega
  | row b junk h1 h2 h3 => cases h' with
    | row b' junk' h1' h2' h3' => rfl
theorem HS.same_n {W W' : AW} {I I' : Nat → Prop} {H : Nat} {seats seats' : Int} {s t : St} (h : HSt W I H seats s) (h' : HSt W' I' H seats' t) (l : Le W W') : s.n = t.n := by
  have e1 := h.hc
  rw [← l.get H h.hl, h'.hc] at e1
  injection e1 with e1; injection e1 with e1; injection e1 with _ e1; injection e1 with e1 _
  injection e1 with e1; injection e1 with e1; injection e1 with e1
  obtain ⟨lv, bl, k1, -⟩ := h.qs.ex
  obtain ⟨lv', bl', k1', -⟩ := h'.qs.ex
  have e2 := k1.qc
  rw [← l.get s.q k1.lt, ← e1, k1'.qc] at e2
  injection e2 with e2; injection e2 with e2; injection e2 with e2 _
  subst e2
  exact SlAt.len_eq k1.pile.sl k1'.pile.sl
theorem OneQ.drop (J : JS In V H s seats ev E) {v : Value} {V' : AW} (h : OneQ In V H s seats v V') (l : Le V V') (hp : plain v = true) : OneQ In V H s seats v V := by
  obtain ⟨In', s', ev', E', rfl, j, b1, b2, g, sub⟩ := h
  have hr := j.row V' (.refl _ _)
  have e0 : E' = [] := by
    rcases hr with ⟨h, -⟩ | ⟨h0, B, c, _, _, rfl, _⟩
    · exact h
    · exact absurd hp (by simp [plain, plain1, scalar])
  subst e0
  have hn : s'.n = 0 := by rw [← j.len]; rfl
  have hn0 : s.n = 0 := by rw [HS.same_n J.hs j.hs l]; exact hn
  refine ⟨In, s, ev', [], rfl, ⟨J.hs, J.up, fun V'' _ => hr.anew (pl_rV2 hp), ?_, List.Pairwise.nil⟩, by omega, by omega, .refl _ _, fun b h => h⟩
  show List.Perm [] (ents s.n s.f)
  rw [hn0]
  exact .refl _
theorem one_ok (J : JS In V H s seats ev E) (hn : s.n < 5000) (hx : s.nx < 1000000000000000) (c : Int × Int × Int) : ∃ v V', omS (.func (.func 9) #[] #[]) [hP H, rV seats ev, caV c] V = some (v, V') ∧ OneQ In V H s seats v V' := by
  refine om_q (W := V) ?_ law17_one_om fun v V' h l hp => h.drop J l hp
  unfold law17_one
  obtain ⟨V1, V2, V3, b1, b2, b3, n3, l3, B3⟩ := one_pre (seats := seats) (ev := ev) c V
  have g3 : Gr V V3 In := Gr.le' l3
  have h3 : HSt V3 (Sh In V V3) H seats s := HS.sh J.hs l3
  have up3 : ∀ b, V3.next ≤ b → Sh In V V3 b := fun b hb => .inr hb
  have sub3 : ∀ b, Sh In V V3 b → In b := fun b hb => by
    rcases hb with hb | hb
    · exact hb.1
    · exact J.up b (by omega)
  have rem : ∀ W', oBin Tryz.prog .rem 5 false true (.int .u8 c.1) (.int .u8 8) W' = some (.int .u8 (c.1.tmod 8), W') := fun W' => oBin_rem (by omega)
  have hsl := J.isSl
  have hvs := vs_rV (n := seats) hsl
  -- Put and Move
  have two : ∀ {f g : Value} {e : Int} {T : List (Int × Int)}, RefR In V seats f [.int .i64 c.2.1, .int .i64 c.2.2] ev (fun v => .tuple #[v, .int .i64 e]) T → HoR H seats s g [.int .i64 c.2.1, .int .i64 c.2.2] (.int .i64 e) T →
      ∃ V4 V5 V6 V7 ev', omS f [rV seats ev, .int .i64 c.2.1, .int .i64 c.2.2] V3 = some (.tuple #[rV seats ev', .int .i64 e], V4) ∧ oAlloc Tryz.prog 30 V4 = some (bp V4.next, V5) ∧ stV 2 (bp V4.next) (rV seats ev') V5 = some (undef, V6) ∧ ldA 2 (bp V4.next) V6 = some (rV seats ev', V6) ∧ ldA 2 (bp V4.next) V7 = some (rV seats ev', V7) ∧ omS g [hP H, .int .i64 c.2.1, .int .i64 c.2.2] V6 = some (.int .i64 e, V7) ∧ BX V.next seats ev c V6 ∧ BX V.next seats ev c V7 ∧ Eng.isSl ev' ∧
        ∀ cs, OneQ In V H s seats (.tuple #[rV seats ev', .bool true]) (V7.put (V.next + 2) (.cells cs)) := by
    intro f g e T hr hh
    obtain ⟨V4, ev', E', r1, r2, r3, r4, r5, r6⟩ := hr V3 g3
    obtain ⟨V5, V6, a1, a2, a3, a4, a5⟩ := box91 seats V4 r6
    have l36 := r2.trans a3
    have l6 := l3.trans l36
    obtain ⟨V7, s', u1, u2, u3, u4, u5, u6⟩ := hh V6 (Sh In V V6) (HS.sh J.hs l6) (fun b hb => .inr hb)
    have n4 := r2.next
    have no : ∀ b, V.next ≤ b → b < V6.next → ¬ Sh In V V6 b := fun b h1 h2 h => by
      rcases h with h | h
      · omega
      · omega
    have B6 : BX V.next seats ev c V6 := B3.le l36 (by omega)
    have B7 : BX V.next seats ev c V7 := B6.keep fun b h1 h2 => u3.get b (by omega) (no b h1 (by omega))
    have x7 : V7.get V4.next = some (.cells [.int .i64 seats, ev']) := by rw [u3.get _ (by omega) (no _ (by omega) (by omega))]; exact a5
    refine ⟨V4, V5, V6, V7, ev', r1, a1, a2, ld91 a5, ld91 x7, u1, B6, B7, r6, fun cs => ?_⟩
    refine fin (Va := V3) (Vb := V4) (Vc := V6) (In2 := Sh In V V6) (Gr.le' l6) (fun b hb => ?_) u2 u3 (fun b hb => .inr hb) (by omega) (by omega) (by omega) (no _ (by omega) (by omega)) (by omega) (fun b h1 h2 => ⟨a3.get b h2, no b (by omega) (by omega)⟩) r3 (r4.trans u4.symm) r5 u5 u6
    rcases hb with hb | hb
    · exact hb.1
    · exact J.up b (by omega)
  obtain ⟨pe, pT, pr, ph⟩ := putBoth J hn hx c.2.1 c.2.2
  have ppe : decide (pe = pe) = true := decide_eq_true rfl
  have wu' : wnt undef true = false := rfl
  generalize c.1.tmod 8 = m at rem
  by_cases m0 : m = 0
  · subst m0
    obtain ⟨V4, V5, V6, V7, ev', r1, a1, a2, a3, a4, u1, B6, B7, hs', fin'⟩ := two pr ph
    have lx := fun W : AW => ld91 (n := seats) (ev := ev') (AW.get_put W (V.next + 2) (.cells [.int .i64 seats, ev']))
    simp only [SX, b1, b2, b3, Nat.zero_add, B3.x, rem, decide_true, B3.a, B3.y, B3.z, r1, a1, a2, a3, B6.y, B6.z, u1, a4, agV_some, vs_rV hs', Bool.and_self, ppe, B7.st hs', vsame_bool, oRes_L1n, oL91, lx, Option.bind_some, Ok_some]
    exact fin' _
  by_cases m1 : m = 1
  · subst m1
    obtain ⟨V4, V5, V6, V7, ev', r1, a1, a2, a3, a4, u1, B6, B7, hs', fin'⟩ := two pr ph
    have lx := fun W : AW => ld91 (n := seats) (ev := ev') (AW.get_put W (V.next + 2) (.cells [.int .i64 seats, ev']))
    simp only [SX, b1, b2, b3, Nat.zero_add, B3.x, rem, m0, decide_false, decide_true, B3.a, B3.y, B3.z, r1, a1, a2, a3, B6.y, B6.z, u1, a4, agV_some, vs_rV hs', Bool.and_self, ppe, B7.st hs', vsame_bool, oRes_L1n, oL91, lx, Option.bind_some, Ok_some]
    exact fin' _
  by_cases m2 : m = 2
  · subst m2
    obtain ⟨qe, qT, qr, qh⟩ := moveBoth J hn c.2.1 c.2.2
    have qqe : decide (qe = qe) = true := decide_eq_true rfl
    obtain ⟨V4, V5, V6, V7, ev', r1, a1, a2, a3, a4, u1, B6, B7, hs', fin'⟩ := two qr qh
    have lx := fun W : AW => ld91 (n := seats) (ev := ev') (AW.get_put W (V.next + 2) (.cells [.int .i64 seats, ev']))
    simp only [SX, b1, b2, b3, Nat.zero_add, B3.x, rem, m0, m1, decide_false, decide_true, B3.a, B3.y, B3.z, r1, a1, a2, a3, B6.y, B6.z, u1, a4, agV_some, vs_rV hs', Bool.and_self, qqe, B7.st hs', vsame_bool, oRes_L1n, oL91, lx, Option.bind_some, Ok_some]
    exact fin' _
  by_cases m3 : m = 3
  · subst m3
    obtain ⟨d, e, dT, dr, dh⟩ := dropBoth J hn c.2.1
    have dde : decide (d = d) = true := decide_eq_true rfl
    have dee : decide (e = e) = true := decide_eq_true rfl
    obtain ⟨U, s', u1, u2, u3, u4, u5, u6⟩ := dh V3 (Sh In V V3) h3 up3
    have nU := u3.next
    have gU : Gr V U In := Gr.sh l3 u3
    obtain ⟨V4, ev', E', r1, r2, r3, r4, r5, r6⟩ := dr U gU
    have n4 := r2.next
    obtain ⟨V5, V6, a1, a2, a3, a4, a5⟩ := box91 seats V4 r6
    have lU6 := r2.trans a3
    have no3 : ∀ b, V.next ≤ b → b < V3.next → ¬ Sh In V V3 b := fun b h1 h2 h => by
      rcases h with h | h <;> omega
    have BU : BX V.next seats ev c U := B3.keep fun b h1 h2 => u3.get b (by omega) (no3 b h1 (by omega))
    have B6 : BX V.next seats ev c V6 := BU.le lU6 (by omega)
    have h6 : HSt V6 (Sh (Sh In V V3) U V6) H seats s' := HS.sh u2 lU6
    have lx := fun W : AW => ld91 (n := seats) (ev := ev') (AW.get_put W (V.next + 2) (.cells [.int .i64 seats, ev']))
    simp only [SX, b1, b2, b3, Nat.zero_add, B3.x, rem, m0, m1, m2, decide_false, decide_true, B3.a, B3.y, B3.z, u1, BU.a, BU.y, r1, a1, a2, ld91 a5, dde, dee, B6.st r6, oRes_L1n, oL91, lx, Option.bind_some, Ok_some]
    refine fin (Va := U) (Vb := V4) (Vc := V6) (In2 := Sh (Sh In V V3) U V6) (gU.trans (Gr.le' lU6)) (fun b hb => ?_) h6 (.refl _ _) (fun b hb => .inr hb) (by omega) (by omega) (by omega) (fun h => ?_) (by omega) (fun b h1 h2 => ⟨a3.get b h2, fun h => ?_⟩) r3 (r4.trans u4.symm) r5 u5 u6
    · rcases hb with hb | hb
      · exact sub3 b hb.1
      · exact J.up b (by omega)
    · rcases h with h | h
      · exact no3 _ (by omega) (by omega) h.1
      · omega
    · rcases h with h | h
      · have := h.2; omega
      · omega
  by_cases m4 : m = 4
  · subst m4
    obtain ⟨d, e, o1, o2⟩ := ofBoth J hn c.2.1
    have dde : decide (d = d) = true := decide_eq_true rfl
    have dee : decide (e = e) = true := decide_eq_true rfl
    have lx := fun W : AW => ld91 (n := seats) (ev := ev) (AW.get_put W (V.next + 2) (.cells [.int .i64 seats, ev]))
    simp only [SX, b1, b2, b3, Nat.zero_add, B3.x, rem, m0, m1, m2, m3, decide_false, decide_true, B3.a, B3.y, B3.z, o2 _ _ h3, o1 _ g3, dde, dee, B3.st hsl, oRes_L1n, oL91, lx, Option.bind_some, Ok_some]
    exact fin (Va := V3) (Vb := V3) (Vc := V3) (In2 := Sh In V V3) g3 sub3 h3 (.refl _ _) up3 (by omega) (by omega) (by omega) (fun h => by rcases h with h | h <;> omega) (Nat.le_refl _) (fun b h1 h2 => by omega) J.rowN J.perm J.sort (by omega) (by omega)
  by_cases m5 : m = 5
  · subst m5
    obtain ⟨x, e, o1, o2⟩ := nextBoth J hn
    have dee : decide (e = e) = true := decide_eq_true rfl
    have dxx : decide (x = x) = true := decide_eq_true rfl
    obtain ⟨V4, V5, a1, a2, a3, a4, a5⟩ := box43 x V3
    obtain ⟨V6, V7, c1, c2, c3, c4, c5⟩ := box43 x V5
    have l7 := a3.trans c3
    have lV7 := l3.trans l7
    have B7 : BX V.next seats ev c V7 := B3.le l7 (by omega)
    have B5 : BX V.next seats ev c V5 := B3.le a3 (by omega)
    have h7 : HSt V7 (Sh In V V7) H seats s := HS.sh J.hs lV7
    have x7 : V7.get V3.next = some (.cells [.int .i64 x.1, .int .i64 x.2]) := by rw [c3.get _ (by omega)]; exact a5
    have hrow := hol (J.row V7 (Gr.le' lV7))
    have dn : decide ((s.n : Int) = (E.length : Int)) = true := decide_eq_true (by rw [J.len])
    have lx := fun W : AW => ld91 (n := seats) (ev := ev) (AW.get_put W (V.next + 2) (.cells [.int .i64 seats, ev]))
    have B8 : ∀ cs, ldA 2 (bp V3.next) (V7.put (V.next + 2) (.cells cs)) = some (hoV x, V7.put (V.next + 2) (.cells cs)) := fun cs => ld43 (by rw [AW.get_put_ne _ _ (by omega)]; exact x7)
    have B9 : ∀ cs, ldA 2 (bp V5.next) (V7.put (V.next + 2) (.cells cs)) = some (hoV x, V7.put (V.next + 2) (.cells cs)) := fun cs => ld43 (by rw [AW.get_put_ne _ _ (by have := l3.next; omega)]; exact c5)
    have B10 : ∀ cs, ldC (.pointer (some ⟨V.next, 1, none⟩)) (V7.put (V.next + 2) (.cells cs)) = some (ev, V7.put (V.next + 2) (.cells cs)) := fun cs => ld91b (by rw [AW.get_put_ne _ _ (by omega)]; exact B7.1)
    have B11 : ∀ cs, ldA 2 (bp V.next) (V7.put (V.next + 2) (.cells cs)) = some (rV seats ev, V7.put (V.next + 2) (.cells cs)) := fun cs => ld91 (by rw [AW.get_put_ne _ _ (by omega)]; exact B7.1)
    simp only [SX, b1, b2, b3, Nat.zero_add, B3.x, rem, m0, m1, m2, m3, m4, decide_false, decide_true, o2 _ _ h3, a1, a2, B5.a, o1 _ (Gr.le' (l3.trans a3)), c1, c2, B7.a, ld43 x7, ld43 c5, eql43, dxx, dee, B7.e, hrow.len len39, hLen_ok h7, dn, agV_some, vsame_int, vsame_bool, hsl.vsame, hvs, vs_ho, Bool.and_self, B7.st hsl, B8, B9, B10, B11, oRes_L1n, oL91, lx, Option.bind_some, Ok_some]
    exact fin (Va := V7) (Vb := V7) (Vc := V7) (In2 := Sh In V V7) (Gr.le' lV7) (fun b hb => by
      rcases hb with hb | hb
      · exact hb.1
      · exact J.up b (by omega)) h7 (.refl _ _) (fun b hb => .inr hb) (by omega) (by omega) (by omega) (fun h => by rcases h with h | h <;> omega) (Nat.le_refl _) (fun b h1 h2 => by omega) J.rowN J.perm J.sort (by omega) (by omega)
  -- Due
  by_cases hz : c.2.2 < 0
  · obtain ⟨d1, d2⟩ := due7Both J hz
    obtain ⟨V4, r1, r2⟩ := d2 V3 g3
    obtain ⟨V5, V6, a1, a2, a3, a4, a5⟩ := box91 seats V4 hsl
    have l36 := r2.trans a3
    have n4 := r2.next
    have B6 : BX V.next seats ev c V6 := B3.le l36 (by omega)
    have h6 : HSt V6 (Sh In V V6) H seats s := HS.sh J.hs (l3.trans l36)
    have sm : omS (.func (.func 7) #[] #[]) [.slice none 0 0, .slice none 0 0] V6 = some (.bool true, V6) := by
      rw [Same17_ok (l := []) (m := []) Row.nil Row.nil (by simp), decide_eq_true rfl]
    have d77 : decide ((7 : Int) = 7) = true := rfl
    have lx := fun W : AW => ld91 (n := seats) (ev := ev) (AW.get_put W (V.next + 2) (.cells [.int .i64 seats, ev]))
    simp only [SX, b1, b2, b3, Nat.zero_add, B3.x, rem, m0, m1, m2, m3, m4, m5, decide_false, decide_true, B3.a, B3.z, d1 _ _ h3, r1, a1, a2, ld91 a5, sm, agV_some, hvs, vsame_bool, Bool.and_self, B6.st hsl, oRes_L1n, oL91, lx, Option.bind_some, Ok_some]
    exact fin (Va := V3) (Vb := V3) (Vc := V6) (In2 := Sh In V V6) (Gr.le' (l3.trans l36)) (fun b hb => by
      rcases hb with hb | hb
      · exact hb.1
      · exact J.up b (by omega)) h6 (.refl _ _) (fun b hb => .inr hb) (by omega) (by omega) (by omega) (fun h => by rcases h with h | h <;> omega) (by omega) (fun b h1 h2 => by omega) J.rowN J.perm J.sort (by omega) (by omega)
  · obtain ⟨U, s', v, o, d1, d2, d3, d4, d5, d6, d7, d8⟩ := dueBoth J hn (now := c.2.2) (by omega) V3 _ h3
    have nU := d3.next
    have gU : Gr V U In := Gr.sh l3 d3
    obtain ⟨V4, ev', out, E', r1, r2, r3, r4, r5, r6, r7⟩ := d8 U gU
    have n4 := r2.next
    obtain ⟨V5, V6, a1, a2, a3, a4, a5⟩ := box91 seats V4 r7
    have lU6 := r2.trans a3
    have no3 : ∀ b, V.next ≤ b → b < V3.next → ¬ Sh In V V3 b := fun b h1 h2 h => by
      rcases h with h | h <;> omega
    have BU : BX V.next seats ev c U := B3.keep fun b h1 h2 => d3.get b (by omega) (no3 b h1 (by omega))
    have B6 : BX V.next seats ev c V6 := BU.le lU6 (by omega)
    have h6 : HSt V6 (Sh (Sh In V V3) U V6) H seats s' := HS.sh d2 lU6
    have sm : omS (.func (.func 7) #[] #[]) [v, out] V6 = some (.bool true, V6) := by
      rw [Same17_ok ((lst_ho d4).mono lU6) (r3.mono a3) (by omega), decide_eq_true rfl]
    have lx := fun W : AW => ld91 (n := seats) (ev := ev') (AW.get_put W (V.next + 2) (.cells [.int .i64 seats, ev']))
    simp only [SX, b1, b2, b3, Nat.zero_add, B3.x, rem, m0, m1, m2, m3, m4, m5, decide_false, decide_true, B3.z, d1, BU.a, BU.z, r1, a1, a2, ld91 a5, sm, agV_some, vs_rV r7, vsame_bool, Bool.and_self, B6.st r7, oRes_L1n, oL91, lx, Option.bind_some, Ok_some]
    refine fin (Va := U) (Vb := V4) (Vc := V6) (In2 := Sh (Sh In V V3) U V6) (gU.trans (Gr.le' lU6)) (fun b hb => ?_) h6 (.refl _ _) (fun b hb => .inr hb) (by omega) (by omega) (by omega) (fun h => ?_) (by omega) (fun b h1 h2 => ⟨a3.get b h2, fun h => ?_⟩) r4 r5 r6 (by omega) (by omega)
    · rcases hb with hb | hb
      · exact sub3 b hb.1
      · exact J.up b (by omega)
    · rcases h with h | h
      · exact no3 _ (by omega) (by omega) h.1
      · omega
    · rcases h with h | h
      · have := h.2; omega
      · omega
end
end Go.Proofs.YtkpgmabebjmahaaGreat.Ho
/- HoldsPlays: it answers true. -/
namespace Go.Proofs.YtkpgmabebjmahaaGreat.Ho
open Go Go.Eng Go.Hp
set_option linter.unusedVariables false
set_option linter.unusedSimpArgs false
set_option linter.unusedSectionVars false
set_option maxRecDepth 100000
section
variable {In : Nat → Prop} {V : AW} {H : Nat} {s : St} {seats : Int} {ev : Value} {E : List (Int × Int)}
theorem JS.block (J : JS In V H s seats ev E) : (E = [] ∧ ∀ V' : AW, RE 0 V' ev E) ∨ ∃ B c, ¬ In B ∧ B < V.next ∧ E ≠ [] ∧ ev = .slice (some ⟨B, 0, none⟩) E.length c ∧ (c = BIG + 2 ∨ c = E.length) ∧ V.get B = some (.cells (E.flatMap hoC)) := by
  rcases J.row V (.refl _ _) with h | ⟨h0, B, c, _, h2, h3, h4, h5⟩
  · exact .inl ⟨h.1, fun V' => .inl h⟩
  · refine .inr ⟨B, c, fun hi => ?_, h2, h0, h3, h4, h5⟩
    have hr := J.row (V.put B (.cells [])) ⟨Nat.le_of_eq (AW.put_next _ _ _).symm, fun b _ hb => AW.get_put_ne _ _ fun e => hb (e ▸ hi)⟩
    rcases hr with h | ⟨_, B', c', _, _, h3', _, h5'⟩
    · exact h0 h.1
    · rw [h3] at h3'
      injection h3' with h3'
      injection h3' with h3'
      injection h3' with h3'
      rw [← h3', AW.get_put] at h5'
      injection h5' with h5'
      injection h5' with h5'
      obtain ⟨x, l, rfl⟩ := List.exists_cons_of_ne_nil h0
      cases h5'
theorem JS.put (J : JS In V H s seats ev E) {r : Nat} (hr : ¬ In r) {n : Int} {u : Value} (hc : V.get r = some (.cells [.int .i64 n, u])) (hu : Eng.isSl u) (cs : List Value) : JS In (V.put r (.cells cs)) H s seats ev E := by
  refine ⟨J.hs.keep (Nat.le_of_eq (AW.put_next _ _ _).symm) (fun b hb hi => AW.get_put_ne _ _ fun e => hr (e ▸ hi)) (fun b _ hi => hi), fun b hb => J.up b (by rwa [AW.put_next] at hb), fun V' g => ?_, J.perm, J.sort⟩
  rcases J.block with ⟨_, h⟩ | ⟨B, c, h1, h2, h3, h4, h5, h6⟩
  · exact h V'
  · have hne : r ≠ B := fun e => by
      subst e
      rw [hc] at h6
      injection h6 with h6
      injection h6 with h6
      obtain ⟨x, l, rfl⟩ := List.exists_cons_of_ne_nil h3
      injection h6 with _ h6
      injection h6 with h6 _
      rcases hu with ⟨_, _, _, rfl⟩ | ⟨_, _, rfl⟩ <;> cases h6
    have hn := g.next
    rw [AW.put_next] at hn
    exact .inr ⟨h3, B, c, Nat.zero_le _, by omega, h4, h5, by rw [g.get B (by rw [AW.put_next]; exact h2) h1, AW.get_put_ne _ _ hne]; exact h6⟩
end
theorem Cas.getA {W : AW} {v : Value} {l : List (Int × Int × Int)} (h : Cas W v l) {i : Nat} (hi : i < l.length) :
    ∃ b o, (∀ W' k, ixS 3 v (.int k (i : Int)) W' = some (.pointer (some ⟨b, o, none⟩), W')) ∧ ∀ W', Le W W' → ldA 3 (.pointer (some ⟨b, o, none⟩)) W' = some (caV l[i], W') := by
  obtain ⟨b, o, cs, h1, h2, h3, h4, h5, h6⟩ := h.elem hi
  refine ⟨b, o, h1, fun W' hle => ?_⟩
  have hc : cellsAt W' b = some cs := by rw [hle.cellsAt h2]; exact h3
  have e3 : (cs.drop o).take 3 = [.int .u8 l[i].1, .int .i64 l[i].2.1, .int .i64 l[i].2.2] := by
    obtain ⟨a1, a2⟩ := List.getElem?_eq_some_iff.1 h4
    obtain ⟨b1, b2⟩ := List.getElem?_eq_some_iff.1 h5
    obtain ⟨c1, c2⟩ := List.getElem?_eq_some_iff.1 h6
    rw [List.drop_eq_getElem_cons a1, List.drop_eq_getElem_cons b1, List.drop_eq_getElem_cons c1, a2, b2, c2]
    rfl
  have := ldA_ok (n := 3) (o := o) hc (by rw [e3]; rfl)
  rw [e3] at this
  exact this
end Go.Proofs.YtkpgmabebjmahaaGreat.Ho
/- slices.IsSortedFunc by seats; rows that can be read. -/
namespace Go.Proofs.YtkpgmabebjmahaaGreat.Ho
open Go Go.Eng Go.Hp
set_option linter.unusedVariables false
set_option linter.unusedSimpArgs false
set_option linter.unusedSectionVars false
set_option maxRecDepth 100000
theorem flat_at {α : Type} {z : Nat} {f : α → List Value} {at_ : List Value → Nat → α → Prop} (hat : ∀ cs p a, at_ cs p a → (cs.drop p).take z = f a) {cs : List Value} : ∀ (l : List α) (o : Nat), (∀ i (h : i < l.length), at_ cs (o + i * z) l[i]) → (cs.drop o).take (l.length * z) = l.flatMap f
  | [], o, _ => by simp
  | a :: l, o, h => by
    have h0 := hat _ _ _ (h 0 (by simp))
    rw [Nat.zero_mul, Nat.add_zero] at h0
    have ih := flat_at hat l (o + z) fun i hi => by
      have := h (i + 1) (by simp; omega)
      rw [show o + z + i * z = o + (i + 1) * z by rw [Nat.succ_mul]; omega]
      exact this
    rw [List.length_cons, Nat.succ_mul, Nat.add_comm, List.take_add, h0, List.drop_drop, ih, List.flatMap_cons]
    rfl
theorem row_rd {α : Type} {W : AW} {z : Nat} {f : α → List Value} {at_ : List Value → Nat → α → Prop} (hat : ∀ cs p a, at_ cs p a → (cs.drop p).take z = f a) {v : Value} {l : List α} (h : Row W z at_ v l) : Rd W z f v l := by
  obtain ⟨a, c, rfl, h⟩ := h
  refine ⟨a, c, rfl, ?_⟩
  rcases h with h | ⟨b, o, cs, h1, h2, h3, h4⟩
  · exact .inl h
  · exact .inr ⟨b, o, cs, h1, h2, h3, flat_at hat l o h4⟩
theorem ho_rd {W : AW} {v : Value} {l : List (Int × Int)} (h : HoL W v l) : Rd W 2 hoC v l := row_rd (fun cs p x ⟨h4, h5⟩ => by
  obtain ⟨a1, a2⟩ := List.getElem?_eq_some_iff.1 h4
  obtain ⟨b1, b2⟩ := List.getElem?_eq_some_iff.1 h5
  rw [List.drop_eq_getElem_cons a1, List.drop_eq_getElem_cons b1, a2, b2]
  rfl) h
theorem mapV_len {P : Program} {W : AW} {r n : Nat} {m : Int → Option Value} {ts : Array TypeId} {k e : TypeId} (h : MapV W r m n) (ht : (ts[0]?).bind P.underlying = some (.map k e)) (ty : TypeId) (cf : Array Bool) : oBuiltin P .len ts ty cf [.map (some r)] W = some (.int .i64 (n : Int), W) := by
  obtain ⟨l, c, hg, hn, hl, hm⟩ := h
  unfold oBuiltin
  simp only [ht, hg]
  rw [show (entV l).length = n by unfold entV; rw [List.length_map, hl]]
  rfl
/-- ascending by seats -/
abbrev Asc (l : List (Int × Int)) : Prop := l.Pairwise fun a b => a.1 ≤ b.1
theorem asc_of : ∀ {l : List (Int × Int)}, (∀ i (hi : i + 1 < l.length), l[i].1 ≤ l[i + 1].1) → Asc l
  | [], _ => .nil
  | [a], _ => .cons (by simp) .nil
  | a :: b :: l, h => by
    have ih : Asc (b :: l) := asc_of fun i hi => by
      have := h (i + 1) (by simp at hi ⊢; omega)
      simpa using this
    have hab : a.1 ≤ b.1 := by have := h 0 (by simp); simpa using this
    refine .cons (fun x hx => ?_) ih
    rcases List.mem_cons.1 hx with rfl | hx
    · exact hab
    · have := (List.pairwise_cons.1 ih).1 x hx
      omega
theorem asc_at {l : List (Int × Int)} (h : Asc l) {i : Nat} (hi : i + 1 < l.length) : l[i].1 ≤ l[i + 1].1 := List.pairwise_iff_getElem.1 h i (i + 1) (by omega) hi (by omega)
theorem load1_ok (a b : Int × Int) (W : AW) : omS (.func (.func 18) #[] #[]) [hoV a, hoV b] W = some (.int .i64 (cmpI a.1 b.1), W) := by
  refine om_drop rfl ?_ holds_Load_1_om
  unfold holds_Load_1
  have oB : ∀ (v : Int × Int) W, oBox (hoV v) W = some (.pointer (some ⟨W.next, 0, none⟩), W.add (.cells [.int .i64 v.1, .int .i64 v.2])) := fun v W => oBox_agg _
  have hc : ∀ a b W, omS (.func (.func 19) #[] #[]) [.int .i64 a, .int .i64 b] W = some (.int .i64 (cmpI a b), W) := fun a b W => om1_le _ _ _ _ (cmp_ok a b W)
  generalize hW2 : (W.add (.cells [.int .i64 a.1, .int .i64 a.2])).add (.cells [.int .i64 b.1, .int .i64 b.2]) = W2
  have n1 : (W.add (.cells [.int .i64 a.1, .int .i64 a.2])).next = W.next + 1 := AW.add_next _ _
  have xa : W2.get W.next = some (.cells [.int .i64 a.1, .int .i64 a.2]) := by rw [← hW2, AW.get_add_ne _ _ (by rw [n1]; omega)]; exact AW.get_add _ _
  have xb : W2.get (W.next + 1) = some (.cells [.int .i64 b.1, .int .i64 b.2]) := by
    rw [← hW2]
    have := (W.add (.cells [.int .i64 a.1, .int .i64 a.2])).get_add (.cells [.int .i64 b.1, .int .i64 b.2])
    rwa [n1] at this
  have l2 : Le W W2 := by rw [← hW2]; exact ((Le.refl _).add _).add _
  simp only [SX, oB, n1, hW2, Nat.zero_add, ldR (o := 0) (rwOf xa) rfl, ldR (o := 0) (rwOf xb) rfl, hc, Ok_some]
  exact ⟨trivial, l2⟩
theorem isSorted_ok {W : AW} {v : Value} {l : List (Int × Int)} (h : HoL W v l) (hl : l.length ≤ 10000) : ∃ b, omS (.func (.func 17) #[] #[]) [v, .func (.func 18) #[] #[]] W = some (.bool b, W) ∧ (b = true ↔ Asc l) := by
  have main : Ok (slices_IsSortedFuncapi_HoEntryapi_HoEntry omS v (.func (.func 18) #[] #[]) W) fun r => r.2 = W ∧ ∃ b, r.1 = .bool b ∧ (b = true ↔ Asc l) := by
    unfold slices_IsSortedFuncapi_HoEntryapi_HoEntry
    have t0 := oBin_sub (P := Tryz.prog) (W := W) (t := 3) (c := false) (d := true) (a := (l.length : Int)) (b := 1) (by omega) (by omega)
    simp only [SX, h.len len39, t0]
    refine Ok_loop (l.length - 1) (by omega) (fun k R W' => W' = W ∧ R 0 = v ∧ R 1 = .func (.func 18) #[] #[] ∧ R 5 = .int .i64 ((l.length : Int) - 1 - (k : Int)) ∧ ∀ i (hi : i + 1 < l.length), l.length ≤ i + 1 + k → l[i].1 ≤ l[i + 1].1)
      (fun r => r.2.2 = W ∧ ((r.1 = .exit 0 ∧ Asc l) ∨ (r.1 = .ret ∧ ¬ Asc l ∧ r.2.1 4 = .bool false))) ⟨rfl, rfl, rfl, congrArg (Value.int .i64) (show (l.length : Int) - 1 = (l.length : Int) - 1 - ((0 : Nat) : Int) by omega), fun i hi h0 => by omega⟩ ?_ ?_ ?_
    · rintro k R W' hk ⟨rfl, r0, r1, r5, hx⟩
      unfold slices_IsSortedFuncapi_HoEntryapi_HoEntry_L1
      obtain ⟨j, hj⟩ : ∃ j, l.length = j + 2 + k := ⟨l.length - 2 - k, by omega⟩
      have r5' : R 5 = .int .i64 ((j + 1 : Nat) : Int) := by rw [r5]; congr 1; omega
      obtain ⟨b, o, i1, i2, i3⟩ := HoL.get h (show j + 1 < l.length by omega)
      obtain ⟨f0, -⟩ := i3 W' rfl
      obtain ⟨b', o', j1, j2, j3⟩ := HoL.get h (show j < l.length by omega)
      obtain ⟨g0, -⟩ := j3 W' rfl
      have t1 : (0 : Int) < ((j + 1 : Nat) : Int) := by omega
      have t2 : oBin Tryz.prog .sub 3 false true (.int .i64 ((j + 1 : Nat) : Int)) (.int .i64 1) W' = some (.int .i64 (j : Int), W') := by
        rw [oBin_sub (by omega) (by omega)]; congr 3; omega
      by_cases e : l[j + 1].1 < l[j].1
      · have t3 : cmpI l[j + 1].1 l[j].1 < 0 := (cmpI_lt _ _).2 e
        simp only [SX, r0, r1, r5', t1, decide_true, i1, f0, t2, j1, g0, load1_ok, t3, Ok_some]
        refine .inr ⟨by simp, trivial, .inr ⟨trivial, fun ha => ?_, rfl⟩⟩
        have := asc_at ha (show j + 1 < l.length by omega)
        omega
      · have t3 : ¬ cmpI l[j + 1].1 l[j].1 < 0 := fun x => e ((cmpI_lt _ _).1 x)
        simp only [SX, r0, r1, r5', t1, decide_true, i1, f0, t2, j1, g0, load1_ok, t3, decide_false, Ok_some]
        refine .inl ⟨trivial, trivial, r0, r1, congrArg (Value.int .i64) (show (j : Int) = (l.length : Int) - 1 - ((k + 1 : Nat) : Int) by omega), fun i hi hik => ?_⟩
        by_cases ei : i = j
        · subst ei; omega
        · exact hx i hi (by omega)
    · rintro R W' ⟨rfl, r0, r1, r5, hx⟩
      unfold slices_IsSortedFuncapi_HoEntryapi_HoEntry_L1
      have t1 : ¬ (0 : Int) < (l.length : Int) - 1 - ((l.length - 1 : Nat) : Int) := by omega
      simp only [SX, r5, t1, decide_false, Ok_some]
      exact ⟨by simp, trivial, .inl ⟨trivial, asc_of fun i hi => hx i hi (by omega)⟩⟩
    · rintro ⟨x, R, W'⟩ ⟨rfl, hx⟩
      simp only at hx
      rcases hx with ⟨rfl, hx⟩ | ⟨rfl, hx, r4⟩
      · simp only [SX, Ok_some]
        exact ⟨trivial, true, rfl, by simp [hx]⟩
      · simp only [SX, r4, Ok_some]
        exact ⟨trivial, false, rfl, by simp [hx]⟩
  obtain ⟨⟨r, W'⟩, h1, rfl, b, h2, h3⟩ := main
  simp only at h2
  subst h2
  exact ⟨b, by rw [slices_IsSortedFuncapi_HoEntryapi_HoEntry_om h1, gc_same], h3⟩
end Go.Proofs.YtkpgmabebjmahaaGreat.Ho
/- Holds: Load. -/
namespace Go.Proofs.YtkpgmabebjmahaaGreat.Ho
open Go Go.Eng Go.Hp
set_option linter.unusedVariables false
set_option linter.unusedSimpArgs false
set_option linter.unusedSectionVars false
set_option maxRecDepth 100000
theorem u49 : Tryz.prog.underlying 49 = some (.map 3 4) := by kernel_rfl
theorem len49 : ((#[49] : Array TypeId)[0]?).bind Tryz.prog.underlying = some (.map 3 4) := by kernel_rfl
theorem mk49 (W : AW) : oMkMap Tryz.prog 49 none W = some (.map (some W.next), W.add (.map [] 0)) := rfl
theorem dif_lt {l : List (Int × Int)} (hd : Dif l) {k : Nat} (hk : k < l.length) {x : Int × Int} (hx : x ∈ l.take k) : x.1 ≠ l[k].1 := by
  obtain ⟨j, hj, rfl⟩ := List.mem_iff_getElem.1 hx
  rw [List.length_take] at hj
  rw [List.getElem_take]
  have := List.pairwise_iff_getElem.1 hd j k (by rw [List.length_map]; omega) (by rw [List.length_map]; omega) (by omega)
  rwa [List.getElem_map, List.getElem_map] at this
/-- the seats among the first k -/
abbrev seatsTo (l : List (Int × Int)) (k : Nat) : List Int := (l.take k).map (·.1)
theorem seatsTo_succ {l : List (Int × Int)} {k : Nat} (hk : k < l.length) : seatsTo l (k + 1) = seatsTo l k ++ [l[k].1] := by
  unfold seatsTo
  rw [List.take_succ_eq_append_getElem hk, List.map_append]; rfl
theorem nodup_snoc {l : List Int} {a : Int} : (l ++ [a]).Nodup ↔ l.Nodup ∧ a ∉ l := by
  rw [List.nodup_append]
  constructor
  · rintro ⟨h1, _, h3⟩
    exact ⟨h1, fun ha => h3 a ha a (by simp) rfl⟩
  · rintro ⟨h1, h2⟩
    exact ⟨h1, by simp, fun x hx y hy e => by simp at hy; subst hy; subst e; exact h2 hx⟩
open Classical in
/-- the error of Load -/
noncomputable def ldE (s : Int) (l : List (Int × Int)) : Int :=
  if ¬ (1 ≤ s ∧ s ≤ 4096) then 7 else if ∃ x ∈ l, hbad s x.1 x.2 = true then 7 else if ¬ Dif l then 8 else if ¬ Asc l then 6 else 0
theorem ldE_cases (s : Int) (l : List (Int × Int)) :
    (¬ (1 ≤ s ∧ s ≤ 4096) ∧ ldE s l = 7) ∨ ((1 ≤ s ∧ s ≤ 4096) ∧ (∃ x ∈ l, hbad s x.1 x.2 = true) ∧ ldE s l = 7) ∨ ((1 ≤ s ∧ s ≤ 4096) ∧ (∀ x ∈ l, hbad s x.1 x.2 = false) ∧ ¬ Dif l ∧ ldE s l = 8) ∨
    ((1 ≤ s ∧ s ≤ 4096) ∧ (∀ x ∈ l, hbad s x.1 x.2 = false) ∧ Dif l ∧ ¬ Asc l ∧ ldE s l = 6) ∨ ((1 ≤ s ∧ s ≤ 4096) ∧ (∀ x ∈ l, hbad s x.1 x.2 = false) ∧ Dif l ∧ Asc l ∧ ldE s l = 0) := by
  unfold ldE
  by_cases h1 : 1 ≤ s ∧ s ≤ 4096
  · by_cases h2 : ∃ x ∈ l, hbad s x.1 x.2 = true
    · exact .inr (.inl ⟨h1, h2, by rw [if_neg (by simpa using h1), if_pos h2]⟩)
    · have h2' : ∀ x ∈ l, hbad s x.1 x.2 = false := fun x hx => by
        cases hb : hbad s x.1 x.2 with
        | false => rfl
        | true => exact absurd ⟨x, hx, hb⟩ h2
      by_cases h3 : Dif l
      · by_cases h4 : Asc l
        · exact .inr (.inr (.inr (.inr ⟨h1, h2', h3, h4, by rw [if_neg (by simpa using h1), if_neg h2, if_neg (by simpa using h3), if_neg (by simpa using h4)]⟩)))
        · exact .inr (.inr (.inr (.inl ⟨h1, h2', h3, h4, by rw [if_neg (by simpa using h1), if_neg h2, if_neg (by simpa using h3), if_pos h4]⟩)))
      · exact .inr (.inr (.inl ⟨h1, h2', h3, by rw [if_neg (by simpa using h1), if_neg h2, if_pos h3]⟩))
  · exact .inl ⟨h1, by rw [if_pos h1]⟩
section
variable {W : AW} {lv : Value} {l : List (Int × Int)} {s : Int}
/-- what Load leaves -/
def LoadQ (W : AW) (s : Int) (l : List (Int × Int)) (v : Value) (W' : AW) : Prop :=
  (ldE s l ≠ 0 ∧ v = .tuple #[.pointer none, .int .i64 (ldE s l)] ∧ Le W W') ∨ (ldE s l = 0 ∧ ∃ H st, v = .tuple #[hP H, .int .i64 0] ∧ HSt W' (fun b => W.next ≤ b) H s st ∧ Le W W' ∧ st.es.Perm l ∧ st.n = l.length ∧ st.nx = 1 + (l.length : Int))
theorem hLoad_main (h : HoL W lv l) (hl : l.length ≤ 4000) : Ok (holds_Load omS (.int .i64 s) lv W) fun r => LoadQ W s l r.1 r.2 := by
  have hE := ldE_cases s l
  unfold holds_Load
  by_cases hs : 1 ≤ s ∧ s ≤ 4096
  case neg =>
    have e7 : ldE s l = 7 := by rcases hE with h | h | h | h | h <;> first | exact h.2 | exact absurd h.1 hs
    have d7 : decide ((7 : Int) = 0) = false := rfl
    simp only [SX, new7_ok hs, d7, Ok_some]
    exact .inl ⟨by omega, by rw [e7], .refl _⟩
  obtain ⟨W1, H, q, mh, hm, g0, n1, n2, n3⟩ := hNew_ok (W := W) (In := fun b => W.next ≤ b) hs (fun b hb => hb)
  have nn1 := n3.next
  have le1 : Le W W1 := ⟨nn1, fun b hb => n3.get b hb (by omega)⟩
  generalize hW2 : W1.add (.map [] 0) = W2
  have n2' : W2.next = W1.next + 1 := by rw [← hW2, AW.add_next]
  have l2 : Le W1 W2 := by rw [← hW2]; exact (Le.refl _).add _
  have m2 : MapV W2 W1.next (fun _ => none) 0 := by rw [← hW2]; exact mapV_new
  have d0 : decide ((0 : Int) = 0) = true := rfl
  simp only [SX, n1, d0, mk49, hW2, h.len len39]
  refine Ok_loop l.length (by omega) (fun k R V => R 1 = lv ∧ R 6 = hP H ∧ R 8 = .map (some W1.next) ∧ R 23 = lv ∧ R 24 = .int .i64 (l.length : Int) ∧ R 25 = .int .i64 (k : Int) ∧ Le W1 V ∧ W1.next < V.next ∧ (∃ m n, MapV V W1.next m n ∧ n ≤ k ∧ (n = k ↔ (seatsTo l k).Nodup) ∧ (∀ x, (m x).isSome = true ↔ x ∈ seatsTo l k)) ∧ ∀ j (hj : j < l.length), j < k → hbad s l[j].1 l[j].2 = false)
    (fun r => Le W1 r.2.2 ∧ ((r.1 = .exit 0 ∧ r.2.1 1 = lv ∧ r.2.1 6 = hP H ∧ r.2.1 8 = .map (some W1.next) ∧ W1.next < r.2.2.next ∧ (∃ m n, MapV r.2.2 W1.next m n ∧ n ≤ l.length ∧ (n = l.length ↔ Dif l)) ∧ ∀ x ∈ l, hbad s x.1 x.2 = false) ∨ (r.1 = .ret ∧ r.2.1 4 = .pointer none ∧ r.2.1 5 = .int .i64 7 ∧ ∃ x ∈ l, hbad s x.1 x.2 = true)))
    ⟨rfl, rfl, rfl, rfl, rfl, rfl, l2, by omega, ⟨_, 0, m2, Nat.le_refl _, by simp, fun x => by simp⟩, fun j _ hj => by omega⟩ ?_ ?_ ?_
  · rintro k R V hk ⟨r1, r6, r8, r23, r24, r25, lV, nV, ⟨m, n, hm', hn1, hn2, hn3⟩, hx⟩
    unfold holds_Load_L1
    have t1 : ((k : Int) < (l.length : Int)) := by omega
    have t2 := fun W' => oBin_add (P := Tryz.prog) (W := W') (t := 3) (c := false) (d := true) (a := (k : Int)) (b := 1) (by omega) (by omega)
    obtain ⟨b, o, i1, i2, i3⟩ := HoL.get (h.mono (le1.trans lV)) hk
    obtain ⟨f0, -⟩ := i3 V rfl
    obtain ⟨V2, a1, a2, a3, a4⟩ := boxed V
    have st := st43 l[k] a4
    generalize hV3 : V2.put V.next (.cells [.int .i64 l[k].1, .int .i64 l[k].2]) = V3 at st
    have x3 : V3.get V.next = some (.cells [.int .i64 l[k].1, .int .i64 l[k].2]) := by rw [← hV3]; exact AW.get_put _ _ _
    have n3' : V3.next = V2.next := by rw [← hV3, AW.put_next]
    have l3 : Le V V3 := by rw [← hV3]; exact a2.put (Nat.le_refl _) _
    have hs3 := HS.sh (s := ⟨q, mh, hm, 1, 0, g0⟩) n2 (lV.trans l3)
    have bad := bad_ok hs3 l[k].1 l[k].2
    have m3 : MapV V3 W1.next m n := hm'.keep (l3.get _ nV)
    cases hb : hbad s l[k].1 l[k].2
    · rw [hb] at bad
      obtain ⟨es, c, u1, u2⟩ := mapV_set m3 u49 u3 l[k].1 (.bool true)
      simp only [SX, r6, r8, r23, r24, r25, t1, decide_true, i1, f0, a1, st, Nat.zero_add, ldR (o := 0) (rwOf x3) rfl, ldR (o := 1) (rwOf x3) rfl, bad, u1, t2, Ok_some]
      refine .inl ⟨trivial, r1, r6, r8, r23, r24, by rw [show ((k + 1 : Nat) : Int) = (k : Int) + 1 by omega]; rfl, (lV.trans l3).put (Nat.le_refl _) _, by rw [AW.put_next]; omega, ⟨_, _, u2, ?_, ?_, fun x => ?_⟩, fun j hj hjk => ?_⟩
      · split <;> omega
      · rw [seatsTo_succ hk, nodup_snoc, ← hn2, ← hn3]
        cases hms : (m l[k].1).isSome with
        | false => simp
        | true => simp; omega
      · rw [seatsTo_succ hk, List.mem_append, ← hn3]
        by_cases ex : x = l[k].1
        · simp [ex]
        · simp [ex]
      · by_cases ej : j = k
        · subst ej; exact hb
        · exact hx j hj (by omega)
    · rw [hb] at bad
      simp only [SX, r6, r8, r23, r24, r25, t1, decide_true, i1, f0, a1, st, Nat.zero_add, ldR (o := 0) (rwOf x3) rfl, ldR (o := 1) (rwOf x3) rfl, bad, Ok_some]
      exact .inr ⟨by simp, lV.trans l3, .inr ⟨trivial, rfl, rfl, _, List.getElem_mem hk, hb⟩⟩
  · rintro R V ⟨r1, r6, r8, r23, r24, r25, lV, nV, ⟨m, n, hm', hn1, hn2, hn3⟩, hx⟩
    unfold holds_Load_L1
    have t1 : ¬ ((l.length : Int) < (l.length : Int)) := by omega
    simp only [SX, r24, r25, t1, decide_false, Ok_some]
    refine ⟨by simp, lV, .inl ⟨trivial, r1, r6, r8, nV, ⟨m, n, hm', hn1, ?_⟩, fun x hx' => ?_⟩⟩
    · rw [hn2]; unfold seatsTo Dif; rw [List.take_length]
    · obtain ⟨j, hj, rfl⟩ := List.mem_iff_getElem.1 hx'
      exact hx j hj hj
  rintro ⟨x, R, V⟩ ⟨lV, hx⟩
  simp only at lV hx
  rcases hx with ⟨rfl, r1, r6, r8, nV, ⟨m, n, hm', hn1, hn2⟩, hbs⟩ | ⟨rfl, r4, r5, hb⟩
  case inr =>
    have e7 : ldE s l = 7 := by
      rcases hE with h | h | h | h | h
      · exact h.2
      · exact h.2.2
      all_goals
        obtain ⟨x, hx, hb⟩ := hb
        have := h.2.1 x hx
        rw [hb] at this; cases this
    simp only [SX, r4, r5, Ok_some]
    exact .inl ⟨by omega, by rw [e7], le1.trans lV⟩
  have hV := h.mono (le1.trans lV)
  by_cases hd : Dif l
  case neg =>
    have e8 : ldE s l = 8 := by
      rcases hE with h | h | h | h | h
      · exact absurd hs h.1
      · obtain ⟨x, hx, hb⟩ := h.2.1
        have := hbs x hx
        rw [hb] at this; cases this
      · exact h.2.2.2
      · exact absurd h.2.2.1 hd
      · exact absurd h.2.2.1 hd
    have t1 : ((n : Int) < (l.length : Int)) := by have : n ≠ l.length := fun e => hd (hn2.1 e); omega
    simp only [SX, r8, r1, mapV_len hm' len49, h.len len39, t1, decide_true, Ok_some]
    exact .inl ⟨by omega, by rw [e8], le1.trans lV⟩
  have en : n = l.length := hn2.2 hd
  subst en
  have t1 : ¬ ((l.length : Int) < (l.length : Int)) := by omega
  obtain ⟨bs, s1, s2⟩ := isSorted_ok hV (by omega)
  by_cases ha : Asc l
  case neg =>
    have e6 : ldE s l = 6 := by
      rcases hE with h | h | h | h | h
      · exact absurd hs h.1
      · obtain ⟨x, hx, hb⟩ := h.2.1
        have := hbs x hx
        rw [hb] at this; cases this
      · exact absurd hd h.2.2.1
      · exact h.2.2.2.2
      · exact absurd h.2.2.2.1 ha
    have eb : bs = false := by cases bs with | false => rfl | true => exact absurd (s2.1 rfl) ha
    subst eb
    simp only [SX, r8, r1, mapV_len hm' len49, h.len len39, t1, decide_false, s1, Bool.not_false, Ok_some]
    exact .inl ⟨by omega, by rw [e6], le1.trans lV⟩
  have e0 : ldE s l = 0 := by
    rcases hE with h | h | h | h | h
    · exact absurd hs h.1
    · obtain ⟨x, hx, hb⟩ := h.2.1
      have := hbs x hx
      rw [hb] at this; cases this
    · exact absurd hd h.2.2.1
    · exact absurd ha h.2.2.2.1
    · exact h.2.2.2.2
  obtain rfl : bs = true := s2.2 ha
  simp only [SX, r8, r1, mapV_len hm' len49, h.len len39, t1, decide_false, s1, Bool.not_true]
  have hsV := HS.sh (s := ⟨q, mh, hm, 1, 0, g0⟩) n2 lV
  refine Ok_loop l.length (by omega) (fun k R V' => R 6 = hP H ∧ R 49 = lv ∧ R 50 = .int .i64 (l.length : Int) ∧ R 51 = .int .i64 (k : Int) ∧ Gr V V' (Sh (fun b => W.next ≤ b) W1 V) ∧ ∃ g, HS V' (Sh (fun b => W.next ≤ b) W1 V) H q mh hm s (1 + (k : Int)) k g ∧ (ents k g).Perm (l.take k))
    (fun r => r.1 = .exit 3 ∧ r.2.1 6 = hP H ∧ Gr V r.2.2 (Sh (fun b => W.next ≤ b) W1 V) ∧ ∃ g, HS r.2.2 (Sh (fun b => W.next ≤ b) W1 V) H q mh hm s (1 + (l.length : Int)) l.length g ∧ (ents l.length g).Perm l)
    ⟨r6, rfl, rfl, rfl, .refl _ _, g0, hsV, by rw [List.take_zero]; exact .refl _⟩ ?_ ?_ ?_
  · rintro k R V' hk ⟨r6, r49, r50, r51, gV, g, hg, hp⟩
    unfold holds_Load_L2
    have t1 : ((k : Int) < (l.length : Int)) := by omega
    have t2 := fun W' => oBin_add (P := Tryz.prog) (W := W') (t := 3) (c := false) (d := true) (a := (k : Int)) (b := 1) (by omega) (by omega)
    have nV' := gV.next
    have nVV := lV.next
    obtain ⟨b, o, i1, i2, i3⟩ := HoL.get h hk
    obtain ⟨f0, -⟩ := i3 V' (by
      rw [gV.get b (by omega) fun hh => ?_, lV.get b (by omega), le1.get b i2]
      rcases hh with hh | hh
      · exact absurd hh.1 (by omega)
      · omega)
    obtain ⟨V2, a1, a2, a3, a4⟩ := boxed V'
    have st := st43 l[k] a4
    generalize hV3 : V2.put V'.next (.cells [.int .i64 l[k].1, .int .i64 l[k].2]) = V3 at st
    have x3 : V3.get V'.next = some (.cells [.int .i64 l[k].1, .int .i64 l[k].2]) := by rw [← hV3]; exact AW.get_put _ _ _
    have n3' : V3.next = V2.next := by rw [← hV3, AW.put_next]
    have l3 : Le V' V3 := by rw [← hV3]; exact a2.put (Nat.le_refl _) _
    have hg3 : HS V3 (Sh (fun b => W.next ≤ b) W1 V) H q mh hm s (1 + (k : Int)) k g := hg.keep l3.next (fun b hb _ => l3.get b hb) fun b _ hi => hi
    have hne : ∀ i, i < k → (g i).v.1 ≠ l[k].1 := fun i hi => dif_lt hd hk (hp.mem_iff.1 (ents_mem.2 ⟨i, hi, rfl⟩))
    obtain ⟨V4, g4, p1, p2, p3, p4⟩ := hPut_ok hg3 (hbs _ (List.getElem_mem hk)) hne (by omega) (by omega) (fun b hb => .inr (by omega))
    have d0 : decide ((0 : Int) = 0) = true := rfl
    simp only [SX, r6, r49, r50, r51, t1, decide_true, i1, f0, a1, st, Nat.zero_add, ldR (o := 0) (rwOf x3) rfl, ldR (o := 1) (rwOf x3) rfl, p1, d0, t2, Ok_some]
    refine .inl ⟨trivial, r6, r49, r50, by rw [show ((k + 1 : Nat) : Int) = (k : Int) + 1 by omega]; rfl, (gV.trans (Gr.le' l3)).trans p4, g4, ?_, ?_⟩
    · rw [show (1 : Int) + ((k + 1 : Nat) : Int) = 1 + (k : Int) + 1 by omega]; exact p2
    · rw [List.take_succ_eq_append_getElem hk]
      exact p3.trans ((hp.cons _).trans (List.perm_append_singleton _ _).symm)
  · rintro R V' ⟨r6, r49, r50, r51, gV, g, hg, hp⟩
    unfold holds_Load_L2
    have t1 : ¬ ((l.length : Int) < (l.length : Int)) := by omega
    simp only [SX, r50, r51, t1, decide_false, Ok_some]
    exact ⟨by simp, trivial, r6, gV, g, hg, by rwa [List.take_length] at hp⟩
  · rintro ⟨x, R, V'⟩ ⟨rfl, r6, gV, g, hg, hp⟩
    simp only at r6 gV hg
    simp only [SX, r6, Ok_some]
    have nVV := lV.next
    have nV' := gV.next
    refine .inr ⟨e0, H, ⟨q, mh, hm, _, _, g⟩, rfl, hg.keep (Nat.le_refl _) (fun _ _ _ => rfl) (fun b _ hi => ?_), ⟨by omega, fun b hb => ?_⟩, hp, rfl, rfl⟩
    · rcases hi with hi | hi
      · exact hi.1
      · show W.next ≤ b; omega
    · rw [gV.get b (by omega) fun hh => ?_, lV.get b (by omega), le1.get b hb]
      rcases hh with hh | hh
      · exact absurd hh.1 (by omega)
      · omega
theorem hLoad_ok (h : HoL W lv l) (hl : l.length ≤ 4000) : ∃ v W', omS (.func (.func 5) #[] #[]) [.int .i64 s, lv] W = some (v, W') ∧ LoadQ W s l v W' := by
  refine om_q (hLoad_main h hl) holds_Load_om fun v W' h hle hp => ?_
  rcases h with ⟨h1, h2, -⟩ | ⟨h1, H, st, rfl, -⟩
  · exact .inl ⟨h1, h2, .refl _⟩
  · exact absurd hp (by simp [plain, plain1, scalar])
end
end Go.Proofs.YtkpgmabebjmahaaGreat.Ho
/- The specification's Load. -/
namespace Go.Proofs.YtkpgmabebjmahaaGreat.Ho
open Go Go.Eng Go.Hp
set_option linter.unusedVariables false
set_option linter.unusedSimpArgs false
set_option linter.unusedSectionVars false
set_option maxRecDepth 100000
section
variable {W : AW} {lv : Value} {l : List (Int × Int)} {s : Int}
def RLoadQ (W : AW) (s : Int) (l : List (Int × Int)) (v : Value) (W' : AW) : Prop :=
  (ldE s l ≠ 0 ∧ v = .tuple #[rV 0 (.slice none 0 0), .int .i64 (ldE s l)] ∧ Le W W') ∨ (ldE s l = 0 ∧ ∃ ev, v = .tuple #[rV s ev, .int .i64 0] ∧ Le W W' ∧ RE W.next W' ev l)
theorem rLoad_main (h : HoL W lv l) (hl : l.length ≤ 4000) : Ok (ref17_Load omS (.int .i64 s) lv W) fun r => RLoadQ W s l r.1 r.2 := by
  have hE := ldE_cases s l
  unfold ref17_Load
  obtain ⟨V, a1, a2, a3, a4⟩ := nw91 W
  have d7 : decide ((7 : Int) = 0) = false := rfl
  have d0 : decide ((0 : Int) = 0) = true := rfl
  have z0 : Eng.isSl (.slice none 0 0) := .inr ⟨0, 0, rfl⟩
  obtain ⟨V2, b1, b2, b3, b4⟩ := nw91 V
  have lV2 := a2.trans b2
  by_cases hs : 1 ≤ s ∧ s ≤ 4096
  case neg =>
    have e7 : ldE s l = 7 := by rcases hE with h | h | h | h | h <;> first | exact h.2 | exact absurd h.1 hs
    have st := st91 (n := 0) b4 z0
    have y2 : (V2.put V.next (.cells [.int .i64 0, .slice none 0 0])).get W.next = some (.cells [.int .i64 0, .slice none 0 0]) := by rw [AW.get_put_ne _ _ (by omega), b2.get _ (by omega)]; exact a4
    have st2 := st91 (n := 0) y2 z0
    have lx := ld91 (W := (V2.put V.next (.cells [.int .i64 0, .slice none 0 0])).put W.next (.cells [.int .i64 0, .slice none 0 0])) (AW.get_put _ _ _)
    simp only [SX, a1, rNew7_ok hs, b1, st, d7, bd91_0, st2, oRes_L1n, oL91, lx, Option.bind_some, Ok_some]
    exact .inl ⟨by omega, by rw [e7], (lV2.put (by omega) _).put (Nat.le_refl _) _⟩
  have st := st91 (n := s) b4 z0
  generalize hV3 : V2.put V.next (.cells [.int .i64 s, .slice none 0 0]) = V3 at st
  have n3 : V3.next = V2.next := by rw [← hV3, AW.put_next]
  have l3 : Le W V3 := by rw [← hV3]; exact lV2.put (by omega) _
  have x3 : V3.get V.next = some (.cells [.int .i64 s, .slice none 0 0]) := by rw [← hV3]; exact AW.get_put _ _ _
  have y3 : V3.get W.next = some (.cells [.int .i64 0, .slice none 0 0]) := by rw [← hV3, AW.get_put_ne _ _ (by omega), b2.get _ (by omega)]; exact a4
  have h3 := h.mono l3
  simp only [SX, a1, rNew_ok hs, b1, st, d0]
  -- an error found: the answer's box is cleared
  have ste := st91 (n := 0) y3 z0
  have lxe := ld91 (W := V3.put W.next (.cells [.int .i64 0, .slice none 0 0])) (AW.get_put _ _ _)
  have lee : Le W (V3.put W.next (.cells [.int .i64 0, .slice none 0 0])) := l3.put (Nat.le_refl _) _
  refine Ok_loop l.length (by omega) (fun k R V' => V' = V3 ∧ R 1 = lv ∧ R 4 = .pointer (some ⟨W.next, 0, none⟩) ∧ R 6 = .pointer (some ⟨V.next, 0, none⟩) ∧ R 8 = .int .i64 (k : Int) ∧ ∀ j (hj : j < l.length), j < k → hbad s l[j].1 l[j].2 = false)
    (fun r => (r.1 = .exit 0 ∧ r.2.2 = V3 ∧ r.2.1 1 = lv ∧ r.2.1 4 = .pointer (some ⟨W.next, 0, none⟩) ∧ r.2.1 6 = .pointer (some ⟨V.next, 0, none⟩) ∧ ∀ x ∈ l, hbad s x.1 x.2 = false) ∨ (r.1 = .ret ∧ r.2.2 = V3.put W.next (.cells [.int .i64 0, .slice none 0 0]) ∧ r.2.1 4 = .pointer (some ⟨W.next, 0, none⟩) ∧ r.2.1 5 = .int .i64 7 ∧ ∃ x ∈ l, hbad s x.1 x.2 = true))
    ⟨rfl, rfl, rfl, rfl, rfl, fun j _ hj => by omega⟩ ?_ ?_ ?_
  · rintro k R V' hk ⟨rfl, r1, r4, r6, r8, hx⟩
    unfold ref17_Load_L1
    have t1 : ((k : Int) < (l.length : Int)) := by omega
    have t2 := fun W' => oBin_add (P := Tryz.prog) (W := W') (t := 3) (c := false) (d := true) (a := (k : Int)) (b := 1) (by omega) (by omega)
    obtain ⟨b, o, i1, i2, i3⟩ := HoL.get h3 hk
    obtain ⟨-, f1, f2⟩ := i3 V' rfl
    have ak := asked_ok (seats := s) (ev := .slice none 0 0) l[k].1 l[k].2 V'
    cases hb : hbad s l[k].1 l[k].2
    · rw [hb] at ak
      simp only [SX, r1, r4, r6, r8, h3.len len39, t1, decide_true, ld91 x3, i1, Nat.add_zero, f1, f2, ak, if_neg Bool.false_ne_true, d0, t2, Ok_some]
      refine .inl ⟨trivial, trivial, r1, r4, r6, by rw [show ((k + 1 : Nat) : Int) = (k : Int) + 1 by omega]; rfl, fun j hj hjk => ?_⟩
      by_cases ej : j = k
      · subst ej; exact hb
      · exact hx j hj (by omega)
    · rw [hb] at ak
      simp only [SX, r1, r4, r6, r8, h3.len len39, t1, decide_true, ld91 x3, i1, Nat.add_zero, f1, f2, ak, if_true, d7, bd91_0, ste, Ok_some]
      exact .inr ⟨by simp, .inr ⟨trivial, trivial, r4, rfl, _, List.getElem_mem hk, hb⟩⟩
  · rintro R V' ⟨rfl, r1, r4, r6, r8, hx⟩
    unfold ref17_Load_L1
    have t1 : ¬ ((l.length : Int) < (l.length : Int)) := by omega
    simp only [SX, r1, r8, h3.len len39, t1, decide_false, Ok_some]
    refine ⟨by simp, .inl ⟨trivial, trivial, r1, r4, r6, fun x hx' => ?_⟩⟩
    obtain ⟨j, hj, rfl⟩ := List.mem_iff_getElem.1 hx'
    exact hx j hj hj
  rintro ⟨x, R, V'⟩ hx
  simp only at hx
  rcases hx with ⟨rfl, rfl, r1, r4, r6, hbs⟩ | ⟨rfl, rfl, r4, r5, hb⟩
  case inr =>
    have e7 : ldE s l = 7 := by
      rcases hE with h | h | h | h | h
      · exact h.2
      · exact h.2.2
      all_goals
        obtain ⟨x, hx, hb⟩ := hb
        have := h.2.1 x hx
        rw [hb] at this; cases this
    simp only [SX, r4, r5, oRes_L1n, oL91, lxe, Option.bind_some, Ok_some]
    exact .inl ⟨by omega, by rw [e7], lee⟩
  simp only [SX]
  -- twice
  refine Ok_loop l.length (by omega) (fun k R V4 => V4 = V' ∧ R 1 = lv ∧ R 4 = .pointer (some ⟨W.next, 0, none⟩) ∧ R 6 = .pointer (some ⟨V.next, 0, none⟩) ∧ R 9 = .int .i64 (k : Int) ∧ ∀ i j (hj : j < l.length) (hij : i < j), j < k → ¬ l[i].1 = l[j].1)
    (fun r => (r.1 = .exit 2 ∧ r.2.2 = V' ∧ r.2.1 1 = lv ∧ r.2.1 4 = .pointer (some ⟨W.next, 0, none⟩) ∧ r.2.1 6 = .pointer (some ⟨V.next, 0, none⟩) ∧ Dif l) ∨ (r.1 = .ret ∧ r.2.2 = V'.put W.next (.cells [.int .i64 0, .slice none 0 0]) ∧ r.2.1 4 = .pointer (some ⟨W.next, 0, none⟩) ∧ r.2.1 5 = .int .i64 8 ∧ ¬ Dif l))
    ⟨rfl, r1, r4, r6, rfl, fun i j _ _ hj => by omega⟩ ?_ ?_ ?_
  · rintro k R V4 hk ⟨rfl, r1, r4, r6, r9, hx⟩
    unfold ref17_Load_L2
    have t1 : ((k : Int) < (l.length : Int)) := by omega
    have t2 := fun W' => oBin_add (P := Tryz.prog) (W := W') (t := 3) (c := false) (d := true) (a := (k : Int)) (b := 1) (by omega) (by omega)
    obtain ⟨b, o, i1, i2, i3⟩ := HoL.get h3 hk
    obtain ⟨-, f1, -⟩ := i3 V4 rfl
    simp only [SX, r1, r9, h3.len len39, t1, decide_true]
    refine Ok_loop k (by omega) (fun j R V5 => V5 = V4 ∧ R 1 = lv ∧ R 4 = .pointer (some ⟨W.next, 0, none⟩) ∧ R 6 = .pointer (some ⟨V.next, 0, none⟩) ∧ R 9 = .int .i64 (k : Int) ∧ R 10 = .int .i64 (j : Int) ∧ ∀ i (hi : i < l.length), i < j → ¬ l[i].1 = l[k].1)
      (fun r => (r.1 = .exit 4 ∧ r.2.2 = V4 ∧ r.2.1 1 = lv ∧ r.2.1 4 = .pointer (some ⟨W.next, 0, none⟩) ∧ r.2.1 6 = .pointer (some ⟨V.next, 0, none⟩) ∧ r.2.1 9 = .int .i64 (k : Int) ∧ ∀ i (hi : i < l.length), i < k → ¬ l[i].1 = l[k].1) ∨ (r.1 = .ret ∧ r.2.2 = V4.put W.next (.cells [.int .i64 0, .slice none 0 0]) ∧ r.2.1 4 = .pointer (some ⟨W.next, 0, none⟩) ∧ r.2.1 5 = .int .i64 8 ∧ ∃ i, ∃ hi : i < k, l[i].1 = l[k].1))
      ⟨rfl, r1, r4, r6, r9, rfl, fun i _ hi => by omega⟩ ?_ ?_ ?_
    · rintro j R V5 hj ⟨rfl, r1, r4, r6, r9, r10, hy⟩
      unfold ref17_Load_L2_L3
      have u1 : ((j : Int) < (k : Int)) := by omega
      have u2 := fun W' => oBin_add (P := Tryz.prog) (W := W') (t := 3) (c := false) (d := true) (a := (j : Int)) (b := 1) (by omega) (by omega)
      obtain ⟨b', o', j1, j2, j3⟩ := HoL.get h3 (show j < l.length by omega)
      obtain ⟨-, g1, -⟩ := j3 V5 rfl
      by_cases e : l[j].1 = l[k].1
      · have e' : decide (l[j].1 = l[k].1) = true := decide_eq_true e
        simp only [SX, r1, r4, r9, r10, u1, decide_true, j1, i1, Nat.add_zero, g1, f1, e', bd91_0, ste, Ok_some]
        exact .inr ⟨by simp, .inr ⟨trivial, trivial, r4, rfl, j, hj, e⟩⟩
      · have e' : decide (l[j].1 = l[k].1) = false := decide_eq_false e
        simp only [SX, r1, r4, r9, r10, u1, decide_true, j1, i1, Nat.add_zero, g1, f1, e', u2, Ok_some]
        refine .inl ⟨trivial, trivial, r1, r4, r6, r9, by rw [show ((j + 1 : Nat) : Int) = (j : Int) + 1 by omega]; rfl, fun i hi hij => ?_⟩
        by_cases ej : i = j
        · subst ej; exact e
        · exact hy i hi (by omega)
    · rintro R V5 ⟨rfl, r1, r4, r6, r9, r10, hy⟩
      unfold ref17_Load_L2_L3
      have u1 : ¬ ((k : Int) < (k : Int)) := by omega
      simp only [SX, r9, r10, u1, decide_false, Ok_some]
      exact ⟨by simp, .inl ⟨trivial, trivial, r1, r4, r6, r9, hy⟩⟩
    · rintro ⟨x, R, V5⟩ hy
      simp only at hy
      rcases hy with ⟨rfl, rfl, r1, r4, r6, r9, hy⟩ | ⟨rfl, rfl, r4, r5, i, hi, e⟩
      · simp only [SX, r9, t2, Ok_some]
        refine .inl ⟨trivial, trivial, r1, r4, r6, by rw [show ((k + 1 : Nat) : Int) = (k : Int) + 1 by omega]; rfl, fun i j hj hij hjk => ?_⟩
        by_cases ej : j = k
        · subst ej; exact hy i (by omega) hij
        · exact hx i j hj hij (by omega)
      · simp only [SX, Ok_some]
        refine .inr ⟨by simp, .inr ⟨trivial, trivial, r4, r5, fun hd => ?_⟩⟩
        exact dif_lt hd hk (x := l[i]) (List.mem_iff_getElem.2 ⟨i, by rw [List.length_take]; omega, List.getElem_take⟩) e
  · rintro R V4 ⟨rfl, r1, r4, r6, r9, hx⟩
    unfold ref17_Load_L2
    have t1 : ¬ ((l.length : Int) < (l.length : Int)) := by omega
    simp only [SX, r1, r9, h3.len len39, t1, decide_false, Ok_some]
    refine ⟨by simp, .inl ⟨trivial, trivial, r1, r4, r6, ?_⟩⟩
    unfold Dif
    refine List.pairwise_iff_getElem.2 fun i j hi hj hij => ?_
    rw [List.length_map] at hi hj
    rw [List.getElem_map, List.getElem_map]
    exact hx i j hj hij hj
  rintro ⟨x, R, V4⟩ hx
  simp only at hx
  rcases hx with ⟨rfl, rfl, r1, r4, r6, hd⟩ | ⟨rfl, rfl, r4, r5, hd⟩
  case inr =>
    have e8 : ldE s l = 8 := by
      rcases hE with h | h | h | h | h
      · exact absurd hs h.1
      · obtain ⟨x, hx, hb⟩ := h.2.1
        have := hbs x hx
        rw [hb] at this; cases this
      · exact h.2.2.2
      · exact absurd h.2.2.1 hd
      · exact absurd h.2.2.1 hd
    simp only [SX, r4, r5, oRes_L1n, oL91, lxe, Option.bind_some, Ok_some]
    exact .inl ⟨by omega, by rw [e8], lee⟩
  simp only [SX]
  -- ascending
  refine Ok_loop (l.length - 1) (by omega) (fun k R V5 => V5 = V4 ∧ R 1 = lv ∧ R 4 = .pointer (some ⟨W.next, 0, none⟩) ∧ R 6 = .pointer (some ⟨V.next, 0, none⟩) ∧ R 11 = .int .i64 ((k + 1 : Nat) : Int) ∧ ∀ j (hj : j + 1 < l.length), j < k → l[j].1 ≤ l[j + 1].1)
    (fun r => (r.1 = .exit 6 ∧ r.2.2 = V4 ∧ r.2.1 1 = lv ∧ r.2.1 4 = .pointer (some ⟨W.next, 0, none⟩) ∧ r.2.1 6 = .pointer (some ⟨V.next, 0, none⟩) ∧ Asc l) ∨ (r.1 = .ret ∧ r.2.2 = V4.put W.next (.cells [.int .i64 0, .slice none 0 0]) ∧ r.2.1 4 = .pointer (some ⟨W.next, 0, none⟩) ∧ r.2.1 5 = .int .i64 6 ∧ ¬ Asc l))
    ⟨rfl, r1, r4, r6, rfl, fun j _ hj => by omega⟩ ?_ ?_ ?_
  · rintro k R V5 hk ⟨rfl, r1, r4, r6, r11, hx⟩
    unfold ref17_Load_L4
    have t1 : (((k + 1 : Nat) : Int) < (l.length : Int)) := by omega
    have t2 := fun W' => oBin_add (P := Tryz.prog) (W := W') (t := 3) (c := false) (d := true) (a := ((k + 1 : Nat) : Int)) (b := 1) (by omega) (by omega)
    have t3 : ∀ W', oBin Tryz.prog .sub 3 false true (.int .i64 ((k + 1 : Nat) : Int)) (.int .i64 1) W' = some (.int .i64 (k : Int), W') := fun W' => by
      rw [oBin_sub (by omega) (by omega)]; congr 3; omega
    obtain ⟨b, o, i1, i2, i3⟩ := HoL.get h3 (show k + 1 < l.length by omega)
    obtain ⟨-, f1, -⟩ := i3 V5 rfl
    obtain ⟨b', o', j1, j2, j3⟩ := HoL.get h3 (show k < l.length by omega)
    obtain ⟨-, g1, -⟩ := j3 V5 rfl
    by_cases e : l[k + 1].1 < l[k].1
    · simp only [SX, r1, r4, r11, h3.len len39, t1, decide_true, i1, Nat.add_zero, f1, t3, j1, g1, e, bd91_0, ste, Ok_some]
      refine .inr ⟨by simp, .inr ⟨trivial, trivial, r4, rfl, fun ha => ?_⟩⟩
      have := asc_at ha (show k + 1 < l.length by omega)
      omega
    · simp only [SX, r1, r4, r11, h3.len len39, t1, decide_true, i1, Nat.add_zero, f1, t3, j1, g1, e, decide_false, t2, Ok_some]
      refine .inl ⟨trivial, trivial, r1, r4, r6, by rw [show ((k + 1 + 1 : Nat) : Int) = ((k + 1 : Nat) : Int) + 1 by omega]; rfl, fun j hj hjk => ?_⟩
      by_cases ej : j = k
      · subst ej; omega
      · exact hx j hj (by omega)
  · rintro R V5 ⟨rfl, r1, r4, r6, r11, hx⟩
    unfold ref17_Load_L4
    have t1 : ¬ (((l.length - 1 + 1 : Nat) : Int) < (l.length : Int)) := by omega
    simp only [SX, r1, r11, h3.len len39, t1, decide_false, Ok_some]
    exact ⟨by simp, .inl ⟨trivial, trivial, r1, r4, r6, asc_of fun i hi => hx i hi (by omega)⟩⟩
  rintro ⟨x, R, V5⟩ hx
  simp only at hx
  rcases hx with ⟨rfl, rfl, r1, r4, r6, ha⟩ | ⟨rfl, rfl, r4, r5, ha⟩
  case inr =>
    have e6 : ldE s l = 6 := by
      rcases hE with h | h | h | h | h
      · exact absurd hs h.1
      · obtain ⟨x, hx, hb⟩ := h.2.1
        have := hbs x hx
        rw [hb] at this; cases this
      · exact absurd hd h.2.2.1
      · exact h.2.2.2.2
      · exact absurd h.2.2.2.1 ha
    simp only [SX, r4, r5, oRes_L1n, oL91, lxe, Option.bind_some, Ok_some]
    exact .inl ⟨by omega, by rw [e6], lee⟩
  have e0 : ldE s l = 0 := by
    rcases hE with h | h | h | h | h
    · exact absurd hs h.1
    · obtain ⟨x, hx, hb⟩ := h.2.1
      have := hbs x hx
      rw [hb] at this; cases this
    · exact absurd hd h.2.2.1
    · exact absurd ha h.2.2.2.1
    · exact h.2.2.2.2
  generalize hV6 : V5.add (.cells []) = V6
  have n6 : V6.next = V5.next + 1 := by rw [← hV6, AW.add_next]
  have l6 : Le V5 V6 := by rw [← hV6]; exact (Le.refl _).add _
  obtain ⟨v7, V7, p1, p2, p3, p4⟩ := (EL.nil' V5.next V6 2 hoC V5.next).app ap39 hoC_len hoC_one (ho_rd (h3.mono l6)) (by simp; omega) (by simp; omega) (by omega)
  rw [List.nil_append] at p2
  have nV := a3
  have x7 : V7.get V.next = some (.cells [.int .i64 s, .slice none 0 0]) := by rw [p4 _ (by omega), l6.get _ (by omega)]; exact x3
  have y7 : V7.get W.next = some (.cells [.int .i64 0, .slice none 0 0]) := by rw [p4 _ (by omega), l6.get _ (by omega)]; exact y3
  have hsl := p2.isSl
  have s8 := stA (v := v7) (o := 1) x7 (by simp) (by rcases hsl with ⟨b, l, c, rfl⟩ | ⟨l, c, rfl⟩ <;> rfl) hsl.one
  rw [show ([.int .i64 s, .slice none 0 0] : List Value).set 1 v7 = [.int .i64 s, v7] from rfl] at s8
  generalize hV8 : V7.put V.next (.cells [.int .i64 s, v7]) = V8 at s8
  have x8 : V8.get V.next = some (.cells [.int .i64 s, v7]) := by rw [← hV8]; exact AW.get_put _ _ _
  have y8 : V8.get W.next = some (.cells [.int .i64 0, .slice none 0 0]) := by rw [← hV8, AW.get_put_ne _ _ (by omega)]; exact y7
  have n8 : V8.next = V7.next := by rw [← hV8, AW.put_next]
  have s9 := st91 (n := s) y8 hsl
  have lx := ld91 (W := V8.put W.next (.cells [.int .i64 s, v7])) (AW.get_put _ _ _)
  simp only [SX, r1, r4, r6, bs39_0, hV6, p1, Nat.zero_add, s8, ld91 x8, s9, oRes_L1n, oL91, lx, Option.bind_some, Ok_some]
  refine .inr ⟨e0, v7, rfl, ⟨by rw [AW.put_next]; have := l3.next; omega, fun b hb => ?_⟩, ?_⟩
  · have := l3.next
    rw [AW.get_put_ne _ _ (by omega), ← hV8, AW.get_put_ne _ _ (by omega), p4 b (by omega), l6.get b (by omega), l3.get b hb]
  · refine (p2.keep (by rw [AW.put_next]; omega) fun b h1 h2 => ?_).low (by omega)
    rw [AW.get_put_ne _ _ (by omega), ← hV8, AW.get_put_ne _ _ (by omega)]
theorem rLoad_ok (h : HoL W lv l) (hl : l.length ≤ 4000) : ∃ v W', omS (.func (.func 6) #[] #[]) [.int .i64 s, lv] W = some (v, W') ∧ RLoadQ W s l v W' := by
  refine om_q (rLoad_main h hl) ref17_Load_om fun v W' h hle hp => ?_
  rcases h with ⟨h1, h2, -⟩ | ⟨h1, ev, rfl, -, h3⟩
  · exact .inl ⟨h1, h2, .refl _⟩
  · exact .inr ⟨h1, ev, rfl, .refl _, h3.anew (pl_rV2 hp)⟩
end
end Go.Proofs.YtkpgmabebjmahaaGreat.Ho
/- HoldsLoads: it answers true. -/
namespace Go.Proofs.YtkpgmabebjmahaaGreat.Ho
open Go Go.Eng Go.Hp
set_option linter.unusedVariables false
set_option linter.unusedSimpArgs false
set_option linter.unusedSectionVars false
set_option maxRecDepth 100000
theorem nEq35 (a : Addr) (c d : Bool) (W : AW) : oBin Tryz.prog .neq 25 c d (.pointer (some a)) (.pointer none) W = some (.bool true, W) := by
  unfold oBin aBin aEql; simp only [u35]; rfl
/-- the state at the end, saved and loaded again -/
theorem again_ok {In : Nat → Prop} {V : AW} {H : Nat} {s : St} {seats : Int} {ev : Value} {E : List (Int × Int)} (J : JS In V H s seats ev E) (hn : s.n ≤ 4000) :
    ∃ v1 V1 H2 V2 v3 V3 v4 V4, omS (.func (.func 8) #[] #[]) [hP H] V = some (v1, V1) ∧ omS (.func (.func 5) #[] #[]) [.int .i64 seats, v1] V1 = some (.tuple #[hP H2, .int .i64 0], V2) ∧ omS (.func (.func 8) #[] #[]) [hP H2] V2 = some (v3, V3) ∧ omS (.func (.func 8) #[] #[]) [hP H] V3 = some (v4, V4) ∧
      omS (.func (.func 7) #[] #[]) [v3, v4] V4 = some (.bool true, V4) ∧ Le V V4 := by
  obtain ⟨V1, v1, l1, s1, s2, s3, s4, s5⟩ := hSave_ok J.hs (by omega)
  have hl1 : l1.length = s.n := by rw [s4.length_eq, ents_len]
  have hD : Dif l1 := J.hs.dif.perm s4
  have hB : ∀ x ∈ l1, hbad seats x.1 x.2 = false := fun x hx => by
    obtain ⟨i, hi, rfl⟩ := ents_mem.1 (s4.mem_iff.1 hx)
    have := J.hs.ok i hi
    unfold hbad
    simp only [Bool.or_eq_false_iff, decide_eq_false_iff_not]
    omega
  have e0 : ldE seats l1 = 0 := by
    rcases ldE_cases seats l1 with h | h | h | h | h
    · exact absurd J.hs.sz h.1
    · obtain ⟨x, hx, hb⟩ := h.2.1
      have := hB x hx
      rw [hb] at this; cases this
    · exact absurd hD h.2.2.1
    · exact absurd s5 h.2.2.2.1
    · exact h.2.2.2.2
  obtain ⟨v2, V2, t1, t2⟩ := hLoad_ok (s := seats) (lst_ho s3) (by omega)
  rcases t2 with ⟨h, -⟩ | ⟨-, H2, st, rfl, t3, t4, t5, t6, t7⟩
  · exact absurd e0 h
  obtain ⟨V3, v3, l3, u1, u2, u3, u4, u5⟩ := hSave_ok t3 (by omega)
  have hs3 := HS.sh J.hs ((s2.trans t4).trans u2)
  obtain ⟨V4, v4, l4, w1, w2, w3, w4, w5⟩ := hSave_ok hs3 (by omega)
  have hp : l3.Perm l4 := (u4.trans t5).trans (s4.trans w4.symm)
  have he : l3 = l4 := seat_uniq hp u5 w5 (hD.perm (w4.trans s4.symm))
  have hlen : l3.length ≤ 10000 := by rw [(u4.trans t5).length_eq, hl1]; omega
  refine ⟨v1, V1, H2, V2, v3, V3, v4, V4, s1, t1, u1, w1, ?_, ((s2.trans t4).trans u2).trans w2⟩
  rw [Same17_ok ((lst_ho u3).mono w2) (lst_ho w3) hlen, decide_eq_true he]
theorem loads_ok {lv xv : Value} {l : List (Int × Int)} {x : List (Int × Int × Int)} {W : AW} {seats : Int} (h : HoL W lv l) (hx : Cas W xv x) : omS (.func (.func 3) #[] #[]) [.int .i64 seats, lv, xv] W = some (.bool true, W) := by
  refine om_drop rfl ?_ law17_HoldsLoads_om
  unfold law17_HoldsLoads
  by_cases hl1 : 100 < l.length
  · have e1 : (100 : Int) < (l.length : Int) := by omega
    simp only [SX, h.len len39, e1, decide_true, awake4_ok, Ok_some]
    exact ⟨trivial, .refl _⟩
  have e1 : ¬ (100 : Int) < (l.length : Int) := by omega
  by_cases hx1 : 50 < x.length
  · have e2 : (50 : Int) < (x.length : Int) := by omega
    simp only [SX, h.len len39, e1, hx.len len86, e2, decide_true, decide_false, awake4_ok, Ok_some]
    exact ⟨trivial, .refl _⟩
  have e2 : ¬ (50 : Int) < (x.length : Int) := by omega
  obtain ⟨v1, W1, p1, p2⟩ := hLoad_ok (s := seats) h (by omega)
  have lW1 : Le W W1 := by rcases p2 with p | ⟨-, H, st, -, -, p, -⟩; exact p.2.2; exact p
  obtain ⟨v2, W2, q1, q2⟩ := rLoad_ok (s := seats) (h.mono lW1) (by omega)
  rcases p2 with ⟨h0, rfl, -⟩ | ⟨h0, H, st, rfl, p3, -, p4, p5, p6⟩
  · rcases q2 with ⟨-, rfl, q3⟩ | ⟨h0', -⟩
    case inr => exact absurd h0' h0
    obtain ⟨V5, V6, a1, a2, a3, a4, a5⟩ := box91 (ev' := .slice none 0 0) 0 W2 (.inr ⟨0, 0, rfl⟩)
    generalize ldE seats l = e at *
    have dee : decide (e = e) = true := decide_eq_true rfl
    have de0 : decide (e = 0) = false := decide_eq_false h0
    have np : ∀ V, oBin Tryz.prog .eql 25 false true (.pointer none) (.pointer none) V = some (.bool true, V) := fun V => by
      unfold oBin aBin aEql; simp only [u35]; rfl
    have bt : ∀ W', oBin Tryz.prog .neq 4 false false (.bool true) (.bool true) W' = some (.bool false, W') := fun W' => oBin_bools_neq (by kernel_rfl)
    simp only [SX, h.len len39, e1, hx.len len86, e2, decide_false, p1, q1, a1, a2, dee, de0, np, bt, awake4_ok, Ok_some]
    exact ⟨trivial, (lW1.trans q3).trans a3⟩
  rcases q2 with ⟨h0', -⟩ | ⟨-, ev, rfl, q3, q4⟩
  · exact absurd h0 h0'
  obtain ⟨W3, W4, a1, a2, a3, a4, a5⟩ := box91 (ev' := ev) seats W2 q4.isSl
  have n1 := lW1.next
  have n2 := q3.next
  have d00 : decide ((0 : Int) = 0) = true := rfl
  have bt : ∀ W', oBin Tryz.prog .neq 4 false false (.bool false) (.bool false) W' = some (.bool false, W') := fun W' => oBin_bools_neq (by kernel_rfl)
  have hAsc : Asc l := by
    rcases ldE_cases seats l with h | h | h | h | h
    all_goals first
      | exact h.2.2.2.1
      | (exfalso; have := h.2; omega)
      | (exfalso; have := h.2.2; omega)
      | (exfalso; have := h.2.2.2; omega)
      | (exfalso; have := h.2.2.2.2; omega)
  have J4 : JS (Sh (fun b => W.next ≤ b) W1 W4) W4 H st seats ev l := by
    refine ⟨HS.sh p3 (q3.trans a3), fun b hb => .inr hb, fun V' g => ?_, p4.symm, hAsc⟩
    refine (q4.keep (W' := V') (by have := g.next; omega) fun b h1 h2 => ?_).low (Nat.zero_le _)
    rw [g.get b (by omega) fun hh => ?_, a3.get b h2]
    rcases hh with hh | hh
    · have := hh.2; omega
    · omega
  simp only [SX, h.len len39, e1, hx.len len86, e2, decide_false, p1, q1, a1, a2, d00, pEq35, bt]
  refine Ok_loop x.length (by omega) (fun k R V => ∃ (In : Nat → Prop) (s : St) (ev : Value) (E : List (Int × Int)), R 0 = .int .i64 seats ∧ R 2 = xv ∧ R 7 = hP H ∧ R 9 = bp W2.next ∧ R 11 = .int .i64 (k : Int) ∧ JS In V H s seats ev E ∧ V.get W2.next = some (.cells [.int .i64 seats, ev]) ∧ ¬ In W2.next ∧ (∀ b, In b → W.next ≤ b) ∧ Le W V ∧ W4.next ≤ V.next ∧ s.n ≤ 100 + k ∧ s.nx ≤ 101 + k)
    (fun r => ∃ (In : Nat → Prop) (s : St) (ev : Value) (E : List (Int × Int)), r.1 = .exit 0 ∧ Le W r.2.2 ∧ r.2.1 0 = .int .i64 seats ∧ r.2.1 7 = hP H ∧ JS In r.2.2 H s seats ev E ∧ s.n ≤ 4000)
    ⟨_, st, ev, l, rfl, rfl, rfl, rfl, rfl, J4, a5, fun hh => ?_, fun b hh => ?_, (lW1.trans q3).trans a3, Nat.le_refl _, by omega, by omega⟩ ?_ ?_ ?_
  · rcases hh with hh | hh
    · have := hh.2; omega
    · omega
  · rcases hh with hh | hh
    · exact hh.1
    · have := a3.next; omega
  · rintro k R V hk ⟨In, s, ev, E, r0, r2, r7, r9, r11, J, xb, nb, inW, lV, nV, sn, sx⟩
    unfold law17_HoldsLoads_L1
    have hV := hx.mono lV
    obtain ⟨b, o, i1, i2⟩ := Cas.getA hx hk
    have t1 : ((k : Int) < (x.length : Int)) := by omega
    have t2 := fun W' => oBin_add (P := Tryz.prog) (W := W') (t := 3) (c := false) (d := true) (a := (k : Int)) (b := 1) (by omega) (by omega)
    have e3 : ((k + 1 : Nat) : Int) = (k : Int) + 1 := by omega
    have hsl := J.isSl
    obtain ⟨V0, sv, sl, s1, s2', s3, s4, s5⟩ := hSave_ok J.hs (by omega)
    have n0 := s2'.next
    have J0 := J.shift s2'
    have hsle : sl = E := seat_uniq (s4.trans J.perm.symm) s5 J.sort J.dif
    have hlen : E.length ≤ 10000 := by rw [J.len]; omega
    have sm : omS (.func (.func 7) #[] #[]) [sv, ev] V0 = some (.bool true, V0) := by
      rw [Same17_ok (lst_ho s3) (hol (J0.row V0 (.refl _ _))) (by rw [hsle]; exact hlen), hsle, decide_eq_true rfl]
    have x0 : V0.get W2.next = some (.cells [.int .i64 seats, ev]) := by rw [s2'.get _ (by omega)]; exact xb
    obtain ⟨V1, c1, c2, c3, c4⟩ := nw91 V0
    have J1 := J0.shift c2
    obtain ⟨v, V2, p1, In2, s2, ev2, E2, rfl, J2, b1, b2, g2, sub2⟩ := one_ok J1 (by omega) (by omega) x[k]
    have n2 := g2.next
    have nIn1 : ¬ Sh (Sh In V V0) V0 V1 V0.next := fun h => by
      rcases h with h | h
      · have := h.2; omega
      · omega
    have nIn1b : ¬ Sh (Sh In V V0) V0 V1 W2.next := fun h => by
      rcases h with h | h
      · rcases h.1 with h | h
        · exact nb h.1
        · omega
      · omega
    have x2 : V2.get V0.next = some (.cells [.int .i64 0, .slice none 0 0]) := by rw [g2.get _ (by omega) nIn1]; exact c4
    have y2 : V2.get W2.next = some (.cells [.int .i64 seats, ev]) := by rw [g2.get _ (by omega) nIn1b, c2.get _ (by omega)]; exact x0
    have hsl2 := J2.isSl
    have st := st91 (n := seats) x2 hsl2
    have J3' := J2.put (fun h => nIn1 (sub2 _ h)) x2 (.inr ⟨0, 0, rfl⟩) [.int .i64 seats, ev2]
    generalize hV3 : V2.put V0.next (.cells [.int .i64 seats, ev2]) = V3 at st J3'
    have n3' : V3.next = V2.next := by rw [← hV3, AW.put_next]
    have x3 : V3.get V0.next = some (.cells [.int .i64 seats, ev2]) := by rw [← hV3]; exact AW.get_put _ _ _
    have y3 : V3.get W2.next = some (.cells [.int .i64 seats, ev]) := by rw [← hV3, AW.get_put_ne _ _ (by omega)]; exact y2
    have nIn3 : ¬ In2 W2.next := fun h => nIn1b (sub2 _ h)
    have st2 := st91 (n := seats) y3 hsl2
    have J5 := J3'.put nIn3 y3 hsl [.int .i64 seats, ev2]
    generalize hV5 : V3.put W2.next (.cells [.int .i64 seats, ev2]) = V5 at st2 J5
    have n5 : V5.next = V3.next := by rw [← hV5, AW.put_next]
    have nW := lV.next
    have lowV : ∀ b, b < W.next → ¬ Sh (Sh In V V0) V0 V1 b := fun b hb h => by
      rcases h with h | h
      · rcases h.1 with h | h
        · have := inW b h.1; omega
        · omega
      · omega
    have ldc := i2 V0 (lV.trans s2')
    simp only [SX, r0, r2, r7, r9, r11, hV.len len86, t1, decide_true, ld91b xb, Nat.zero_add, s1, ld91b x0, agV_some, hsl.vsame, Bool.and_self, sm, Bool.not_true, ld91 x0, i1, ldc, c1, p1, st, ld91 x3, st2, t2, Ok_some]
    refine .inl ⟨trivial, _, s2, ev2, E2, r0, r2, r7, r9, by rw [e3]; rfl, J5, by rw [← hV5]; exact AW.get_put _ _ _, nIn3, fun b hb => ?_, ⟨by omega, fun b hb => ?_⟩, by omega, by omega, by omega⟩
    · rcases sub2 _ hb with hb | hb
      · rcases hb.1 with hb | hb
        · exact inW b hb.1
        · omega
      · omega
    · rw [← hV5, AW.get_put_ne _ _ (by omega), ← hV3, AW.get_put_ne _ _ (by omega), g2.get b (by omega) (lowV b hb), c2.get b (by omega), s2'.get b (by omega), lV.get b hb]
  · rintro R V ⟨In, s, ev, E, r0, r2, r7, r9, r11, J, xb, nb, inW, lV, nV, sn, sx⟩
    unfold law17_HoldsLoads_L1
    have t1 : ¬ ((x.length : Int) < (x.length : Int)) := by omega
    simp only [SX, r2, r11, (hx.mono lV).len len86, t1, decide_false, Ok_some]
    exact ⟨by simp, In, s, ev, E, trivial, lV, r0, r7, J, by omega⟩
  · rintro ⟨x, R, V⟩ ⟨In, s, ev, E, hx, lV, r0, r7, J, hn⟩
    simp only at hx lV r0 r7 J
    subst hx
    obtain ⟨u1, V1, H2, V2, u3, V3, u4, V4, g1, g2, g3, g4, g5, g6⟩ := again_ok J hn
    simp only [SX, r0, r7, g1, g2, g3, g4, g5, d00, nEq35, awake4_ok, Ok_some]
    exact ⟨trivial, lV.trans g6⟩
end Go.Proofs.YtkpgmabebjmahaaGreat.Ho
/- Entries that are handed in, opened. -/
namespace Go.Proofs.YtkpgmabebjmahaaGreat.Ho
open Go Go.Eng Go.RowKit
set_option linter.unusedVariables false
set_option linter.unusedSimpArgs false
set_option maxRecDepth 100000
theorem ce43 : Tryz.prog.cellsOf 43 = 2 := by kernel_rfl
theorem ho_of {W : AW} {n : Nat} {c : List Value} (h : DR Tryz.prog W (n + 2) 43 c) : ∃ x : Int × Int, ∀ pre post, hoAt (pre ++ (c ++ post)) pre.length x := by
  obtain ⟨c1, c2, rfl, h1, h2⟩ := (h.struct Tryz.underlying43).cons
  obtain ⟨c3, c4, rfl, h3, h4⟩ := h2.cons
  obtain rfl := h4.nil
  obtain ⟨a, rfl⟩ := h1.int Tryz.underlying3
  obtain ⟨b, rfl⟩ := h3.int Tryz.underlying2
  refine ⟨⟨a, b⟩, fun pre post => ⟨?_, ?_⟩⟩
  · rw [List.getElem?_append_right (by omega)]; simp
  · rw [List.getElem?_append_right (by omega), Nat.add_sub_cancel_left]; rfl
theorem simHo : simT Tryz.prog 5 22 = true := by kernel_rfl
section
variable {H : Type} {enc : TypeId × Value → H} {w : World} {σ : Inj} {W : AW} {v0 : Value} {d : DataW H} {p : List MemPlace} {r : Reach} {b0 : Nat}
theorem openHoL (ho : Opened σ W w) (hv : Value.okWide Tryz.prog w r b0 22 v0) (h : DataW.Trod enc Tryz.prog w 0 (fun _ => true) true 22 v0 d p) :
    ∃ (σ2 : Inj) (W2 : AW) (l : List (Int × Int)) (u : Value), Opened σ2 W2 w ∧ Sub σ σ2 ∧ Le W W2 ∧ VR σ2 u v0 ∧ HoL W2 u l := by
  obtain ⟨a, n, c, rfl⟩ := slice_of Tryz.underlying22 hv
  obtain ⟨m, hm⟩ := h
  obtain ⟨σ2, W2, cs2, o2, s2, l2, r2, a2⟩ := opens_trod simHo hm σ W ho
  obtain ⟨u, l, rfl, hr⟩ := a2.row Tryz.underlying22 (at_ := hoAt) (fun c _ hc => ho_of hc)
  have hvr : VR σ2 u (.slice a n c) := r2.2 0 _ _ rfl rfl
  rw [ce43] at hr
  exact ⟨σ2, W2, l, u, o2, s2, l2, hvr, hr.1⟩
end
end Go.Proofs.YtkpgmabebjmahaaGreat.Ho
