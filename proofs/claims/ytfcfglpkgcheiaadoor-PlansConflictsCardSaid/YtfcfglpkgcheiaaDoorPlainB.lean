/- Contracts of functions, and their laws. -/
import Derived.Test.YtfcfglpkgcheiaaDoorPlainA
import Derived.Test.YtfcfglpkgcheiaaDoorOpnA
/- The locks of an operation: the code's answer. -/
namespace Go.Proofs.YtfcfglpkgcheiaaDoor
open Go Go.Eng
set_option linter.unusedVariables false
set_option linter.unusedSimpArgs false
set_option maxRecDepth 100000
theorem kindL_1 (v : Ven) (s c : Int) : kindL v 1 s c = [] := by simp [kindL]
theorem kindL_3 (v : Ven) (s c : Int) : kindL v 3 s c = (coverE v c).1 := by simp [kindL]
theorem kindL_4 (v : Ven) (s c : Int) : kindL v 4 s c = (if (placeE v s).2 = 0 then [(shardE v s).1, (lockE v ((placeE v s).1.1 : Int)).1] else []) := by simp [kindL]
theorem kindL_7 (v : Ven) (s c : Int) : kindL v 7 s c = (if (placeE v s).2 = 0 then [(shardE v s).1, (lockE v ((placeE v s).1.1 : Int)).1] else []) := by simp [kindL]
theorem kindL_8 (v : Ven) (s c : Int) : kindL v 8 s c = (if (placeE v s).2 = 0 then [(shardE v s).1, (lockE v ((placeE v s).1.1 : Int)).1] else []) := by simp [kindL]
theorem kindL_2 (v : Ven) (s c : Int) : kindL v 2 s c = (if (placeE v s).2 = 0 then [(shardE v s).1] else []) := by simp [kindL]
theorem kindL_5 (v : Ven) (s c : Int) : kindL v 5 s c = (if (placeE v s).2 = 0 then [(shardE v s).1] else []) := by simp [kindL]
theorem kindL_6 (v : Ven) (s c : Int) : kindL v 6 s c = (if (placeE v s).2 = 0 then [(shardE v s).1] else []) := by simp [kindL]
theorem kindL_9 (v : Ven) (s c : Int) : kindL v 9 s c = (if (placeE v s).2 = 0 then [(shardE v s).1] else []) := by simp [kindL]
theorem kindL_10 (v : Ven) (s c : Int) : kindL v 10 s c = (if (lockE v c).2 = 0 then [(lockE v c).1] else []) := by simp [kindL]
theorem kindL_11 (v : Ven) (s c : Int) : kindL v 11 s c = (if (lockE v c).2 = 0 then [(lockE v c).1] else []) := by simp [kindL]
def upTo (n : Nat) : List Int := (List.range n).map fun (i : Nat) => (i : Int)
theorem upTo_succ (n : Nat) : upTo (n + 1) = upTo n ++ [(n : Int)] := by simp [upTo, List.range_succ]
theorem upTo_len (n : Nat) : (upTo n).length = n := by simp [upTo]
theorem kindL_12 (v : Ven) (s c : Int) : kindL v 12 s c = upTo (v.sh.toNat + v.secs.length) := by simp [kindL, upTo]
theorem planLocks_ok {v : Ven} {o : OpT} {sv : Value} {W : AW} (hs : SecsC W sv v.secs) (hv : v.secs.length < 1000) (hG : GW W) :
    ∃ u W2, omS (.func (.func 18) #[] #[]) [venV v sv, opV o] W = some (.tuple #[u, .int .i64 (locksE v o).2], W2) ∧ Le W W2 ∧ Ints W2 u (locksE v o).1 := by
  refine om_row2 ?_ plans_Locks_om
  unfold plans_Locks locksE
  obtain ⟨W1, hB, hle, hn, c4, c0, c3⟩ := venBox v sv W
  obtain ⟨W2, b2, n2, l2, k12, k0⟩ := opBox o W1
  have l02 := hle.trans l2
  have hsn := hle.next
  have hs2 := hs.mono l02
  simp only [SX, hB, b2, c4 _ l2, venCheck_ok hs2 hv]
  by_cases he : (venE v).2 = 0
  case neg =>
    simp only [SX, he, if_false, Ok_some]
    exact ⟨_, rfl, l02, Row.nil⟩
  simp only [SX, decide_eq_true he, if_pos he, k12 _ (.refl _), planTgt_ok o (hG.mono l02)]
  by_cases ht : (tgtO o).2.2 = 0
  case neg =>
    simp only [SX, ht, if_false, Ok_some]
    exact ⟨_, rfl, l02, Row.nil⟩
  have hk := tgtO_range ht
  simp only [SX, decide_eq_true ht, if_pos ht, Nat.zero_add, k0 _ (.refl _)]
  clear ht k12 k0 b2
  generalize (tgtO o).1 = s, (tgtO o).2.1 = c, o.k = kk at *
  have hkk : kk = 1 ∨ kk = 3 ∨ kk = 12 ∨ (kk = 2 ∨ kk = 5 ∨ kk = 6 ∨ kk = 9) ∨ (kk = 4 ∨ kk = 7 ∨ kk = 8) ∨ (kk = 10 ∨ kk = 11) := by omega
  rcases hkk with rfl | rfl | rfl | hkk | hkk | hkk
  · rw [kindL_1]
    simp only [SX, Int.reduceEq, Ok_some]
    exact ⟨_, rfl, l02, Row.nil⟩
  · rw [kindL_3]
    obtain ⟨u, W4, q1, q2, q3⟩ := cover_ok (sec := c) hs2 hv
    simp only [SX, Int.reduceEq, c4 _ l2, q1]
    by_cases hc : (coverE v c).2 = 0
    · simp only [SX, decide_eq_true hc, Ok_some]
      exact ⟨_, rfl, l02.trans q2, q3⟩
    · rw [cover_none hc]
      simp only [SX, hc, Ok_some]
      exact ⟨_, rfl, l02.trans q2, Row.nil⟩
  · rw [kindL_12]
    have hsh := venE_sh he
    have ea : ∀ W', oBin Tryd.prog .add 3 false false (.int .i64 v.sh) (.int .i64 (v.secs.length : Int)) W' = some (.int .i64 ((v.sh.toNat + v.secs.length : Nat) : Int), W') := fun W' => by
      rw [oBin_add (by omega) (by omega)]; congr 3; omega
    simp only [SX, Int.reduceEq, Nat.zero_add, c0 _ l2, c3 _ l2, hs2.1.len len34, ea]
    generalize hm : v.sh.toNat + v.secs.length = m at *
    refine Ok_loop m (by omega) (fun i R W' => Le W2 W' ∧ R 63 = .int .i64 (m : Int) ∧ R 64 = .int .i64 (i : Int) ∧ ∃ u, R 11 = u ∧ Lst W2.next W' 1 intC u (upTo i))
      (fun r => Le W2 r.2.2 ∧ r.1 = .exit 6 ∧ ∃ u, r.2.1 11 = u ∧ Lst W2.next r.2.2 1 intC u (upTo m)) ⟨.refl _, rfl, rfl, _, rfl, .nil _ _ _ _⟩ ?_ ?_ ?_
    · rintro i R W' hi ⟨hl, f63, f64, u, f11, hL⟩
      unfold plans_Locks_L1
      have e1 : ((i : Int) < (m : Int)) := by omega
      have eb : ∀ W', oBin Tryd.prog .add 3 false true (.int .i64 (i : Int)) (.int .i64 1) W' = some (.int .i64 ((i + 1 : Nat) : Int), W') := fun W' => oBin_add (by omega) (by omega)
      have hLm := hL.mono ((Le.refl W').add (.cells [.int .i64 (i : Int)]))
      obtain ⟨v', W3, q1, q2, q3, q4⟩ := Lst.push (P := Tryd.prog) (a := (i : Int)) (b := W'.next) (c := 1) ap38 intC_len intC_one hLm cellsAt_new (by rw [upTo_len]; omega) (by rw [upTo_len]; omega) (by rw [AW.add_next]; have := hl.next; omega)
      simp only [SX, f63, f64, f11, e1, bs38, q1, eb, Ok_some]
      exact .inl ⟨trivial, q4 _ (hl.add _) (Nat.le_refl _), f63, rfl, _, rfl, by rw [upTo_succ]; exact q2⟩
    · rintro R W' ⟨hl, f63, f64, u, f11, hL⟩
      unfold plans_Locks_L1
      have e1 : ¬ ((m : Int) < (m : Int)) := by omega
      simp only [SX, f63, f64, e1, Ok_some]
      exact ⟨by simp, hl, trivial, u, f11, hL⟩
    · rintro ⟨x, R, W'⟩ ⟨hl, hx, u, f11, hL⟩
      simp only at hl hx f11 hL
      subst hx
      simp only [SX, f11, Ok_some]
      exact ⟨_, rfl, l02.trans hl, hL.ints⟩
  · rcases hkk with rfl | rfl | rfl | rfl <;> (
      first | rw [kindL_2] | rw [kindL_5] | rw [kindL_6] | rw [kindL_9]
      simp only [SX, Int.reduceEq, c4 _ l2, shard_ok hs2 hv, shard_place]
      by_cases hp : (placeE v s).2 = 0
      · simp only [SX, decide_eq_true hp, if_pos hp, bs38, ap_zero, Ok_some]
        exact ⟨_, rfl, l02.add _, lit38 _ _⟩
      · simp only [SX, hp, if_false, Ok_some]
        exact ⟨_, rfl, l02, Row.nil⟩)
  · obtain ⟨W3, b3, n3, l3, r3⟩ := new65 W2
    have l2X := l3.put (Nat.le_refl _) (.cells [.int .i64 ((placeE v s).1.1 : Int), .int .i64 ((placeE v s).1.2.1 : Int), .int .i64 ((placeE v s).1.2.2 : Int)])
    have rX := rwCells_put (W := W3) (b := W2.next) [.int .i64 ((placeE v s).1.1 : Int), .int .i64 ((placeE v s).1.2.1 : Int), .int .i64 ((placeE v s).1.2.2 : Int)]
    have hk4 : kindL v kk s c = (if (placeE v s).2 = 0 then [(shardE v s).1, (lockE v ((placeE v s).1.1 : Int)).1] else []) := by
      rcases hkk with rfl | rfl | rfl
      · exact kindL_4 _ _ _
      · exact kindL_7 _ _ _
      · exact kindL_8 _ _ _
    rw [hk4]
    rcases hkk with rfl | rfl | rfl <;> (
      simp only [SX, Int.reduceEq, c4 _ l2, place_ok hs2 hv, b3, stV3i r3]
      generalize W3.put W2.next (.cells [.int .i64 ((placeE v s).1.1 : Int), .int .i64 ((placeE v s).1.2.1 : Int), .int .i64 ((placeE v s).1.2.2 : Int)]) = X at *
      by_cases hp : (placeE v s).2 = 0
      · simp only [SX, decide_eq_true hp, if_pos hp, c4 _ (l2.trans l2X), Nat.zero_add, ldR (o := 0) rX rfl, lock_ok (hs2.mono l2X) hv, bs38, ap_one]
        have lY := (l2X.add (.cells [.int .i64 (lockE v ((placeE v s).1.1 : Int)).1])).add (.cells [.int .i64 (lockE v ((placeE v s).1.1 : Int)).1])
        have hY : cellsAt ((X.add (.cells [.int .i64 (lockE v ((placeE v s).1.1 : Int)).1])).add (.cells [.int .i64 (lockE v ((placeE v s).1.1 : Int)).1])) (X.add (.cells [.int .i64 (lockE v ((placeE v s).1.1 : Int)).1])).next = some [.int .i64 (lockE v ((placeE v s).1.1 : Int)).1] := cellsAt_new
        have hY2 : (X.add (.cells [.int .i64 (lockE v ((placeE v s).1.1 : Int)).1])).next < ((X.add (.cells [.int .i64 (lockE v ((placeE v s).1.1 : Int)).1])).add (.cells [.int .i64 (lockE v ((placeE v s).1.1 : Int)).1])).next := Nat.lt_of_lt_of_eq (Nat.lt_succ_self _) (AW.add_next _ _).symm
        generalize (X.add (.cells [.int .i64 (lockE v ((placeE v s).1.1 : Int)).1])).add (.cells [.int .i64 (lockE v ((placeE v s).1.1 : Int)).1]) = Y at *
        simp only [SX, c4 _ (l2.trans lY), shard_ok (hs2.mono lY) hv, shard_place, decide_eq_true hp, bs38, ap_two _ _ hY hY2, Ok_some]
        exact ⟨_, rfl, ((l02.trans lY).add _).add _, two38 _ _ _⟩
      · simp only [SX, hp, if_false, c4 _ (l2.trans l2X), shard_ok (hs2.mono l2X) hv, shard_place, Ok_some]
        exact ⟨_, rfl, l02.trans l2X, Row.nil⟩)
  · rcases hkk with rfl | rfl <;> (
      first | rw [kindL_10] | rw [kindL_11]
      simp only [SX, Int.reduceEq, c4 _ l2, lock_ok hs2 hv]
      by_cases hp : (lockE v c).2 = 0
      · simp only [SX, decide_eq_true hp, if_pos hp, bs38, ap_one, Ok_some]
        exact ⟨_, rfl, (l02.add _).add _, one38 _ _⟩
      · simp only [SX, hp, if_false, Ok_some]
        exact ⟨_, rfl, l02, Row.nil⟩)
end Go.Proofs.YtfcfglpkgcheiaaDoor
/- The locks of an operation: the document's answer. -/
namespace Go.Proofs.YtfcfglpkgcheiaaDoor
open Go Go.Eng
set_option linter.unusedVariables false
set_option linter.unusedSimpArgs false
set_option maxRecDepth 100000
theorem bs38_2 (a b : Int) (W : AW) : oBuildSlice Tryd.prog 38 2 [(0, .int .i64 a), (1, .int .i64 b)] W = some (.slice (some ⟨W.next, 0, none⟩) 2 2, W.add (.cells [.int .i64 a, .int .i64 b])) := Eq.trans (by kernel_rfl) rfl
theorem lit38_2 (x y : Int) (W : AW) : Ints (W.add (.cells [.int .i64 x, .int .i64 y])) (.slice (some ⟨W.next, 0, none⟩) 2 2) [x, y] := ints_new [x, y] _ W
/-- what an operation speaks of, by its kind -/
theorem tgtO_kind {o : OpT} (h : (tgtO o).2.2 = 0) : ((o.k = 3 ∨ o.k = 10 ∨ o.k = 11) ∧ (tgtO o).1 = -1) ∨ ((o.k = 1 ∨ o.k = 12) ∧ (tgtO o).1 = -1 ∧ (tgtO o).2.1 = -1) ∨ ((o.k = 2 ∨ o.k = 4 ∨ o.k = 5 ∨ o.k = 8 ∨ o.k = 6 ∨ o.k = 7 ∨ o.k = 9) ∧ (tgtO o).2.1 = -1) := by
  have hr := tgtO_range h
  unfold tgtO tgtE at h ⊢
  split at h
  · rename_i h2; exact absurd h h2
  rename_i h2
  rw [if_neg h2]
  split
  · exact .inr (.inr ⟨by omega, rfl⟩)
  split
  · exact .inr (.inr ⟨by omega, rfl⟩)
  split
  · exact .inl ⟨by omega, rfl⟩
  · exact .inr (.inl ⟨by omega, rfl, rfl⟩)
theorem refLocks_ok {v : Ven} {o : OpT} {sv : Value} {W : AW} (hs : Secs W sv v.secs) (hv : v.secs.length < 1000) (hr : ∀ s ∈ v.secs, s.rows.length < 1000) :
    ∃ u W2, omS (.func (.func 19) #[] #[]) [venV v sv, opV o] W = some (.tuple #[u, .int .i64 (locksE v o).2], W2) ∧ Le W W2 ∧ Ints W2 u (locksE v o).1 := by
  refine om_row2 ?_ ref22_Locks_om
  unfold ref22_Locks locksE
  obtain ⟨W1, hB, hle, hn, c4, c0, c3⟩ := venBox v sv W
  obtain ⟨W2, b2, n2, l2, k12, k0⟩ := opBox o W1
  have l02 := hle.trans l2
  have hsn := hle.next
  have hs2 := hs.mono l02
  simp only [SX, hB, b2, c4 _ l2, refVen_ok hs2 hv hr]
  by_cases he : (venE v).2 = 0
  case neg =>
    simp only [SX, he, if_false, Ok_some]
    exact ⟨_, rfl, l02, Row.nil⟩
  simp only [SX, decide_eq_true he, if_pos he, k12 _ (.refl _), refTgt_ok o]
  by_cases ht : (tgtO o).2.2 = 0
  case neg =>
    simp only [SX, ht, if_false, Ok_some]
    exact ⟨_, rfl, l02, Row.nil⟩
  have hk := tgtO_kind ht
  simp only [SX, decide_eq_true ht, if_pos ht, Nat.zero_add, k0 _ (.refl _)]
  clear ht k12 b2
  generalize (tgtO o).1 = s, (tgtO o).2.1 = c, o.k = kk at *
  have k0' : ∀ W', Le W2 W' → ldC (.pointer (some ⟨W1.next, 0, none⟩)) W' = some (.int .i64 kk, W') := k0
  clear k0
  rcases hk with ⟨hkk, rfl⟩ | ⟨hkk, rfl, rfl⟩ | ⟨hkk, rfl⟩
  · -- what speaks of a section
    have ge1 : ¬ ((0 : Int) ≤ -1) := by decide
    rcases hkk with rfl | hkk
    · rw [kindL_3]
      obtain ⟨u, W4, q1, q2, q3⟩ := refCover_ok (sec := c) hs2 hv hr
      by_cases hc0 : 0 ≤ c
      · simp only [SX, Int.reduceEq, k0' _ (.refl _), decide_eq_true hc0, wnt_undef, c4 _ l2, refLock_ok hs2 hv hr, ← cover_lock]
        by_cases hc : (coverE v c).2 = 0
        · simp only [SX, decide_eq_true hc, Nat.zero_add, Int.reduceEq, k0' _ (.refl _), c4 _ l2, q1, hc, Ok_some]
          exact ⟨_, rfl, l02.trans q2, q3⟩
        · rw [cover_none hc]
          simp only [SX, hc, Ok_some]
          exact ⟨_, rfl, l02, Row.nil⟩
      · simp only [SX, Int.reduceEq, Nat.zero_add, k0' _ (.refl _), decide_eq_false hc0, wnt_undef, c4 _ l2, refLock_ok hs2 hv hr, ← cover_lock]
        by_cases hc : (coverE v c).2 = 0
        · simp only [SX, decide_eq_true hc, Nat.zero_add, Int.reduceEq, k0' _ (.refl _), c4 _ l2, q1, hc, Ok_some]
          exact ⟨_, rfl, l02.trans q2, q3⟩
        · rw [cover_none hc]
          simp only [SX, hc, Ok_some]
          exact ⟨_, rfl, l02, Row.nil⟩
    · rcases hkk with rfl | rfl <;> (
        first | rw [kindL_10] | rw [kindL_11]
        by_cases hc0 : 0 ≤ c
        · simp only [SX, Int.reduceEq, Nat.zero_add, k0' _ (.refl _), decide_eq_true hc0, wnt_undef, c4 _ l2, refLock_ok hs2 hv hr]
          by_cases hp : (lockE v c).2 = 0
          · simp only [SX, decide_eq_true hp, if_pos hp, Nat.zero_add, Int.reduceEq, k0' _ (.refl _), bs38, Ok_some]
            exact ⟨_, rfl, l02.add _, lit38 _ _⟩
          · simp only [SX, hp, if_false, Ok_some]
            exact ⟨_, rfl, l02, Row.nil⟩
        · simp only [SX, Int.reduceEq, Nat.zero_add, k0' _ (.refl _), decide_eq_false hc0, wnt_undef, c4 _ l2, refLock_ok hs2 hv hr]
          by_cases hp : (lockE v c).2 = 0
          · simp only [SX, decide_eq_true hp, if_pos hp, Nat.zero_add, Int.reduceEq, k0' _ (.refl _), bs38, Ok_some]
            exact ⟨_, rfl, l02.add _, lit38 _ _⟩
          · simp only [SX, hp, if_false, Ok_some]
            exact ⟨_, rfl, l02, Row.nil⟩)
  · rcases hkk with rfl | rfl
    · rw [kindL_1]
      simp only [SX, Int.reduceEq, Nat.zero_add, k0' _ (.refl _), Ok_some]
      exact ⟨_, rfl, l02, Row.nil⟩
    · rw [kindL_12]
      have hsh := venE_sh he
      have ea : ∀ W', oBin Tryd.prog .add 3 false false (.int .i64 v.sh) (.int .i64 (v.secs.length : Int)) W' = some (.int .i64 ((v.sh.toNat + v.secs.length : Nat) : Int), W') := fun W' => by
        rw [oBin_add (by omega) (by omega)]; congr 3; omega
      simp only [SX, Int.reduceEq]
      refine Ok_loop (v.sh.toNat + v.secs.length) (by omega) (fun i R W' => Le W2 W' ∧ R 2 = .pointer (some ⟨W.next, 0, none⟩) ∧ R 11 = .int .i64 (i : Int) ∧ ∃ u, R 10 = u ∧ Lst W2.next W' 1 intC u (upTo i))
        (fun r => Le W2 r.2.2 ∧ r.1 = .exit 0 ∧ ∃ u, r.2.1 10 = u ∧ Lst W2.next r.2.2 1 intC u (upTo (v.sh.toNat + v.secs.length))) ⟨.refl _, rfl, rfl, _, rfl, .nil _ _ _ _⟩ ?_ ?_ ?_
      · rintro i R W' hi ⟨hl, f2, f11, u, f10, hL⟩
        unfold ref22_Locks_L1
        have e1 : ((i : Int) < ((v.sh.toNat + v.secs.length : Nat) : Int)) := by omega
        have eb : ∀ W', oBin Tryd.prog .add 3 false true (.int .i64 (i : Int)) (.int .i64 1) W' = some (.int .i64 ((i + 1 : Nat) : Int), W') := fun W' => oBin_add (by omega) (by omega)
        have hLm := hL.mono ((Le.refl W').add (.cells [.int .i64 (i : Int)]))
        obtain ⟨v', W3, q1, q2, q3, q4⟩ := Lst.push (P := Tryd.prog) (a := (i : Int)) (b := W'.next) (c := 1) ap38 intC_len intC_one hLm cellsAt_new (by rw [upTo_len]; omega) (by rw [upTo_len]; omega) (by rw [AW.add_next]; have := hl.next; omega)
        simp only [SX, f2, f11, f10, Nat.zero_add, c0 _ (l2.trans hl), c3 _ (l2.trans hl), (hs2.mono hl).len len34, ea, e1, bs38, q1, eb, Ok_some]
        exact .inl ⟨trivial, q4 _ (hl.add _) (Nat.le_refl _), f2, rfl, _, rfl, by rw [upTo_succ]; exact q2⟩
      · rintro R W' ⟨hl, f2, f11, u, f10, hL⟩
        unfold ref22_Locks_L1
        have e1 : ¬ (((v.sh.toNat + v.secs.length : Nat) : Int) < ((v.sh.toNat + v.secs.length : Nat) : Int)) := by omega
        simp only [SX, f2, f11, Nat.zero_add, c0 _ (l2.trans hl), c3 _ (l2.trans hl), (hs2.mono hl).len len34, ea, e1, Ok_some]
        exact ⟨by simp, hl, trivial, u, f10, hL⟩
      · rintro ⟨x, R, W'⟩ ⟨hl, hx, u, f10, hL⟩
        simp only at hl hx f10 hL
        subst hx
        simp only [SX, f10, Ok_some]
        exact ⟨_, rfl, l02.trans hl, hL.ints⟩
  · -- what speaks of a seat
    have ge1 : ¬ ((0 : Int) ≤ -1) := by decide
    obtain ⟨W3, b3, n3, l3, r3⟩ := new65 W2
    have l2X := l3.put (Nat.le_refl _) (.cells [.int .i64 ((placeE v s).1.1 : Int), .int .i64 ((placeE v s).1.2.1 : Int), .int .i64 ((placeE v s).1.2.2 : Int)])
    have rX := rwCells_put (W := W3) (b := W2.next) [.int .i64 ((placeE v s).1.1 : Int), .int .i64 ((placeE v s).1.2.1 : Int), .int .i64 ((placeE v s).1.2.2 : Int)]
    rcases hkk with rfl | rfl | rfl | rfl | rfl | rfl | rfl <;> (
      first | rw [kindL_2] | rw [kindL_4] | rw [kindL_5] | rw [kindL_8] | rw [kindL_6] | rw [kindL_7] | rw [kindL_9]
      simp only [SX, Int.reduceEq, Nat.zero_add, k0' _ (.refl _), ge1, wnt_undef, c4 _ l2, refPlace_ok hs2 hv hr, b3, stV3i r3]
      generalize W3.put W2.next (.cells [.int .i64 ((placeE v s).1.1 : Int), .int .i64 ((placeE v s).1.2.1 : Int), .int .i64 ((placeE v s).1.2.2 : Int)]) = X at *
      by_cases hp : (placeE v s).2 = 0
      · simp only [SX, Int.reduceEq, decide_eq_true hp, if_pos hp, wnt_undef, k0' _ l2X, c4 _ (l2.trans l2X), Nat.zero_add, refShard_ok (hs2.mono l2X) hv hr, ldR (o := 0) rX rfl, refLock_ok (hs2.mono l2X) hv hr, bs38, bs38_2, Ok_some]
        exact ⟨_, rfl, (l02.trans l2X).add _, by first | exact lit38 _ _ | exact lit38_2 _ _ _⟩
      · simp only [SX, hp, if_false, Ok_some]
        exact ⟨_, rfl, l02.trans l2X, Row.nil⟩)
end Go.Proofs.YtfcfglpkgcheiaaDoor
/- PlansLocks: what it answers. -/
namespace Go.Proofs.YtfcfglpkgcheiaaDoor
open Go Go.Eng
set_option linter.unusedVariables false
set_option linter.unusedSimpArgs false
set_option maxRecDepth 100000
theorem len38 : ((#[38] : Array TypeId)[0]?).bind Tryd.prog.underlying = some (.slice 3) := by kernel_rfl
theorem wide_ok {v : Ven} {sv : Value} {W : AW} (hs : Secs W sv v.secs) : ∃ b, omS (.func (.func 17) #[] #[]) [venV v sv] W = some (.bool b, W) ∧ (b = false → v.secs.length ≤ 10 ∧ ∀ s ∈ v.secs, s.rows.length ≤ 20) := by
  have main : Ok (law22_wide omS (venV v sv) W) fun r => ∃ b, r.1 = .bool b ∧ Le W r.2 ∧ (b = false → v.secs.length ≤ 10 ∧ ∀ s ∈ v.secs, s.rows.length ≤ 20) := by
    unfold law22_wide
    obtain ⟨W1, hB, hle, hn, c4, c0, c3⟩ := venBox v sv W
    have hs1 := hs.mono hle
    simp only [SX, hB]
    have hm : min v.secs.length 20 ≤ v.secs.length ∧ min v.secs.length 20 ≤ 20 := by omega
    refine Ok_loop (min v.secs.length 20) (by omega) (fun i R W' => W' = W1 ∧ R 1 = .pointer (some ⟨W.next, 0, none⟩) ∧ R 3 = .int .i64 (i : Int) ∧ ∀ j (h : j < v.secs.length), j < i → v.secs[j].rows.length ≤ 20)
      (fun r => r.2.2 = W1 ∧ ((r.1 = .exit 0 ∧ r.2.1 1 = .pointer (some ⟨W.next, 0, none⟩) ∧ ∀ j (h : j < v.secs.length), j < min v.secs.length 20 → v.secs[j].rows.length ≤ 20) ∨ (r.1 = .ret ∧ r.2.1 2 = .bool true))) ⟨rfl, rfl, rfl, fun j h hj => by omega⟩ ?_ ?_ ?_
    · rintro i R W' hi ⟨rfl, f1, f3, hj⟩
      unfold law22_wide_L1
      have e1 : ((i : Int) < (v.secs.length : Int)) := by omega
      have e2 : ((i : Int) < 20) := by omega
      have hi2 : i < v.secs.length := by omega
      obtain ⟨b, o, rv, p1, p2, -, p4, p5, -⟩ := hs1.get hi2
      have eb : ∀ W', oBin Tryd.prog .add 3 false true (.int .i64 (i : Int)) (.int .i64 1) W' = some (.int .i64 ((i + 1 : Nat) : Int), W') := fun W' => oBin_add (by omega) (by omega)
      simp only [SX, f1, f3, Nat.zero_add, c3 _ (.refl _), hs1.len len34, e1, decide_true, e2, p1, Nat.add_zero, p4 _ (.refl _), str_len len9]
      by_cases t1 : 100 < (v.secs[i].name.length : Int)
      · simp only [SX, decide_eq_true t1, Ok_some]
        exact .inr ⟨by simp, trivial, .inr ⟨trivial, rfl⟩⟩
      simp only [SX, decide_eq_false t1, f1, f3, Nat.zero_add, c3 _ (.refl _), p1, p5 _ (.refl _), p2.len lenI]
      by_cases t2 : 20 < (v.secs[i].rows.length : Int)
      · simp only [SX, decide_eq_true t2, Ok_some]
        exact .inr ⟨by simp, trivial, .inr ⟨trivial, rfl⟩⟩
      simp only [SX, decide_eq_false t2, f3, eb, Ok_some]
      refine .inl ⟨trivial, trivial, f1, rfl, fun j h hji => ?_⟩
      by_cases hji2 : j < i
      · exact hj j h hji2
      · obtain rfl : j = i := by omega
        omega
    · rintro R W' ⟨rfl, f1, f3, hj⟩
      unfold law22_wide_L1
      simp only [SX, f1, f3, Nat.zero_add, c3 _ (.refl _), hs1.len len34]
      by_cases e1 : ((min v.secs.length 20 : Nat) : Int) < (v.secs.length : Int)
      · have e2 : ¬ (((min v.secs.length 20 : Nat) : Int) < 20) := by omega
        simp only [SX, decide_eq_true e1, f3, decide_eq_false e2, Ok_some]
        exact ⟨by simp, trivial, .inl ⟨trivial, f1, hj⟩⟩
      · simp only [SX, decide_eq_false e1, Ok_some]
        exact ⟨by simp, trivial, .inl ⟨trivial, f1, hj⟩⟩
    · rintro ⟨x, R, W'⟩ ⟨hW, hq⟩
      simp only at hW hq
      subst hW
      rcases hq with ⟨rfl, f1, hj⟩ | ⟨rfl, f2⟩
      · simp only [SX, f1, Nat.zero_add, c3 _ (.refl _), hs1.len len34, Ok_some]
        refine ⟨_, rfl, hle, fun hb => ?_⟩
        have hl := of_decide_eq_false hb
        refine ⟨by omega, fun s hs => ?_⟩
        obtain ⟨j, hj2, rfl⟩ := List.getElem_of_mem hs
        exact hj j hj2 (by omega)
      · simp only [SX, f2, Ok_some]
        exact ⟨_, rfl, hle, fun hb => by cases hb⟩
  obtain ⟨⟨r, W'⟩, h1, b, h2, h3, h4⟩ := main
  simp only at h2 h3
  subst h2
  exact ⟨b, by rw [law22_wide_om h1, gc_bool h3], h4⟩
theorem ints_ok {a b : Value} {la lb : List Int} {W : AW} (ha : Ints W a la) (hb : Ints W b lb) (hl : la.length < 900000) : omS (.func (.func 20) #[] #[]) [a, b] W = some (.bool (decide (la = lb)), W) := by
  refine om_drop rfl ?_ law22_ints_om
  unfold law22_ints
  simp only [SX, Ints_ok ha hb hl, Ok_some]
  exact ⟨trivial, .refl _⟩
theorem kindL_len (v : Ven) (he : (venE v).2 = 0) (k s c : Int) : (kindL v k s c).length ≤ 24 := by
  have hsh := venE_sh he
  have hg := (venE_good he).1.len
  unfold kindL
  split
  · rw [List.length_map, List.length_range]; omega
  split
  · unfold coverE
    split
    · rw [sortL_len, covL_len]; omega
    · simp
  split
  · split <;> simp
  split
  · split <;> simp
  split
  · split <;> simp
  · simp
theorem locksE_len (v : Ven) (o : OpT) : (locksE v o).1.length ≤ 24 := by
  unfold locksE
  split
  · rename_i he
    split
    · exact kindL_len v he _ _ _
    · simp
  · simp
theorem plansLocks_om {v : Ven} {o : OpT} {sv : Value} {W : AW} (hs : SecsC W sv v.secs) (hG : GW W) : omS (.func (.func 4) #[] #[]) [venV v sv, opV o] W = some (.bool true, W) := by
  refine om_drop rfl ?_ law22_PlansLocks_om
  unfold law22_PlansLocks
  obtain ⟨W1, hB, hle, hn, c4, c0, c3⟩ := venBox v sv W
  obtain ⟨W2, b2, n2, l2, k12, k0⟩ := opBox o W1
  have l02 := hle.trans l2
  obtain ⟨b, w1, w2⟩ := wide_ok (hs.mono l02).1
  simp only [SX, hB, b2, c4 _ l2, w1]
  cases b
  case true =>
    simp only [SX, shown_ok (hG.mono l02), Ok_some]
    exact ⟨trivial, l02⟩
  obtain ⟨w3, w4⟩ := w2 rfl
  have hv : v.secs.length < 1000 := by omega
  have hr : ∀ s ∈ v.secs, s.rows.length < 1000 := fun s h => by have := w4 s h; omega
  obtain ⟨u, W3, q1, q2, q3⟩ := planLocks_ok (o := o) (hs.mono l02) hv (hG.mono l02)
  have l03 := l02.trans q2
  obtain ⟨u', W4, q1', q2', q3'⟩ := refLocks_ok (o := o) (hs.mono l03).1 hv hr
  have l04 := l03.trans q2'
  have hlen := locksE_len v o
  simp only [SX, c4 _ l2, k12 _ (.refl _), q1, c4 _ (l2.trans q2), k12 _ q2, q1', ints_ok (q3.mono q2') q3' (by omega), decide_true, shown_ok (hG.mono l04), Ok_some]
  exact ⟨trivial, l04⟩
end Go.Proofs.YtfcfglpkgcheiaaDoor
/- Which operations need the same lock: the code's answer, and the document's. -/
namespace Go.Proofs.YtfcfglpkgcheiaaDoor
open Go Go.Eng
set_option linter.unusedVariables false
set_option linter.unusedSimpArgs false
set_option maxRecDepth 100000
def commonL (a b : List Int) : Bool := a.any fun x => b.any fun y => decide (x = y)
def bitsB (l : List Int) : BitVec 64 := l.foldl (fun b x => b ||| BitVec.twoPow 64 x.toNat) 0#64
theorem bitsB_snoc (l : List Int) (x : Int) : bitsB (l ++ [x]) = bitsB l ||| BitVec.twoPow 64 x.toNat := by
  unfold bitsB
  rw [List.foldl_append]; rfl
theorem foldl_bits : ∀ (l : List Int) (b : BitVec 64) (j : Nat), (∀ x ∈ l, 0 ≤ x ∧ x < 64) → (l.foldl (fun b x => b ||| BitVec.twoPow 64 x.toNat) b).getLsbD j = (b.getLsbD j || l.any fun x => decide (x.toNat = j))
  | [], b, j, _ => by simp
  | x :: l, b, j, h => by
    rw [List.foldl_cons, foldl_bits l _ j (fun y hy => h y (by simp [hy])), BitVec.getLsbD_or, BitVec.getLsbD_twoPow, List.any_cons]
    have hx := h x (by simp)
    rw [decide_eq_true (show x.toNat < 64 by omega), Bool.true_and, Bool.or_assoc]
theorem bitsB_get (l : List Int) (j : Nat) (h : ∀ x ∈ l, 0 ≤ x ∧ x < 64) : (bitsB l).getLsbD j = l.any fun x => decide (x.toNat = j) := by
  unfold bitsB
  rw [foldl_bits l _ j h]; simp
theorem bits_common {a b : List Int} (ha : ∀ x ∈ a, 0 ≤ x ∧ x < 64) (hb : ∀ x ∈ b, 0 ≤ x ∧ x < 64) : (!decide ((((bitsB a &&& bitsB b).toNat : Nat) : Int) = 0)) = commonL a b := by
  rw [Bool.eq_iff_iff]
  simp only [Bool.not_eq_true', decide_eq_false_iff_not]
  unfold commonL
  simp only [List.any_eq_true, decide_eq_true_eq]
  constructor
  · intro hne
    apply Classical.byContradiction
    intro hno
    apply hne
    have : bitsB a &&& bitsB b = 0#64 := by
      apply BitVec.eq_of_getLsbD_eq
      intro j hj
      rw [BitVec.getLsbD_and, bitsB_get a j ha, bitsB_get b j hb, BitVec.getLsbD_zero]
      cases h1 : a.any fun x => decide (x.toNat = j) with
      | false => rfl
      | true =>
        cases h2 : b.any fun x => decide (x.toNat = j) with
        | false => rfl
        | true =>
          exfalso
          simp only [List.any_eq_true, decide_eq_true_eq] at h1 h2
          obtain ⟨x, x1, x2⟩ := h1
          obtain ⟨y, y1, y2⟩ := h2
          have := ha x x1
          have := hb y y1
          exact hno ⟨x, x1, y, y1, by omega⟩
    rw [this]; rfl
  · rintro ⟨x, x1, y, y1, rfl⟩ h0
    have h0' : bitsB a &&& bitsB b = 0#64 := BitVec.eq_of_toNat_eq (by simpa using h0)
    have h1 := congrArg (fun v => v.getLsbD x.toNat) h0'
    simp only [BitVec.getLsbD_and, bitsB_get a _ ha, bitsB_get b _ hb, BitVec.getLsbD_zero] at h1
    have ea : (a.any fun z => decide (z.toNat = x.toNat)) = true := by
      simp only [List.any_eq_true, decide_eq_true_eq]; exact ⟨x, x1, rfl⟩
    have eb : (b.any fun z => decide (z.toNat = x.toNat)) = true := by
      simp only [List.any_eq_true, decide_eq_true_eq]; exact ⟨x, y1, rfl⟩
    rw [ea, eb] at h1
    cases h1
theorem wrap_bv (b : BitVec 64) : IntKind.u64.wrap (b.toNat : Int) = (b.toNat : Int) := by
  have := b.isLt
  show ((b.toNat : Int) % 18446744073709551616) = _
  omega
theorem ofInt_bv (b : BitVec 64) : BitVec.ofInt 64 (b.toNat : Int) = b := by
  apply BitVec.eq_of_toNat_eq
  rw [BitVec.toNat_ofInt]
  have := b.isLt
  omega
theorem or_bv (a b : BitVec 64) (c d : Bool) (W : AW) : oBin Tryd.prog .or 23 c d (.int .u64 (a.toNat : Int)) (.int .u64 (b.toNat : Int)) W = some (.int .u64 ((a ||| b).toNat : Int), W) := by
  refine (oBin_or (P := Tryd.prog)).trans ?_
  show some (Value.int .u64 (IntKind.u64.wrap (((BitVec.ofInt 64 (a.toNat : Int) ||| BitVec.ofInt 64 (b.toNat : Int)).toNat : Nat) : Int)), W) = _
  rw [ofInt_bv, ofInt_bv, wrap_bv]
theorem and_bv (a b : BitVec 64) (c d : Bool) (W : AW) : oBin Tryd.prog .and 23 c d (.int .u64 (a.toNat : Int)) (.int .u64 (b.toNat : Int)) W = some (.int .u64 ((a &&& b).toNat : Int), W) := by
  refine (oBin_and (P := Tryd.prog)).trans ?_
  show some (Value.int .u64 (IntKind.u64.wrap (((BitVec.ofInt 64 (a.toNat : Int) &&& BitVec.ofInt 64 (b.toNat : Int)).toNat : Nat) : Int)), W) = _
  rw [ofInt_bv, ofInt_bv, wrap_bv]
theorem shl_bv {x : Int} (h : 0 ≤ x ∧ x < 64) (c d : Bool) (W : AW) : oBin Tryd.prog .shl 23 c d (.int .u64 1) (.int .i64 x) W = some (.int .u64 ((BitVec.twoPow 64 x.toNat).toNat : Int), W) := by
  rw [oBin_shl h.1]
  have e : ((1 : Int) * 2 ^ min x.toNat IntKind.u64.bits) = ((BitVec.twoPow 64 x.toNat).toNat : Int) := by
    rw [BitVec.toNat_twoPow, Nat.mod_eq_of_lt (Nat.pow_lt_pow_right (by omega) (by omega))]
    have : min x.toNat IntKind.u64.bits = x.toNat := Nat.min_eq_left (by show x.toNat ≤ 64; omega)
    rw [this, Int.one_mul]
    simp
  rw [e, wrap_bv]
theorem bits_ok {l : List Int} {u : Value} {W : AW} (hu : Ints W u l) (hl : l.length < 900000) (hb : ∀ x ∈ l, 0 ≤ x ∧ x < 64) : omS (.func (.func 51) #[] #[]) [u] W = some (.int .u64 ((bitsB l).toNat : Int), W) := by
  refine om_drop rfl ?_ plans_bits_om
  unfold plans_bits
  simp only [SX, hu.len len38]
  refine Ok_loop l.length (by omega) (fun i R W' => W' = W ∧ R 3 = .int .u64 ((bitsB (l.take i)).toNat : Int) ∧ R 6 = u ∧ R 7 = .int .i64 (l.length : Int) ∧ R 8 = .int .i64 (i : Int))
    (fun r => r.2.2 = W ∧ r.1 = .exit 0 ∧ r.2.1 3 = .int .u64 ((bitsB l).toNat : Int)) ⟨rfl, rfl, rfl, rfl, rfl⟩ ?_ ?_ ?_
  · rintro i R W' hi ⟨rfl, f3, f6, f7, f8⟩
    unfold plans_bits_L1
    have e1 : ((i : Int) < (l.length : Int)) := by omega
    obtain ⟨p, p1, p2⟩ := hu.get hi
    have hx := hb _ (List.getElem_mem hi)
    have add1 : ∀ W', oBin Tryd.prog .add 3 false true (.int .i64 (i : Int)) (.int .i64 1) W' = some (.int .i64 ((i + 1 : Nat) : Int), W') := fun W' => oBin_add (by omega) (by omega)
    have ht : l.take (i + 1) = l.take i ++ [l[i]] := by rw [List.take_add_one, List.getElem?_eq_getElem hi]; rfl
    simp only [SX, f3, f6, f7, f8, e1, p1, p2 _ (.refl _), shl_bv hx, or_bv, add1, Ok_some]
    exact .inl ⟨trivial, trivial, by rw [ht, bitsB_snoc]; rfl, f6, f7, rfl⟩
  · rintro R W' ⟨rfl, f3, f6, f7, f8⟩
    unfold plans_bits_L1
    have e1 : ¬ ((l.length : Int) < (l.length : Int)) := by omega
    rw [List.take_length] at f3
    simp only [SX, f7, f8, e1, Ok_some]
    exact ⟨by simp, trivial, trivial, f3⟩
  · rintro ⟨x, R, W'⟩ ⟨hW, hx, f3⟩
    simp only at hW hx f3
    subst hW; subst hx
    simp only [SX, f3, Ok_some]
    exact ⟨trivial, .refl _⟩
theorem common_ok {a b : List Int} {u w : Value} {W : AW} (hu : Ints W u a) (hw : Ints W w b) (ha : a.length < 900000) (hb : b.length < 900000) : omS (.func (.func 52) #[] #[]) [u, w] W = some (.bool (commonL a b), W) := by
  refine om_drop rfl ?_ ref22_common_om
  unfold ref22_common
  have add1 : ∀ (k : Nat) (W' : AW), k < 1000000 → oBin Tryd.prog .add 3 false true (.int .i64 (k : Int)) (.int .i64 1) W' = some (.int .i64 ((k + 1 : Nat) : Int), W') := fun k W' hk => oBin_add (by omega) (by omega)
  simp only [SX]
  refine Ok_loop a.length (by omega) (fun i R W' => W' = W ∧ R 0 = u ∧ R 1 = w ∧ R 5 = .int .i64 (i : Int) ∧ ∀ x ∈ a.take i, (b.any fun y => decide (x = y)) = false)
    (fun r => r.2.2 = W ∧ ((r.1 = .exit 0 ∧ commonL a b = false) ∨ (r.1 = .ret ∧ r.2.1 4 = .bool true ∧ commonL a b = true))) ⟨rfl, rfl, rfl, rfl, by simp⟩ ?_ ?_ ?_
  · rintro i R W' hi ⟨rfl, f0, f1, f5, hno⟩
    unfold ref22_common_L1
    have e1 : ((i : Int) < (a.length : Int)) := by omega
    obtain ⟨p, p1, p2⟩ := hu.get hi
    simp only [SX, f0, f5, hu.len len38, e1]
    refine Ok_loop b.length (by omega) (fun j R W2 => W2 = W' ∧ R 0 = u ∧ R 1 = w ∧ R 5 = .int .i64 (i : Int) ∧ R 6 = .int .i64 (j : Int) ∧ ∀ y ∈ b.take j, a[i] ≠ y)
      (fun r => r.2.2 = W' ∧ ((r.1 = .exit 2 ∧ r.2.1 0 = u ∧ r.2.1 1 = w ∧ r.2.1 5 = .int .i64 (i : Int) ∧ ∀ y ∈ b, a[i] ≠ y) ∨ (r.1 = .ret ∧ r.2.1 4 = .bool true ∧ a[i] ∈ b))) ⟨rfl, f0, f1, f5, rfl, by simp⟩ ?_ ?_ ?_
    · rintro j R W2 hj ⟨rfl, f0, f1, f5, f6, hnj⟩
      unfold ref22_common_L1_L2
      have e3 : ((j : Int) < (b.length : Int)) := by omega
      obtain ⟨p', p1', p2'⟩ := hw.get hj
      simp only [SX, f0, f1, f5, f6, hw.len len38, e3, p1, p2 _ (.refl _), p1', p2' _ (.refl _)]
      by_cases t : a[i] = b[j]
      · simp only [SX, decide_eq_true t, Ok_some]
        exact .inr ⟨by simp, trivial, .inr ⟨trivial, rfl, by rw [t]; exact List.getElem_mem hj⟩⟩
      · simp only [SX, decide_eq_false t, f6, add1 j _ (by omega), Ok_some]
        refine .inl ⟨trivial, trivial, f0, f1, f5, rfl, fun y hy => ?_⟩
        rw [List.take_add_one, List.getElem?_eq_getElem hj] at hy
        rcases List.mem_append.1 hy with hy | hy
        · exact hnj y hy
        · have : y = b[j] := by simpa using hy
          rw [this]; exact t
    · rintro R W2 ⟨rfl, f0, f1, f5, f6, hnj⟩
      unfold ref22_common_L1_L2
      have e3 : ¬ ((b.length : Int) < (b.length : Int)) := by omega
      rw [List.take_length] at hnj
      simp only [SX, f1, f6, hw.len len38, e3, Ok_some]
      exact ⟨by simp, trivial, .inl ⟨trivial, f0, f1, f5, hnj⟩⟩
    · rintro ⟨x, R, W2⟩ ⟨hW, hq⟩
      simp only at hW hq
      subst hW
      rcases hq with ⟨rfl, f0, f1, f5, hnj⟩ | ⟨rfl, f4, hm⟩
      · simp only [SX, f5, add1 i _ (by omega), Ok_some]
        refine .inl ⟨trivial, trivial, f0, f1, rfl, fun x hx => ?_⟩
        rw [List.take_add_one, List.getElem?_eq_getElem hi] at hx
        rcases List.mem_append.1 hx with hx | hx
        · exact hno x hx
        · have : x = a[i] := by simpa using hx
          rw [this, List.any_eq_false]
          intro y hy
          simpa using hnj y hy
      · simp only [SX, Ok_some]
        refine .inr ⟨by simp, trivial, .inr ⟨trivial, f4, ?_⟩⟩
        unfold commonL
        simp only [List.any_eq_true, decide_eq_true_eq]
        exact ⟨_, List.getElem_mem hi, _, hm, rfl⟩
  · rintro R W' ⟨rfl, f0, f1, f5, hno⟩
    unfold ref22_common_L1
    have e1 : ¬ ((a.length : Int) < (a.length : Int)) := by omega
    rw [List.take_length] at hno
    simp only [SX, f0, f5, hu.len len38, e1, Ok_some]
    refine ⟨by simp, trivial, .inl ⟨trivial, ?_⟩⟩
    unfold commonL
    rw [List.any_eq_false]
    intro x hx
    rw [hno x hx]; simp
  · rintro ⟨x, R, W'⟩ ⟨hW, hq⟩
    simp only at hW hq
    subst hW
    rcases hq with ⟨rfl, hc⟩ | ⟨rfl, f4, hc⟩
    · simp only [SX, hc, Ok_some]
      exact ⟨trivial, .refl _⟩
    · simp only [SX, f4, hc, Ok_some]
      exact ⟨trivial, .refl _⟩
end Go.Proofs.YtfcfglpkgcheiaaDoor
/- PlansConflicts: what it answers. -/
namespace Go.Proofs.YtfcfglpkgcheiaaDoor
open Go Go.Eng
set_option linter.unusedVariables false
set_option linter.unusedSimpArgs false
set_option maxRecDepth 100000
def confE (v : Ven) (a b : OpT) : Bool × Int := if (locksE v a).2 = 0 then (if (locksE v b).2 = 0 then (commonL (locksE v a).1 (locksE v b).1, 0) else (false, (locksE v b).2)) else (false, (locksE v a).2)
theorem upTo_mem {n : Nat} {x : Int} : x ∈ upTo n ↔ 0 ≤ x ∧ x < n := by
  unfold upTo
  rw [List.mem_map]
  constructor
  · rintro ⟨i, hi, rfl⟩
    rw [List.mem_range] at hi
    omega
  · intro h
    exact ⟨x.toNat, by rw [List.mem_range]; omega, by omega⟩
theorem sortL_mem {l : List Int} {x : Int} : x ∈ sortL l ↔ x ∈ l := (List.mergeSort_perm l _).mem_iff
theorem covL_mem {sh fi : Int} {n : Nat} {x : Int} (hsh : 1 ≤ sh) (h : x ∈ covL sh fi n) : 0 ≤ x ∧ x < sh := by
  unfold covL at h
  obtain ⟨i, _, rfl⟩ := List.mem_map.1 h
  exact ⟨Int.emod_nonneg _ (by omega), Int.emod_lt_of_pos _ (by omega)⟩
theorem shardE_bound {v : Ven} (he : (venE v).2 = 0) (s : Int) : 0 ≤ (shardE v s).1 ∧ (shardE v s).1 < v.sh := by
  have hsh := venE_sh he
  unfold shardE
  split
  · exact ⟨Int.emod_nonneg _ (by omega), Int.emod_lt_of_pos _ (by omega)⟩
  · simp only; omega
theorem lockE_bound {v : Ven} (he : (venE v).2 = 0) (c : Int) : 0 ≤ (lockE v c).1 ∧ (lockE v c).1 < 64 ∧ ((lockE v c).2 = 0 → (lockE v c).1 < v.sh + v.secs.length) := by
  have hsh := venE_sh he
  have hg := (venE_good he).1.len
  unfold lockE
  split
  · rename_i h
    obtain ⟨-, h2, h3, -⟩ := ofE_zero h
    simp only
    omega
  · rename_i h
    simp only
    exact ⟨by omega, by omega, fun h2 => absurd h2 h⟩
/-- locks are less than sixty-four; where there is one, one is of the venue -/
theorem kindL_bound {v : Ven} (he : (venE v).2 = 0) (k s c : Int) : (∀ x ∈ kindL v k s c, 0 ≤ x ∧ x < 64) ∧ (kindL v k s c ≠ [] → ∃ x ∈ kindL v k s c, 0 ≤ x ∧ x < v.sh + v.secs.length) := by
  have hsh := venE_sh he
  have hg := venE_good he
  have hlen := hg.1.len
  have hsb := shardE_bound he s
  unfold kindL
  split
  · have hm := @upTo_mem (v.sh.toNat + v.secs.length)
    refine ⟨fun x hx => by have := hm.1 hx; omega, fun _ => ⟨0, hm.2 (by omega), by omega⟩⟩
  split
  · unfold coverE
    split
    · refine ⟨fun x hx => by have := covL_mem hsh.1 (sortL_mem.1 hx); omega, fun hne => ?_⟩
      obtain ⟨x, hx⟩ := List.exists_mem_of_ne_nil _ hne
      have := covL_mem hsh.1 (sortL_mem.1 hx)
      exact ⟨x, hx, by omega⟩
    · exact ⟨fun x hx => by simp at hx, fun h => absurd rfl h⟩
  split
  · have hlb := lockE_bound he ((placeE v s).1.1 : Int)
    split
    · refine ⟨fun x hx => ?_, fun _ => ⟨(shardE v s).1, by simp, by omega⟩⟩
      simp only [List.mem_cons, List.not_mem_nil, or_false] at hx
      rcases hx with rfl | rfl <;> omega
    · exact ⟨fun x hx => by simp at hx, fun h => absurd rfl h⟩
  split
  · split
    · refine ⟨fun x hx => ?_, fun _ => ⟨(shardE v s).1, by simp, by omega⟩⟩
      simp only [List.mem_cons, List.not_mem_nil, or_false] at hx
      subst hx; omega
    · exact ⟨fun x hx => by simp at hx, fun h => absurd rfl h⟩
  split
  · have hlb := lockE_bound he c
    split
    · rename_i h
      refine ⟨fun x hx => ?_, fun _ => ⟨(lockE v c).1, by simp, by have := hlb.2.2 h; omega⟩⟩
      simp only [List.mem_cons, List.not_mem_nil, or_false] at hx
      subst hx; omega
    · exact ⟨fun x hx => by simp at hx, fun h => absurd rfl h⟩
  · exact ⟨fun x hx => by simp at hx, fun h => absurd rfl h⟩
theorem locks_bound (v : Ven) (o : OpT) : ∀ x ∈ (locksE v o).1, 0 ≤ x ∧ x < 64 := by
  unfold locksE
  split
  · rename_i he
    split
    · exact (kindL_bound he _ _ _).1
    · intro x hx; simp at hx
  · intro x hx; simp at hx
theorem planConf_ok {v : Ven} {a b : OpT} {sv : Value} {W : AW} (hs : SecsC W sv v.secs) (hv : v.secs.length < 1000) (hG : GW W) : omS (.func (.func 25) #[] #[]) [venV v sv, opV a, opV b] W = some (.tuple #[.bool (confE v a b).1, .int .i64 (confE v a b).2], W) := by
  refine om_drop rfl ?_ plans_Conflict_om
  unfold plans_Conflict confE
  obtain ⟨W1, hB, hle, hn, c4, c0, c3⟩ := venBox v sv W
  obtain ⟨W2, b2, n2, l2, k12, k0⟩ := opBox a W1
  obtain ⟨W3, b3, n3, l3, j12, j0⟩ := opBox b W2
  have l03 := (hle.trans l2).trans l3
  obtain ⟨u, W4, q1, q2, q3⟩ := planLocks_ok (o := a) (hs.mono l03) hv (hG.mono l03)
  have ha := locksE_len v a
  simp only [SX, hB, b2, b3, c4 _ (l2.trans l3), k12 _ l3, q1]
  by_cases he : (locksE v a).2 = 0
  case neg =>
    simp only [SX, he, if_false, Ok_some]
    exact ⟨trivial, l03.trans q2⟩
  have l04 := l03.trans q2
  obtain ⟨u', W5, q1', q2', q3'⟩ := planLocks_ok (o := b) (hs.mono l04) hv (hG.mono l04)
  have hb := locksE_len v b
  simp only [SX, decide_eq_true he, if_pos he, c4 _ ((l2.trans l3).trans q2), j12 _ q2, q1']
  by_cases hf : (locksE v b).2 = 0
  case neg =>
    simp only [SX, hf, if_false, Ok_some]
    exact ⟨trivial, l04.trans q2'⟩
  have hc := bits_common (locks_bound v a) (locks_bound v b)
  simp only [SX, decide_eq_true hf, if_pos hf, bits_ok (q3.mono q2') (by omega) (locks_bound v a), bits_ok q3' (by omega) (locks_bound v b), and_bv, Ok_some]
  exact ⟨by rw [hc], l04.trans q2'⟩
theorem refConf_ok {v : Ven} {a b : OpT} {sv : Value} {W : AW} (hs : Secs W sv v.secs) (hv : v.secs.length < 1000) (hr : ∀ s ∈ v.secs, s.rows.length < 1000) : omS (.func (.func 26) #[] #[]) [venV v sv, opV a, opV b] W = some (.tuple #[.bool (confE v a b).1, .int .i64 (confE v a b).2], W) := by
  refine om_drop rfl ?_ ref22_Conflict_om
  unfold ref22_Conflict confE
  obtain ⟨W1, hB, hle, hn, c4, c0, c3⟩ := venBox v sv W
  obtain ⟨W2, b2, n2, l2, k12, k0⟩ := opBox a W1
  obtain ⟨W3, b3, n3, l3, j12, j0⟩ := opBox b W2
  have l03 := (hle.trans l2).trans l3
  obtain ⟨u, W4, q1, q2, q3⟩ := refLocks_ok (o := a) (hs.mono l03) hv hr
  have ha := locksE_len v a
  simp only [SX, hB, b2, b3, c4 _ (l2.trans l3), k12 _ l3, q1]
  by_cases he : (locksE v a).2 = 0
  case neg =>
    simp only [SX, he, if_false, Ok_some]
    exact ⟨trivial, l03.trans q2⟩
  have l04 := l03.trans q2
  obtain ⟨u', W5, q1', q2', q3'⟩ := refLocks_ok (o := b) (hs.mono l04) hv hr
  have hb := locksE_len v b
  simp only [SX, decide_eq_true he, if_pos he, c4 _ ((l2.trans l3).trans q2), j12 _ q2, q1']
  by_cases hf : (locksE v b).2 = 0
  case neg =>
    simp only [SX, hf, if_false, Ok_some]
    exact ⟨trivial, l04.trans q2'⟩
  simp only [SX, decide_eq_true hf, if_pos hf, common_ok (q3.mono q2') q3' (by omega) (by omega), Ok_some]
  exact ⟨trivial, l04.trans q2'⟩
def tickO : OpT := ⟨12, 0, 0, 0, 0, 0, 0, 0, 0, 0, 0, 7⟩
theorem bd27t (W : AW) : oBuild Tryd.prog 27 [(0, .int .i64 12), (8, .int .i64 7)] W = some (opV tickO, W) := Eq.trans (by kernel_rfl) rfl
theorem tgt_tick : tgtO tickO = (-1, -1, 0) := by decide +kernel
theorem locks_tick {v : Ven} (he : (venE v).2 = 0) : locksE v tickO = (upTo (v.sh.toNat + v.secs.length), 0) := by
  unfold locksE
  rw [if_pos he, tgt_tick, if_pos rfl]
  show (kindL v 12 (-1) (-1), (0 : Int)) = _
  rw [kindL_12]
theorem common_comm (a b : List Int) : commonL a b = commonL b a := by
  rw [Bool.eq_iff_iff]
  unfold commonL
  simp only [List.any_eq_true, decide_eq_true_eq]
  constructor
  · rintro ⟨x, hx, y, hy, rfl⟩; exact ⟨x, hy, x, hx, rfl⟩
  · rintro ⟨x, hx, y, hy, rfl⟩; exact ⟨x, hy, x, hx, rfl⟩
theorem common_self (a : List Int) : commonL a a = decide ((0 : Int) < (a.length : Int)) := by
  rw [Bool.eq_iff_iff]
  unfold commonL
  simp only [List.any_eq_true, decide_eq_true_eq]
  cases a with
  | nil => simp
  | cons x a => exact ⟨fun _ => by simp, fun _ => ⟨x, by simp, x, by simp, rfl⟩⟩
theorem locks_ven {v : Ven} {o : OpT} (h : (locksE v o).2 = 0) : (venE v).2 = 0 := by
  unfold locksE at h
  split at h
  · assumption
  · exact h
theorem common_tick {v : Ven} {o : OpT} (h : (locksE v o).2 = 0) : commonL (locksE v o).1 (locksE v tickO).1 = decide ((0 : Int) < ((locksE v o).1.length : Int)) := by
  have he := locks_ven h
  have hsh := venE_sh he
  rw [locks_tick he, Bool.eq_iff_iff]
  unfold commonL
  simp only [List.any_eq_true, decide_eq_true_eq]
  constructor
  · rintro ⟨x, hx, _⟩
    have := List.length_pos_of_mem hx
    omega
  · intro hl
    have hne : (locksE v o).1 ≠ [] := fun e => by rw [e] at hl; simp at hl
    have hk : ∃ x ∈ (locksE v o).1, 0 ≤ x ∧ x < v.sh + v.secs.length := by
      unfold locksE at hne ⊢
      rw [if_pos he] at hne ⊢
      split at hne
      · rename_i h2
        rw [if_pos h2]
        exact (kindL_bound he _ _ _).2 hne
      · exact absurd rfl hne
    obtain ⟨x, x1, x2, x3⟩ := hk
    exact ⟨x, x1, x, upTo_mem.2 (by omega), rfl⟩
theorem plansConflicts_om {v : Ven} {a b : OpT} {sv : Value} {W : AW} (hs : SecsC W sv v.secs) (hG : GW W) : omS (.func (.func 7) #[] #[]) [venV v sv, opV a, opV b] W = some (.bool true, W) := by
  refine om_drop rfl ?_ law22_PlansConflicts_om
  unfold law22_PlansConflicts
  obtain ⟨W1, hB, hle, hn, c4, c0, c3⟩ := venBox v sv W
  obtain ⟨W2, b2, n2, l2, k12, k0⟩ := opBox a W1
  obtain ⟨W3, b3, n3, l3, j12, j0⟩ := opBox b W2
  have l03 := (hle.trans l2).trans l3
  have l13 := l2.trans l3
  have hs3 := hs.mono l03
  have hG3 := hG.mono l03
  obtain ⟨w, w1, w2⟩ := wide_ok hs3.1
  simp only [SX, hB, b2, b3, c4 _ l13, w1]
  cases w
  case true =>
    simp only [SX, shown_ok hG3, Ok_some]
    exact ⟨trivial, l03⟩
  obtain ⟨w3, w4⟩ := w2 rfl
  have hv : v.secs.length < 1000 := by omega
  have hr : ∀ s ∈ v.secs, s.rows.length < 1000 := fun s h => by have := w4 s h; omega
  simp only [SX, c4 _ l13, k12 _ l3, j12 _ (.refl _), planConf_ok hs3 hv hG3, refConf_ok hs3.1 hv hr, oBin_bools_neq Tryd.underlying4, beq_self_eq_true, decide_true, Bool.not_true]
  by_cases hc : (confE v a b).2 = 0
  case neg =>
    simp only [SX, hc, shown_ok hG3, Ok_some]
    exact ⟨trivial, l03⟩
  have hab : (locksE v a).2 = 0 ∧ (locksE v b).2 = 0 := by
    unfold confE at hc
    split at hc
    · rename_i h1
      split at hc
      · rename_i h2; exact ⟨h1, h2⟩
      · rename_i h2; exact absurd hc h2
    · rename_i h1; exact absurd hc h1
  obtain ⟨ha, hb⟩ := hab
  have hve := locks_ven ha
  have e1 : confE v a b = (commonL (locksE v a).1 (locksE v b).1, 0) := by unfold confE; rw [if_pos ha, if_pos hb]
  have e2 : confE v b a = (commonL (locksE v a).1 (locksE v b).1, 0) := by unfold confE; rw [if_pos ha, if_pos hb, common_comm]
  have e3 : confE v a a = (decide ((0 : Int) < ((locksE v a).1.length : Int)), 0) := by unfold confE; rw [if_pos ha, if_pos ha, common_self]
  have e4 : confE v a tickO = (decide ((0 : Int) < ((locksE v a).1.length : Int)), 0) := by
    unfold confE
    rw [if_pos ha, if_pos (by rw [locks_tick hve]), common_tick ha]
  obtain ⟨u, W4, q1, q2, q3⟩ := planLocks_ok (o := a) hs3 hv hG3
  have hs4 := hs3.mono q2
  have hG4 := hG3.mono q2
  simp only [SX, e1, decide_true, c4 _ l13, k12 _ l3, j12 _ (.refl _), planConf_ok hs3 hv hG3, e2, q1, c4 _ (l13.trans q2), k12 _ (l3.trans q2), planConf_ok hs4 hv hG4, e3, bd27t, e4, ha, oBin_bools_eql Tryd.underlying4, beq_self_eq_true, q3.len len38, shown_ok hG4, Ok_some]
  exact ⟨trivial, l03.trans q2⟩
end Go.Proofs.YtfcfglpkgcheiaaDoor
/- A venue and an operation that are handed in, opened. -/
namespace Go.Proofs.YtfcfglpkgcheiaaDoor
open Go Go.Eng Go.RowKit
set_option linter.unusedVariables false
set_option linter.unusedSimpArgs false
set_option maxRecDepth 100000
theorem sec_of {W : AW} {n : Nat} {c : List Value} (h : DR Tryd.prog W (n + 3) 62 c) : ∃ s : Sec, ∀ pre post, SecAt W (pre ++ (c ++ post)) pre.length s := by
  obtain ⟨c1, c2, rfl, h1, h2⟩ := (h.struct Tryd.underlying62).cons
  obtain ⟨c3, c4, rfl, h3, h4⟩ := h2.cons
  obtain ⟨c5, c6, rfl, h5, h6⟩ := h4.cons
  obtain rfl := h6.nil
  obtain ⟨s, rfl, _⟩ := h1.str Tryd.underlying9
  obtain ⟨rv, zs, rfl, hz, _⟩ := h3.ints Tryd.underlying38 Tryd.underlying3 (by kernel_rfl)
  obtain ⟨q, rfl⟩ := h5.int Tryd.underlying3
  refine ⟨⟨s.data.toList, zs, q⟩, fun pre post => ⟨?_, ?_, rv, ?_, hz⟩⟩
  · rw [List.getElem?_append_right (by omega), bytesL_back]; simp
  · rw [List.getElem?_append_right (by omega), Nat.add_sub_cancel_left]; rfl
  · rw [List.getElem?_append_right (by omega), Nat.add_sub_cancel_left]; rfl
theorem ven_of {W : AW} {n : Nat} {c : List Value} (h : DR Tryd.prog W (n + 5) 36 c) : ∃ (v : Ven) (sv : Value), c = [.int .i64 v.sh, .int .i64 v.ttl, .int .i64 v.ses, sv] ∧ SecsC W sv v.secs := by
  obtain ⟨c1, c2, rfl, h1, h2⟩ := (h.struct Tryd.underlying36).cons
  obtain ⟨c3, c4, rfl, h3, h4⟩ := h2.cons
  obtain ⟨c5, c6, rfl, h5, h6⟩ := h4.cons
  obtain ⟨c7, c8, rfl, h7, h8⟩ := h6.cons
  obtain rfl := h8.nil
  obtain ⟨a, rfl⟩ := h1.int Tryd.underlying3
  obtain ⟨b, rfl⟩ := h3.int Tryd.underlying2
  obtain ⟨d, rfl⟩ := h5.int Tryd.underlying2
  obtain ⟨sv, l, rfl, hr⟩ := h7.row Tryd.underlying34 (at_ := SecAt W) (fun c _ hc => sec_of hc)
  exact ⟨⟨a, b, d, l⟩, sv, rfl, hr⟩
section
variable {H : Type} {enc : TypeId × Value → H} {w : World} {σ : Inj} {W : AW} {v0 : Value} {d : DataW H} {p : List MemPlace} {r : Reach} {b0 : Nat}
theorem agg_of {t : TypeId} {fs : Array Field} (ht : Tryd.prog.underlying t = some (.struct fs)) (hv : Value.okWide Tryd.prog w r b0 t v0) : ∃ cs, v0 = .agg cs := by
  unfold Value.okWide at hv
  rw [ht] at hv
  obtain ⟨cs, h, _⟩ := hv
  exact ⟨cs, h⟩
theorem sim36 : simT Tryd.prog 6 36 = true := by kernel_rfl
theorem openVen (ho : Opened σ W w) (hv : Value.okWide Tryd.prog w r b0 36 v0) (h : DataW.Trod enc Tryd.prog w 0 (fun _ => true) true 36 v0 d p) :
    ∃ (σ2 : Inj) (W2 : AW) (v : Ven) (sv : Value), Opened σ2 W2 w ∧ Sub σ σ2 ∧ Le W W2 ∧ VR σ2 (venV v sv) v0 ∧ SecsC W2 sv v.secs := by
  obtain ⟨cs, rfl⟩ := agg_of Tryd.underlying36 hv
  obtain ⟨m, hm⟩ := h
  obtain ⟨σ2, W2, cs2, o2, s2, l2, r2, a2⟩ := opens_trod sim36 hm σ W ho
  obtain ⟨v, sv, rfl, hs⟩ := ven_of a2
  exact ⟨σ2, W2, v, sv, o2, s2, l2, .agg' (a := #[.int .i64 v.sh, .int .i64 v.ttl, .int .i64 v.ses, sv]) r2, hs⟩
theorem opFlat : flatK Tryd.prog 4 27 = some [.i64, .u32, .i64, .i64, .i64, .i64, .u32, .u32, .u32, .u64, .u64, .i64] := by kernel_rfl
theorem openOp (hv : Value.okWide Tryd.prog w r b0 27 v0) (h : DataW.Trod enc Tryd.prog w 0 (fun _ => true) true 27 v0 d p) : ∃ o : OpT, v0 = opV o := by
  obtain ⟨ns, hn, rfl, rfl, again⟩ := open_flat Tryd.underlying27 opFlat hv h
  match ns, hn with
  | [a, b, c, d, e, f, g, h, i, j, k, l], _ => exact ⟨⟨a, b, c, d, e, f, g, h, i, j, k, l⟩, rfl⟩
end
theorem openG {w : World} (hl : LaidG [(0, usesV)] w.heap) : Opened (σG [(0, usesV)]) (WG [(0, usesV)] 1) w := ⟨rel_G (by decide) hl, allRo_G, 0, _, rfl⟩
theorem gw_le {W : AW} (h : Le (WG [(0, usesV)] 1) W) : GW W := gw_W.mono h
theorem opV_plain (o : OpT) : plain (opV o) = true := rfl
theorem kidsT : Kids Tryd.prog (· < Tryd.prog.types.size) := kids_rows (by kernel_rfl) (by kernel_rfl)
theorem fullT : ∀ t e, t < Tryd.prog.types.size → Tryd.prog.underlying t = some (.slice e) → 0 < Tryd.prog.cellsOf e := slices_full_of Tryd.prog (by kernel_rfl)
/-- what is opened is called -/
theorem open_calls (hok : CalleeOK Tryd.prog PlanTab.ng omS) {w : World} {σ : Inj} {W : AW} (ho : Opened σ W w) (hs : Sub (σG [(0, usesV)]) σ) {i : Nat} {args args' : List Value} (hr : LR σ args args') (h : omS (.func (.func i) #[] #[]) args W = some (.bool true, W)) :
    Calls Tryd.prog i args'.toArray w fun e w' => e = .returned (.bool true) ∧ Quiet w w' := by
  have hG : Glob σ [0] := fun g hg => by
    obtain ⟨e, he⟩ := (glob_G (gs := [(0, usesV)]) (ng := [0]) rfl) g hg
    exact ⟨e, hs _ _ he⟩
  exact om_calls hok ho.rel hG ho.ro hr rfl h
end Go.Proofs.YtfcfglpkgcheiaaDoor
