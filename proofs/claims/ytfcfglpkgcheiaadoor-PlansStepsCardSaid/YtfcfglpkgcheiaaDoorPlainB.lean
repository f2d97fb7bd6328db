/- Contracts of functions, and their laws. -/
import Derived.Test.YtfcfglpkgcheiaaDoorPlainA
import Derived.Test.YtfcfglpkgcheiaaDoorOpnA
/- The locks of an operation: the code's answer. -/
namespace Go.Proofs.YtfcfglpkgcheiaaDoor
open Go Go.Eng
set_option linter.unusedVariables false
set_option linter.unusedSimpArgs false
set_option maxRecDepth 100000
theorem kindL_1 (v : Ven) (s c : Int) : kindL v 1 s c = [] := by simp [kindL]
theorem kindL_3 (v : Ven) (s c : Int) : kindL v 3 s c = (coverE v c).1 := by simp [kindL]
theorem kindL_4 (v : Ven) (s c : Int) : kindL v 4 s c = (if (placeE v s).2 = 0 then [(shardE v s).1, (lockE v ((placeE v s).1.1 : Int)).1] else []) := by simp [kindL]
theorem kindL_7 (v : Ven) (s c : Int) : kindL v 7 s c = (if (placeE v s).2 = 0 then [(shardE v s).1, (lockE v ((placeE v s).1.1 : Int)).1] else []) := by simp [kindL]
theorem kindL_8 (v : Ven) (s c : Int) : kindL v 8 s c = (if (placeE v s).2 = 0 then [(shardE v s).1, (lockE v ((placeE v s).1.1 : Int)).1] else []) := by simp [kindL]
theorem kindL_2 (v : Ven) (s c : Int) : kindL v 2 s c = (if (placeE v s).2 = 0 then [(shardE v s).1] else []) := by simp [kindL]
theorem kindL_5 (v : Ven) (s c : Int) : kindL v 5 s c = (if (placeE v s).2 = 0 then [(shardE v s).1] else []) := by simp [kindL]
theorem kindL_6 (v : Ven) (s c : Int) : kindL v 6 s c = (if (placeE v s).2 = 0 then [(shardE v s).1] else []) := by simp [kindL]
theorem kindL_9 (v : Ven) (s c : Int) : kindL v 9 s c = (if (placeE v s).2 = 0 then [(shardE v s).1] else []) := by simp [kindL]
theorem kindL_10 (v : Ven) (s c : Int) : kindL v 10 s c = (if (lockE v c).2 = 0 then [(lockE v c).1] else []) := by simp [kindL]
theorem kindL_11 (v : Ven) (s c : Int) : kindL v 11 s c = (if (lockE v c).2 = 0 then [(lockE v c).1] else []) := by simp [kindL]
def upTo (n : Nat) : List Int := (List.range n).map fun (i : Nat) => (i : Int)
theorem upTo_succ (n : Nat) : upTo (n + 1) = upTo n ++ [(n : Int)] := by simp [upTo, List.range_succ]
theorem upTo_len (n : Nat) : (upTo n).length = n := by simp [upTo]
theorem kindL_12 (v : Ven) (s c : Int) : kindL v 12 s c = upTo (v.sh.toNat + v.secs.length) := by simp [kindL, upTo]
theorem planLocks_ok {v : Ven} {o : OpT} {sv : Value} {W : AW} (hs : SecsC W sv v.secs) (hv : v.secs.length < 1000) (hG : GW W) :
    ∃ u W2, omS (.func (.func 18) #[] #[]) [venV v sv, opV o] W = some (.tuple #[u, .int .i64 (locksE v o).2], W2) ∧ Le W W2 ∧ Ints W2 u (locksE v o).1 := by
  refine om_row2 ?_ plans_Locks_om
  unfold plans_Locks locksE
  obtain ⟨W1, hB, hle, hn, c4, c0, c3⟩ := venBox v sv W
  obtain ⟨W2, b2, n2, l2, k12, k0⟩ := opBox o W1
  have l02 := hle.trans l2
  have hsn := hle.next
  have hs2 := hs.mono l02
  simp only [SX, hB, b2, c4 _ l2, venCheck_ok hs2 hv]
  by_cases he : (venE v).2 = 0
  case neg =>
    simp only [SX, he, if_false, Ok_some]
    exact ⟨_, rfl, l02, Row.nil⟩
  simp only [SX, decide_eq_true he, if_pos he, k12 _ (.refl _), planTgt_ok o (hG.mono l02)]
  by_cases ht : (tgtO o).2.2 = 0
  case neg =>
    simp only [SX, ht, if_false, Ok_some]
    exact ⟨_, rfl, l02, Row.nil⟩
  have hk := tgtO_range ht
  simp only [SX, decide_eq_true ht, if_pos ht, Nat.zero_add, k0 _ (.refl _)]
  clear ht k12 k0 b2
  generalize (tgtO o).1 = s, (tgtO o).2.1 = c, o.k = kk at *
  have hkk : kk = 1 ∨ kk = 3 ∨ kk = 12 ∨ (kk = 2 ∨ kk = 5 ∨ kk = 6 ∨ kk = 9) ∨ (kk = 4 ∨ kk = 7 ∨ kk = 8) ∨ (kk = 10 ∨ kk = 11) := by omega
  rcases hkk with rfl | rfl | rfl | hkk | hkk | hkk
  · rw [kindL_1]
    simp only [SX, Int.reduceEq, Ok_some]
    exact ⟨_, rfl, l02, Row.nil⟩
  · rw [kindL_3]
    obtain ⟨u, W4, q1, q2, q3⟩ := cover_ok (sec := c) hs2 hv
    simp only [SX, Int.reduceEq, c4 _ l2, q1]
    by_cases hc : (coverE v c).2 = 0
    · simp only [SX, decide_eq_true hc, Ok_some]
      exact ⟨_, rfl, l02.trans q2, q3⟩
    · rw [cover_none hc]
      simp only [SX, hc, Ok_some]
      exact ⟨_, rfl, l02.trans q2, Row.nil⟩
  · rw [kindL_12]
    have hsh := venE_sh he
    have ea : ∀ W', oBin Tryd.prog .add 3 false false (.int .i64 v.sh) (.int .i64 (v.secs.length : Int)) W' = some (.int .i64 ((v.sh.toNat + v.secs.length : Nat) : Int), W') := fun W' => by
      rw [oBin_add (by omega) (by omega)]; congr 3; omega
    simp only [SX, Int.reduceEq, Nat.zero_add, c0 _ l2, c3 _ l2, hs2.1.len len34, ea]
    generalize hm : v.sh.toNat + v.secs.length = m at *
    refine Ok_loop m (by omega) (fun i R W' => Le W2 W' ∧ R 63 = .int .i64 (m : Int) ∧ R 64 = .int .i64 (i : Int) ∧ ∃ u, R 11 = u ∧ Lst W2.next W' 1 intC u (upTo i))
      (fun r => Le W2 r.2.2 ∧ r.1 = .exit 6 ∧ ∃ u, r.2.1 11 = u ∧ Lst W2.next r.2.2 1 intC u (upTo m)) ⟨.refl _, rfl, rfl, _, rfl, .nil _ _ _ _⟩ ?_ ?_ ?_
    · rintro i R W' hi ⟨hl, f63, f64, u, f11, hL⟩
      unfold plans_Locks_L1
      have e1 : ((i : Int) < (m : Int)) := by omega
      have eb : ∀ W', oBin Tryd.prog .add 3 false true (.int .i64 (i : Int)) (.int .i64 1) W' = some (.int .i64 ((i + 1 : Nat) : Int), W') := fun W' => oBin_add (by omega) (by omega)
      have hLm := hL.mono ((Le.refl W').add (.cells [.int .i64 (i : Int)]))
      obtain ⟨v', W3, q1, q2, q3, q4⟩ := Lst.push (P := Tryd.prog) (a := (i : Int)) (b := W'.next) (c := 1) ap38 intC_len intC_one hLm cellsAt_new (by rw [upTo_len]; omega) (by rw [upTo_len]; omega) (by rw [AW.add_next]; have := hl.next; omega)
      simp only [SX, f63, f64, f11, e1, bs38, q1, eb, Ok_some]
      exact .inl ⟨trivial, q4 _ (hl.add _) (Nat.le_refl _), f63, rfl, _, rfl, by rw [upTo_succ]; exact q2⟩
    · rintro R W' ⟨hl, f63, f64, u, f11, hL⟩
      unfold plans_Locks_L1
      have e1 : ¬ ((m : Int) < (m : Int)) := by omega
      simp only [SX, f63, f64, e1, Ok_some]
      exact ⟨by simp, hl, trivial, u, f11, hL⟩
    · rintro ⟨x, R, W'⟩ ⟨hl, hx, u, f11, hL⟩
      simp only at hl hx f11 hL
      subst hx
      simp only [SX, f11, Ok_some]
      exact ⟨_, rfl, l02.trans hl, hL.ints⟩
  · rcases hkk with rfl | rfl | rfl | rfl <;> (
      first | rw [kindL_2] | rw [kindL_5] | rw [kindL_6] | rw [kindL_9]
      simp only [SX, Int.reduceEq, c4 _ l2, shard_ok hs2 hv, shard_place]
      by_cases hp : (placeE v s).2 = 0
      · simp only [SX, decide_eq_true hp, if_pos hp, bs38, ap_zero, Ok_some]
        exact ⟨_, rfl, l02.add _, lit38 _ _⟩
      · simp only [SX, hp, if_false, Ok_some]
        exact ⟨_, rfl, l02, Row.nil⟩)
  · obtain ⟨W3, b3, n3, l3, r3⟩ := new65 W2
    have l2X := l3.put (Nat.le_refl _) (.cells [.int .i64 ((placeE v s).1.1 : Int), .int .i64 ((placeE v s).1.2.1 : Int), .int .i64 ((placeE v s).1.2.2 : Int)])
    have rX := rwCells_put (W := W3) (b := W2.next) [.int .i64 ((placeE v s).1.1 : Int), .int .i64 ((placeE v s).1.2.1 : Int), .int .i64 ((placeE v s).1.2.2 : Int)]
    have hk4 : kindL v kk s c = (if (placeE v s).2 = 0 then [(shardE v s).1, (lockE v ((placeE v s).1.1 : Int)).1] else []) := by
      rcases hkk with rfl | rfl | rfl
      · exact kindL_4 _ _ _
      · exact kindL_7 _ _ _
      · exact kindL_8 _ _ _
    rw [hk4]
    rcases hkk with rfl | rfl | rfl <;> (
      simp only [SX, Int.reduceEq, c4 _ l2, place_ok hs2 hv, b3, stV3i r3]
      generalize W3.put W2.next (.cells [.int .i64 ((placeE v s).1.1 : Int), .int .i64 ((placeE v s).1.2.1 : Int), .int .i64 ((placeE v s).1.2.2 : Int)]) = X at *
      by_cases hp : (placeE v s).2 = 0
      · simp only [SX, decide_eq_true hp, if_pos hp, c4 _ (l2.trans l2X), Nat.zero_add, ldR (o := 0) rX rfl, lock_ok (hs2.mono l2X) hv, bs38, ap_one]
        have lY := (l2X.add (.cells [.int .i64 (lockE v ((placeE v s).1.1 : Int)).1])).add (.cells [.int .i64 (lockE v ((placeE v s).1.1 : Int)).1])
        have hY : cellsAt ((X.add (.cells [.int .i64 (lockE v ((placeE v s).1.1 : Int)).1])).add (.cells [.int .i64 (lockE v ((placeE v s).1.1 : Int)).1])) (X.add (.cells [.int .i64 (lockE v ((placeE v s).1.1 : Int)).1])).next = some [.int .i64 (lockE v ((placeE v s).1.1 : Int)).1] := cellsAt_new
        have hY2 : (X.add (.cells [.int .i64 (lockE v ((placeE v s).1.1 : Int)).1])).next < ((X.add (.cells [.int .i64 (lockE v ((placeE v s).1.1 : Int)).1])).add (.cells [.int .i64 (lockE v ((placeE v s).1.1 : Int)).1])).next := Nat.lt_of_lt_of_eq (Nat.lt_succ_self _) (AW.add_next _ _).symm
        generalize (X.add (.cells [.int .i64 (lockE v ((placeE v s).1.1 : Int)).1])).add (.cells [.int .i64 (lockE v ((placeE v s).1.1 : Int)).1]) = Y at *
        simp only [SX, c4 _ (l2.trans lY), shard_ok (hs2.mono lY) hv, shard_place, decide_eq_true hp, bs38, ap_two _ _ hY hY2, Ok_some]
        exact ⟨_, rfl, ((l02.trans lY).add _).add _, two38 _ _ _⟩
      · simp only [SX, hp, if_false, c4 _ (l2.trans l2X), shard_ok (hs2.mono l2X) hv, shard_place, Ok_some]
        exact ⟨_, rfl, l02.trans l2X, Row.nil⟩)
  · rcases hkk with rfl | rfl <;> (
      first | rw [kindL_10] | rw [kindL_11]
      simp only [SX, Int.reduceEq, c4 _ l2, lock_ok hs2 hv]
      by_cases hp : (lockE v c).2 = 0
      · simp only [SX, decide_eq_true hp, if_pos hp, bs38, ap_one, Ok_some]
        exact ⟨_, rfl, (l02.add _).add _, one38 _ _⟩
      · simp only [SX, hp, if_false, Ok_some]
        exact ⟨_, rfl, l02, Row.nil⟩)
end Go.Proofs.YtfcfglpkgcheiaaDoor
/- The locks of an operation: the document's answer. -/
namespace Go.Proofs.YtfcfglpkgcheiaaDoor
open Go Go.Eng
set_option linter.unusedVariables false
set_option linter.unusedSimpArgs false
set_option maxRecDepth 100000
theorem bs38_2 (a b : Int) (W : AW) : oBuildSlice Tryd.prog 38 2 [(0, .int .i64 a), (1, .int .i64 b)] W = some (.slice (some ⟨W.next, 0, none⟩) 2 2, W.add (.cells [.int .i64 a, .int .i64 b])) := Eq.trans (by kernel_rfl) rfl
theorem lit38_2 (x y : Int) (W : AW) : Ints (W.add (.cells [.int .i64 x, .int .i64 y])) (.slice (some ⟨W.next, 0, none⟩) 2 2) [x, y] := ints_new [x, y] _ W
/-- what an operation speaks of, by its kind -/
theorem tgtO_kind {o : OpT} (h : (tgtO o).2.2 = 0) : ((o.k = 3 ∨ o.k = 10 ∨ o.k = 11) ∧ (tgtO o).1 = -1) ∨ ((o.k = 1 ∨ o.k = 12) ∧ (tgtO o).1 = -1 ∧ (tgtO o).2.1 = -1) ∨ ((o.k = 2 ∨ o.k = 4 ∨ o.k = 5 ∨ o.k = 8 ∨ o.k = 6 ∨ o.k = 7 ∨ o.k = 9) ∧ (tgtO o).2.1 = -1) := by
  have hr := tgtO_range h
  unfold tgtO tgtE at h ⊢
  split at h
  · rename_i h2; exact absurd h h2
  rename_i h2
  rw [if_neg h2]
  split
  · exact .inr (.inr ⟨by omega, rfl⟩)
  split
  · exact .inr (.inr ⟨by omega, rfl⟩)
  split
  · exact .inl ⟨by omega, rfl⟩
  · exact .inr (.inl ⟨by omega, rfl, rfl⟩)
theorem refLocks_ok {v : Ven} {o : OpT} {sv : Value} {W : AW} (hs : Secs W sv v.secs) (hv : v.secs.length < 1000) (hr : ∀ s ∈ v.secs, s.rows.length < 1000) :
    ∃ u W2, omS (.func (.func 19) #[] #[]) [venV v sv, opV o] W = some (.tuple #[u, .int .i64 (locksE v o).2], W2) ∧ Le W W2 ∧ Ints W2 u (locksE v o).1 := by
  refine om_row2 ?_ ref22_Locks_om
  unfold ref22_Locks locksE
  obtain ⟨W1, hB, hle, hn, c4, c0, c3⟩ := venBox v sv W
  obtain ⟨W2, b2, n2, l2, k12, k0⟩ := opBox o W1
  have l02 := hle.trans l2
  have hsn := hle.next
  have hs2 := hs.mono l02
  simp only [SX, hB, b2, c4 _ l2, refVen_ok hs2 hv hr]
  by_cases he : (venE v).2 = 0
  case neg =>
    simp only [SX, he, if_false, Ok_some]
    exact ⟨_, rfl, l02, Row.nil⟩
  simp only [SX, decide_eq_true he, if_pos he, k12 _ (.refl _), refTgt_ok o]
  by_cases ht : (tgtO o).2.2 = 0
  case neg =>
    simp only [SX, ht, if_false, Ok_some]
    exact ⟨_, rfl, l02, Row.nil⟩
  have hk := tgtO_kind ht
  simp only [SX, decide_eq_true ht, if_pos ht, Nat.zero_add, k0 _ (.refl _)]
  clear ht k12 b2
  generalize (tgtO o).1 = s, (tgtO o).2.1 = c, o.k = kk at *
  have k0' : ∀ W', Le W2 W' → ldC (.pointer (some ⟨W1.next, 0, none⟩)) W' = some (.int .i64 kk, W') := k0
  clear k0
  rcases hk with ⟨hkk, rfl⟩ | ⟨hkk, rfl, rfl⟩ | ⟨hkk, rfl⟩
  · -- what speaks of a section
    have ge1 : ¬ ((0 : Int) ≤ -1) := by decide
    rcases hkk with rfl | hkk
    · rw [kindL_3]
      obtain ⟨u, W4, q1, q2, q3⟩ := refCover_ok (sec := c) hs2 hv hr
      by_cases hc0 : 0 ≤ c
      · simp only [SX, Int.reduceEq, k0' _ (.refl _), decide_eq_true hc0, wnt_undef, c4 _ l2, refLock_ok hs2 hv hr, ← cover_lock]
        by_cases hc : (coverE v c).2 = 0
        · simp only [SX, decide_eq_true hc, Nat.zero_add, Int.reduceEq, k0' _ (.refl _), c4 _ l2, q1, hc, Ok_some]
          exact ⟨_, rfl, l02.trans q2, q3⟩
        · rw [cover_none hc]
          simp only [SX, hc, Ok_some]
          exact ⟨_, rfl, l02, Row.nil⟩
      · simp only [SX, Int.reduceEq, Nat.zero_add, k0' _ (.refl _), decide_eq_false hc0, wnt_undef, c4 _ l2, refLock_ok hs2 hv hr, ← cover_lock]
        by_cases hc : (coverE v c).2 = 0
        · simp only [SX, decide_eq_true hc, Nat.zero_add, Int.reduceEq, k0' _ (.refl _), c4 _ l2, q1, hc, Ok_some]
          exact ⟨_, rfl, l02.trans q2, q3⟩
        · rw [cover_none hc]
          simp only [SX, hc, Ok_some]
          exact ⟨_, rfl, l02, Row.nil⟩
    · rcases hkk with rfl | rfl <;> (
        first | rw [kindL_10] | rw [kindL_11]
        by_cases hc0 : 0 ≤ c
        · simp only [SX, Int.reduceEq, Nat.zero_add, k0' _ (.refl _), decide_eq_true hc0, wnt_undef, c4 _ l2, refLock_ok hs2 hv hr]
          by_cases hp : (lockE v c).2 = 0
          · simp only [SX, decide_eq_true hp, if_pos hp, Nat.zero_add, Int.reduceEq, k0' _ (.refl _), bs38, Ok_some]
            exact ⟨_, rfl, l02.add _, lit38 _ _⟩
          · simp only [SX, hp, if_false, Ok_some]
            exact ⟨_, rfl, l02, Row.nil⟩
        · simp only [SX, Int.reduceEq, Nat.zero_add, k0' _ (.refl _), decide_eq_false hc0, wnt_undef, c4 _ l2, refLock_ok hs2 hv hr]
          by_cases hp : (lockE v c).2 = 0
          · simp only [SX, decide_eq_true hp, if_pos hp, Nat.zero_add, Int.reduceEq, k0' _ (.refl _), bs38, Ok_some]
            exact ⟨_, rfl, l02.add _, lit38 _ _⟩
          · simp only [SX, hp, if_false, Ok_some]
            exact ⟨_, rfl, l02, Row.nil⟩)
  · rcases hkk with rfl | rfl
    · rw [kindL_1]
      simp only [SX, Int.reduceEq, Nat.zero_add, k0' _ (.refl _), Ok_some]
      exact ⟨_, rfl, l02, Row.nil⟩
    · rw [kindL_12]
      have hsh := venE_sh he
      have ea : ∀ W', oBin Tryd.prog .add 3 false false (.int .i64 v.sh) (.int .i64 (v.secs.length : Int)) W' = some (.int .i64 ((v.sh.toNat + v.secs.length : Nat) : Int), W') := fun W' => by
        rw [oBin_add (by omega) (by omega)]; congr 3; omega
      simp only [SX, Int.reduceEq]
      refine Ok_loop (v.sh.toNat + v.secs.length) (by omega) (fun i R W' => Le W2 W' ∧ R 2 = .pointer (some ⟨W.next, 0, none⟩) ∧ R 11 = .int .i64 (i : Int) ∧ ∃ u, R 10 = u ∧ Lst W2.next W' 1 intC u (upTo i))
        (fun r => Le W2 r.2.2 ∧ r.1 = .exit 0 ∧ ∃ u, r.2.1 10 = u ∧ Lst W2.next r.2.2 1 intC u (upTo (v.sh.toNat + v.secs.length))) ⟨.refl _, rfl, rfl, _, rfl, .nil _ _ _ _⟩ ?_ ?_ ?_
      · rintro i R W' hi ⟨hl, f2, f11, u, f10, hL⟩
        unfold ref22_Locks_L1
        have e1 : ((i : Int) < ((v.sh.toNat + v.secs.length : Nat) : Int)) := by omega
        have eb : ∀ W', oBin Tryd.prog .add 3 false true (.int .i64 (i : Int)) (.int .i64 1) W' = some (.int .i64 ((i + 1 : Nat) : Int), W') := fun W' => oBin_add (by omega) (by omega)
        have hLm := hL.mono ((Le.refl W').add (.cells [.int .i64 (i : Int)]))
        obtain ⟨v', W3, q1, q2, q3, q4⟩ := Lst.push (P := Tryd.prog) (a := (i : Int)) (b := W'.next) (c := 1) ap38 intC_len intC_one hLm cellsAt_new (by rw [upTo_len]; omega) (by rw [upTo_len]; omega) (by rw [AW.add_next]; have := hl.next; omega)
        simp only [SX, f2, f11, f10, Nat.zero_add, c0 _ (l2.trans hl), c3 _ (l2.trans hl), (hs2.mono hl).len len34, ea, e1, bs38, q1, eb, Ok_some]
        exact .inl ⟨trivial, q4 _ (hl.add _) (Nat.le_refl _), f2, rfl, _, rfl, by rw [upTo_succ]; exact q2⟩
      · rintro R W' ⟨hl, f2, f11, u, f10, hL⟩
        unfold ref22_Locks_L1
        have e1 : ¬ (((v.sh.toNat + v.secs.length : Nat) : Int) < ((v.sh.toNat + v.secs.length : Nat) : Int)) := by omega
        simp only [SX, f2, f11, Nat.zero_add, c0 _ (l2.trans hl), c3 _ (l2.trans hl), (hs2.mono hl).len len34, ea, e1, Ok_some]
        exact ⟨by simp, hl, trivial, u, f10, hL⟩
      · rintro ⟨x, R, W'⟩ ⟨hl, hx, u, f10, hL⟩
        simp only at hl hx f10 hL
        subst hx
        simp only [SX, f10, Ok_some]
        exact ⟨_, rfl, l02.trans hl, hL.ints⟩
  · -- what speaks of a seat
    have ge1 : ¬ ((0 : Int) ≤ -1) := by decide
    obtain ⟨W3, b3, n3, l3, r3⟩ := new65 W2
    have l2X := l3.put (Nat.le_refl _) (.cells [.int .i64 ((placeE v s).1.1 : Int), .int .i64 ((placeE v s).1.2.1 : Int), .int .i64 ((placeE v s).1.2.2 : Int)])
    have rX := rwCells_put (W := W3) (b := W2.next) [.int .i64 ((placeE v s).1.1 : Int), .int .i64 ((placeE v s).1.2.1 : Int), .int .i64 ((placeE v s).1.2.2 : Int)]
    rcases hkk with rfl | rfl | rfl | rfl | rfl | rfl | rfl <;> (
      first | rw [kindL_2] | rw [kindL_4] | rw [kindL_5] | rw [kindL_8] | rw [kindL_6] | rw [kindL_7] | rw [kindL_9]
      simp only [SX, Int.reduceEq, Nat.zero_add, k0' _ (.refl _), ge1, wnt_undef, c4 _ l2, refPlace_ok hs2 hv hr, b3, stV3i r3]
      generalize W3.put W2.next (.cells [.int .i64 ((placeE v s).1.1 : Int), .int .i64 ((placeE v s).1.2.1 : Int), .int .i64 ((placeE v s).1.2.2 : Int)]) = X at *
      by_cases hp : (placeE v s).2 = 0
      · simp only [SX, Int.reduceEq, decide_eq_true hp, if_pos hp, wnt_undef, k0' _ l2X, c4 _ (l2.trans l2X), Nat.zero_add, refShard_ok (hs2.mono l2X) hv hr, ldR (o := 0) rX rfl, refLock_ok (hs2.mono l2X) hv hr, bs38, bs38_2, Ok_some]
        exact ⟨_, rfl, (l02.trans l2X).add _, by first | exact lit38 _ _ | exact lit38_2 _ _ _⟩
      · simp only [SX, hp, if_false, Ok_some]
        exact ⟨_, rfl, l02.trans l2X, Row.nil⟩)
end Go.Proofs.YtfcfglpkgcheiaaDoor
/- PlansLocks: what it answers. -/
namespace Go.Proofs.YtfcfglpkgcheiaaDoor
open Go Go.Eng
set_option linter.unusedVariables false
set_option linter.unusedSimpArgs false
set_option maxRecDepth 100000
theorem wide_ok {v : Ven} {sv : Value} {W : AW} (hs : Secs W sv v.secs) : ∃ b, omS (.func (.func 17) #[] #[]) [venV v sv] W = some (.bool b, W) ∧ (b = false → v.secs.length ≤ 10 ∧ ∀ s ∈ v.secs, s.rows.length ≤ 20) := by
  have main : Ok (law22_wide omS (venV v sv) W) fun r => ∃ b, r.1 = .bool b ∧ Le W r.2 ∧ (b = false → v.secs.length ≤ 10 ∧ ∀ s ∈ v.secs, s.rows.length ≤ 20) := by
    unfold law22_wide
    obtain ⟨W1, hB, hle, hn, c4, c0, c3⟩ := venBox v sv W
    have hs1 := hs.mono hle
    simp only [SX, hB]
    have hm : min v.secs.length 20 ≤ v.secs.length ∧ min v.secs.length 20 ≤ 20 := by omega
    refine Ok_loop (min v.secs.length 20) (by omega) (fun i R W' => W' = W1 ∧ R 1 = .pointer (some ⟨W.next, 0, none⟩) ∧ R 3 = .int .i64 (i : Int) ∧ ∀ j (h : j < v.secs.length), j < i → v.secs[j].rows.length ≤ 20)
      (fun r => r.2.2 = W1 ∧ ((r.1 = .exit 0 ∧ r.2.1 1 = .pointer (some ⟨W.next, 0, none⟩) ∧ ∀ j (h : j < v.secs.length), j < min v.secs.length 20 → v.secs[j].rows.length ≤ 20) ∨ (r.1 = .ret ∧ r.2.1 2 = .bool true))) ⟨rfl, rfl, rfl, fun j h hj => by omega⟩ ?_ ?_ ?_
    · rintro i R W' hi ⟨rfl, f1, f3, hj⟩
      unfold law22_wide_L1
      have e1 : ((i : Int) < (v.secs.length : Int)) := by omega
      have e2 : ((i : Int) < 20) := by omega
      have hi2 : i < v.secs.length := by omega
      obtain ⟨b, o, rv, p1, p2, -, p4, p5, -⟩ := hs1.get hi2
      have eb : ∀ W', oBin Tryd.prog .add 3 false true (.int .i64 (i : Int)) (.int .i64 1) W' = some (.int .i64 ((i + 1 : Nat) : Int), W') := fun W' => oBin_add (by omega) (by omega)
      simp only [SX, f1, f3, Nat.zero_add, c3 _ (.refl _), hs1.len len34, e1, decide_true, e2, p1, Nat.add_zero, p4 _ (.refl _), str_len len9]
      by_cases t1 : 100 < (v.secs[i].name.length : Int)
      · simp only [SX, decide_eq_true t1, Ok_some]
        exact .inr ⟨by simp, trivial, .inr ⟨trivial, rfl⟩⟩
      simp only [SX, decide_eq_false t1, f1, f3, Nat.zero_add, c3 _ (.refl _), p1, p5 _ (.refl _), p2.len lenI]
      by_cases t2 : 20 < (v.secs[i].rows.length : Int)
      · simp only [SX, decide_eq_true t2, Ok_some]
        exact .inr ⟨by simp, trivial, .inr ⟨trivial, rfl⟩⟩
      simp only [SX, decide_eq_false t2, f3, eb, Ok_some]
      refine .inl ⟨trivial, trivial, f1, rfl, fun j h hji => ?_⟩
      by_cases hji2 : j < i
      · exact hj j h hji2
      · obtain rfl : j = i := by omega
        omega
    · rintro R W' ⟨rfl, f1, f3, hj⟩
      unfold law22_wide_L1
      simp only [SX, f1, f3, Nat.zero_add, c3 _ (.refl _), hs1.len len34]
      by_cases e1 : ((min v.secs.length 20 : Nat) : Int) < (v.secs.length : Int)
      · have e2 : ¬ (((min v.secs.length 20 : Nat) : Int) < 20) := by omega
        simp only [SX, decide_eq_true e1, f3, decide_eq_false e2, Ok_some]
        exact ⟨by simp, trivial, .inl ⟨trivial, f1, hj⟩⟩
      · simp only [SX, decide_eq_false e1, Ok_some]
        exact ⟨by simp, trivial, .inl ⟨trivial, f1, hj⟩⟩
    · rintro ⟨x, R, W'⟩ ⟨hW, hq⟩
      simp only at hW hq
      subst hW
      rcases hq with ⟨rfl, f1, hj⟩ | ⟨rfl, f2⟩
      · simp only [SX, f1, Nat.zero_add, c3 _ (.refl _), hs1.len len34, Ok_some]
        refine ⟨_, rfl, hle, fun hb => ?_⟩
        have hl := of_decide_eq_false hb
        refine ⟨by omega, fun s hs => ?_⟩
        obtain ⟨j, hj2, rfl⟩ := List.getElem_of_mem hs
        exact hj j hj2 (by omega)
      · simp only [SX, f2, Ok_some]
        exact ⟨_, rfl, hle, fun hb => by cases hb⟩
  obtain ⟨⟨r, W'⟩, h1, b, h2, h3, h4⟩ := main
  simp only at h2 h3
  subst h2
  exact ⟨b, by rw [law22_wide_om h1, gc_bool h3], h4⟩
theorem ints_ok {a b : Value} {la lb : List Int} {W : AW} (ha : Ints W a la) (hb : Ints W b lb) (hl : la.length < 900000) : omS (.func (.func 20) #[] #[]) [a, b] W = some (.bool (decide (la = lb)), W) := by
  refine om_drop rfl ?_ law22_ints_om
  unfold law22_ints
  simp only [SX, Ints_ok ha hb hl, Ok_some]
  exact ⟨trivial, .refl _⟩
theorem kindL_len (v : Ven) (he : (venE v).2 = 0) (k s c : Int) : (kindL v k s c).length ≤ 24 := by
  have hsh := venE_sh he
  have hg := (venE_good he).1.len
  unfold kindL
  split
  · rw [List.length_map, List.length_range]; omega
  split
  · unfold coverE
    split
    · rw [sortL_len, covL_len]; omega
    · simp
  split
  · split <;> simp
  split
  · split <;> simp
  split
  · split <;> simp
  · simp
theorem locksE_len (v : Ven) (o : OpT) : (locksE v o).1.length ≤ 24 := by
  unfold locksE
  split
  · rename_i he
    split
    · exact kindL_len v he _ _ _
    · simp
  · simp
theorem plansLocks_om {v : Ven} {o : OpT} {sv : Value} {W : AW} (hs : SecsC W sv v.secs) (hG : GW W) : omS (.func (.func 4) #[] #[]) [venV v sv, opV o] W = some (.bool true, W) := by
  refine om_drop rfl ?_ law22_PlansLocks_om
  unfold law22_PlansLocks
  obtain ⟨W1, hB, hle, hn, c4, c0, c3⟩ := venBox v sv W
  obtain ⟨W2, b2, n2, l2, k12, k0⟩ := opBox o W1
  have l02 := hle.trans l2
  obtain ⟨b, w1, w2⟩ := wide_ok (hs.mono l02).1
  simp only [SX, hB, b2, c4 _ l2, w1]
  cases b
  case true =>
    simp only [SX, shown_ok (hG.mono l02), Ok_some]
    exact ⟨trivial, l02⟩
  obtain ⟨w3, w4⟩ := w2 rfl
  have hv : v.secs.length < 1000 := by omega
  have hr : ∀ s ∈ v.secs, s.rows.length < 1000 := fun s h => by have := w4 s h; omega
  obtain ⟨u, W3, q1, q2, q3⟩ := planLocks_ok (o := o) (hs.mono l02) hv (hG.mono l02)
  have l03 := l02.trans q2
  obtain ⟨u', W4, q1', q2', q3'⟩ := refLocks_ok (o := o) (hs.mono l03).1 hv hr
  have l04 := l03.trans q2'
  have hlen := locksE_len v o
  simp only [SX, c4 _ l2, k12 _ (.refl _), q1, c4 _ (l2.trans q2), k12 _ q2, q1', ints_ok (q3.mono q2') q3' (by omega), decide_true, shown_ok (hG.mono l04), Ok_some]
  exact ⟨trivial, l04⟩
end Go.Proofs.YtfcfglpkgcheiaaDoor
/- The steps of an operation: the document's list, how many there are. -/
namespace Go.Proofs.YtfcfglpkgcheiaaDoor
open Go Go.Eng
set_option linter.unusedVariables false
set_option linter.unusedSimpArgs false
set_option maxRecDepth 100000
theorem g46 : Tryd.prog.eqGuardType Tryd.prog.depth 46 = false := by kernel_rfl
theorem q46 (a b a' b' : Int) : aEqS Tryd.prog 8 46 (.agg #[.int .i64 a, .int .i64 b]) (.agg #[.int .i64 a', .int .i64 b']) = eqAll [(a, a'), (b, b')] := by kernel_rfl
theorem neq46 (a b a' b' : Int) (c d : Bool) (W : AW) : oBin Tryd.prog .neq 46 c d (.agg #[.int .i64 a, .int .i64 b]) (.agg #[.int .i64 a', .int .i64 b']) W = some (.bool (!(a == a' && b == b')), W) := by
  refine oBin_agg_neq g46 ((q46 ..).trans ?_)
  rw [eqAll_eq]
  simp
abbrev Stp := Int × Int
abbrev stpV (p : Stp) : Value := .agg #[.int .i64 p.1, .int .i64 p.2]
def stpC (p : Stp) : List Value := [.int .i64 p.1, .int .i64 p.2]
def stpAt (cs : List Value) (p : Nat) (a : Stp) : Prop := cs[p]? = some (.int .i64 a.1) ∧ cs[p + 1]? = some (.int .i64 a.2)
theorem stpC_len (p : Stp) : (stpC p).length = 2 := rfl
theorem stpC_one (p : Stp) : (stpC p).all one = true := rfl
theorem stpC_at (a : Stp) (pre post : List Value) : stpAt (pre ++ (stpC a ++ post)) pre.length a := by
  refine ⟨?_, ?_⟩ <;> (rw [List.getElem?_append_right (by omega)]; simp [stpC])
abbrev Stps (W : AW) (v : Value) (l : List Stp) : Prop := Row W 2 stpAt v l
theorem ap77 : appOk Tryd.prog #[77, 77] 2 16 = true := by kernel_rfl
theorem len77 : ((#[77] : Array TypeId)[0]?).bind Tryd.prog.underlying = some (.slice 46) := by kernel_rfl
theorem bd46 (a b : Int) (W : AW) : oBuild Tryd.prog 46 [(0, .int .i64 a), (1, .int .i64 b)] W = some (stpV (a, b), W) := Eq.trans (by kernel_rfl) rfl
theorem bd46k (a : Int) (W : AW) : oBuild Tryd.prog 46 [(0, .int .i64 a)] W = some (stpV (a, 0), W) := Eq.trans (by kernel_rfl) rfl
theorem bd46z (W : AW) : oBuild Tryd.prog 46 [] W = some (stpV (0, 0), W) := Eq.trans (by kernel_rfl) rfl
theorem bs77 (a b : Int) (W : AW) : oBuildSlice Tryd.prog 77 1 [(0, .agg #[.int .i64 a, .int .i64 b])] W = some (.slice (some ⟨W.next, 0, none⟩) 1 1, W.add (.cells [.int .i64 a, .int .i64 b])) := Eq.trans (by kernel_rfl) rfl
theorem al46 (W : AW) : oAlloc Tryd.prog 46 W = some (.pointer (some ⟨W.next, 0, none⟩), W.add (.cells [.int .i64 0, .int .i64 0])) := Eq.trans (by kernel_rfl) rfl
theorem oL46 (x : Value) (W : AW) : oLoad Tryd.prog 46 x W = ldA 2 x W := by kernel_rfl
theorem new46 (W : AW) : ∃ W1, oAlloc Tryd.prog 46 W = some (.pointer (some ⟨W.next, 0, none⟩), W1) ∧ W1.next = W.next + 1 ∧ Le W W1 ∧ rwCells W1 W.next = some [.int .i64 0, .int .i64 0] := ⟨_, al46 W, AW.add_next _ _, (Le.refl W).add _, rwCells_new⟩
theorem ld2 {b : Nat} {x y : Value} {W : AW} (h : rwCells W b = some [x, y]) : ldA 2 (.pointer (some ⟨b, 0, none⟩)) W = some (.agg #[x, y], W) := ldA_all (rwCells_cellsAt h) rfl
theorem stV2i {b : Nat} {a c : Int} {x y : Value} {W : AW} (h : rwCells W b = some [x, y]) : stV 2 (.pointer (some ⟨b, 0, none⟩)) (.agg #[.int .i64 a, .int .i64 c]) W = some (undef, W.put b (.cells [.int .i64 a, .int .i64 c])) := by
  rw [stV_agg, h, Option.bind_some, if_pos ⟨rfl, by simp, by simp [one_int]⟩]
  rfl
theorem Stps.get {W : AW} {v : Value} {l : List Stp} (h : Stps W v l) {i : Nat} (hi : i < l.length) : ∃ b o, (∀ W' k, ixS 2 v (.int k (i : Int)) W' = some (.pointer (some ⟨b, o, none⟩), W')) ∧ ∀ W', Le W W' → ldA 2 (.pointer (some ⟨b, o, none⟩)) W' = some (stpV l[i], W') := by
  obtain ⟨a, c, rfl, h⟩ := h
  rcases h with rfl | ⟨b, o, cs, rfl, hb, hc, hat⟩
  · simp at hi
  · refine ⟨b, o + i * 2, fun W' k => ixS_ok hi, fun W' hle => ?_⟩
    have hc' := (hle.cellsAt hb).trans hc
    obtain ⟨h1, h2⟩ := hat i hi
    rw [ldA_eq, hc', Option.bind_some]
    have : (cs.drop (o + i * 2)).take 2 = [.int .i64 l[i].1, .int .i64 l[i].2] := by
      apply List.ext_getElem?
      intro j
      rw [List.getElem?_take]
      match j with
      | 0 => simpa using h1
      | 1 => simpa using h2
      | j + 2 => simp; omega
    rw [this]
    rfl
/-- step i of an operation with the locks l -/
def stepAt (l : List Int) (i : Nat) : Stp := if i < l.length then (1, l.getD i 0) else if i = l.length then (2, 0) else (3, l.getD (2 * l.length - i) 0)
/-- the document's list: takes, the commit, gives -/
def takesL (l : List Int) (k : Nat) : List Stp := (l.take k).map fun x => (1, x)
def givesL (l : List Int) (k : Nat) : List Stp := (List.range k).map fun j => (3, l.getD (l.length - 1 - j) 0)
def allL (l : List Int) : List Stp := takesL l l.length ++ [(2, 0)] ++ givesL l l.length
theorem takesL_succ (l : List Int) {k : Nat} (hk : k < l.length) : takesL l (k + 1) = takesL l k ++ [(1, l[k])] := by
  unfold takesL
  rw [List.take_add_one, List.getElem?_eq_getElem hk, List.map_append]; rfl
theorem givesL_succ (l : List Int) (k : Nat) : givesL l (k + 1) = givesL l k ++ [(3, l.getD (l.length - 1 - k) 0)] := by
  unfold givesL
  rw [List.range_succ, List.map_append]; rfl
theorem takesL_len (l : List Int) (k : Nat) (h : k ≤ l.length) : (takesL l k).length = k := by unfold takesL; rw [List.length_map, List.length_take]; omega
theorem givesL_len (l : List Int) (k : Nat) : (givesL l k).length = k := by simp [givesL]
theorem allL_len (l : List Int) : (allL l).length = 2 * l.length + 1 := by
  unfold allL
  rw [List.length_append, List.length_append, takesL_len l _ (Nat.le_refl _), givesL_len]; simp; omega
theorem allL_get (l : List Int) {i : Nat} (hi : i < 2 * l.length + 1) : (allL l)[i]? = some (stepAt l i) := by
  unfold allL stepAt
  have ht := takesL_len l _ (Nat.le_refl l.length)
  by_cases h1 : i < l.length
  · rw [if_pos h1, List.append_assoc, List.getElem?_append_left (by omega)]
    unfold takesL
    rw [List.take_length, List.getElem?_map, List.getElem?_eq_getElem h1, List.getD_eq_getElem?_getD, List.getElem?_eq_getElem h1]; rfl
  · rw [if_neg h1]
    by_cases h2 : i = l.length
    · rw [if_pos h2, List.append_assoc, List.getElem?_append_right (by omega), ht, h2, Nat.sub_self]; rfl
    · rw [if_neg h2, List.getElem?_append_right (by rw [List.length_append, ht]; simp; omega), List.length_append, ht]
      unfold givesL
      rw [List.getElem?_map, List.getElem?_range (by simp; omega)]
      simp only [Option.map_some, List.length_cons, List.length_nil]
      congr 3
      omega
def stepsE (v : Ven) (o : OpT) : Int × Int := if (locksE v o).2 = 0 then (2 * ((locksE v o).1.length : Int) + 1, 0) else (0, (locksE v o).2)
def stepE (v : Ven) (o : OpT) (i : Int) : Stp × Int := if (locksE v o).2 = 0 then (if 0 ≤ i ∧ i < 2 * ((locksE v o).1.length : Int) + 1 then (stepAt (locksE v o).1 i.toNat, 0) else ((0, 0), 7)) else ((0, 0), (locksE v o).2)
def allE (v : Ven) (o : OpT) : List Stp := if (locksE v o).2 = 0 then allL (locksE v o).1 else []
theorem len38 : ((#[38] : Array TypeId)[0]?).bind Tryd.prog.underlying = some (.slice 3) := by kernel_rfl
theorem planSteps_ok {v : Ven} {o : OpT} {sv : Value} {W : AW} (hs : SecsC W sv v.secs) (hv : v.secs.length < 1000) (hG : GW W) : omS (.func (.func 21) #[] #[]) [venV v sv, opV o] W = some (.tuple #[.int .i64 (stepsE v o).1, .int .i64 (stepsE v o).2], W) := by
  refine om_drop rfl ?_ plans_Steps_om
  unfold plans_Steps stepsE
  obtain ⟨W1, hB, hle, hn, c4, c0, c3⟩ := venBox v sv W
  obtain ⟨W2, b2, n2, l2, k12, k0⟩ := opBox o W1
  have l02 := hle.trans l2
  obtain ⟨u, W3, q1, q2, q3⟩ := planLocks_ok (o := o) (hs.mono l02) hv (hG.mono l02)
  have hlen := locksE_len v o
  simp only [SX, hB, b2, c4 _ l2, k12 _ (.refl _), q1]
  by_cases he : (locksE v o).2 = 0
  case neg =>
    simp only [SX, he, if_false, Ok_some]
    exact ⟨trivial, l02.trans q2⟩
  have ea : ∀ W', oBin Tryd.prog .mul 3 true false (.int .i64 2) (.int .i64 ((locksE v o).1.length : Int)) W' = some (.int .i64 (2 * ((locksE v o).1.length : Int)), W') := fun W' => oBin_mul (by omega) (by omega)
  have eb : ∀ W', oBin Tryd.prog .add 3 false true (.int .i64 (2 * ((locksE v o).1.length : Int))) (.int .i64 1) W' = some (.int .i64 (2 * ((locksE v o).1.length : Int) + 1), W') := fun W' => oBin_add (by omega) (by omega)
  simp only [SX, decide_eq_true he, if_pos he, q3.len len38, ea, eb, Ok_some]
  exact ⟨trivial, l02.trans q2⟩
theorem refAll_ok {v : Ven} {o : OpT} {sv : Value} {W : AW} (hs : Secs W sv v.secs) (hv : v.secs.length < 1000) (hr : ∀ s ∈ v.secs, s.rows.length < 1000) :
    ∃ u W2, omS (.func (.func 49) #[] #[]) [venV v sv, opV o] W = some (.tuple #[u, .int .i64 (locksE v o).2], W2) ∧ Le W W2 ∧ Stps W2 u (allE v o) := by
  refine om_row2 ?_ ref22_All_om
  unfold ref22_All allE
  obtain ⟨W1, hB, hle, hn, c4, c0, c3⟩ := venBox v sv W
  obtain ⟨W2, b2, n2, l2, k12, k0⟩ := opBox o W1
  have l02 := hle.trans l2
  obtain ⟨u, W3, q1, q2, q3⟩ := refLocks_ok (o := o) (hs.mono l02) hv hr
  have hlen := locksE_len v o
  simp only [SX, hB, b2, c4 _ l2, k12 _ (.refl _), q1]
  by_cases he : (locksE v o).2 = 0
  case neg =>
    simp only [SX, he, if_false, Ok_some]
    exact ⟨_, rfl, l02.trans q2, Row.nil⟩
  simp only [SX, he, decide_true, if_true]
  generalize (locksE v o).1 = l at *
  have add1 : ∀ (k : Nat) (W' : AW), k < 1000000 → oBin Tryd.prog .add 3 false true (.int .i64 (k : Int)) (.int .i64 1) W' = some (.int .i64 ((k + 1 : Nat) : Int), W') := fun k W' hk => oBin_add (by omega) (by omega)
  have sub1 : ∀ (k : Int) (W' : AW), 0 ≤ k → k < 1000000 → oBin Tryd.prog .sub 3 false true (.int .i64 k) (.int .i64 1) W' = some (.int .i64 (k - 1), W') := fun k W' h0 hk => oBin_sub (by omega) (by omega)
  refine Ok_loop l.length (by omega) (fun i R W' => Le W3 W' ∧ R 6 = u ∧ R 9 = .int .i64 (i : Int) ∧ ∃ x, R 8 = x ∧ Lst W3.next W' 2 stpC x (takesL l i))
    (fun r => Le W3 r.2.2 ∧ r.1 = .exit 0 ∧ r.2.1 6 = u ∧ ∃ x, r.2.1 8 = x ∧ Lst W3.next r.2.2 2 stpC x (takesL l l.length)) ⟨.refl _, rfl, rfl, _, rfl, .nil _ _ _ _⟩ ?_ ?_ ?_
  · rintro i R W' hi ⟨hl, f6, f9, x, f8, hL⟩
    unfold ref22_All_L1
    have e1 : ((i : Int) < (l.length : Int)) := by omega
    obtain ⟨p, p1, p2⟩ := q3.get hi
    have hLm := hL.mono ((Le.refl W').add (.cells [.int .i64 1, .int .i64 l[i]]))
    obtain ⟨v', W4, s1, s2, s3, s4⟩ := Lst.push (P := Tryd.prog) (a := ((1, l[i]) : Stp)) (b := W'.next) (c := 1) ap77 stpC_len stpC_one hLm cellsAt_new (by rw [takesL_len l _ (by omega)]; omega) (by rw [takesL_len l _ (by omega)]; omega) (by rw [AW.add_next]; have := hl.next; omega)
    simp only [SX, f6, f8, f9, q3.len len38, e1, p1, p2 _ hl, bd46, bs77, s1, add1 i _ (by omega), Ok_some]
    exact .inl ⟨trivial, s4 _ (hl.add _) (Nat.le_refl _), f6, rfl, _, rfl, by rw [takesL_succ l hi]; exact s2⟩
  · rintro R W' ⟨hl, f6, f9, x, f8, hL⟩
    unfold ref22_All_L1
    have e1 : ¬ ((l.length : Int) < (l.length : Int)) := by omega
    simp only [SX, f6, f9, q3.len len38, e1, Ok_some]
    exact ⟨by simp, hl, trivial, f6, x, f8, hL⟩
  · rintro ⟨x, R, W'⟩ ⟨hl, hx, f6, y, f8, hL⟩
    simp only at hl hx f6 f8 hL
    subst hx
    have hLm := hL.mono ((Le.refl W').add (.cells [.int .i64 2, .int .i64 0]))
    obtain ⟨v', W4, s1, s2, s3, s4⟩ := Lst.push (P := Tryd.prog) (a := ((2, 0) : Stp)) (b := W'.next) (c := 1) ap77 stpC_len stpC_one hLm cellsAt_new (by rw [takesL_len l _ (by omega)]; omega) (by rw [takesL_len l _ (by omega)]; omega) (by rw [AW.add_next]; have := hl.next; omega)
    have hl4 := s4 _ (hl.add _) (Nat.le_refl _)
    have esub : ∀ W', oBin Tryd.prog .sub 3 false true (.int .i64 (l.length : Int)) (.int .i64 1) W' = some (.int .i64 ((l.length : Int) - 1), W') := fun W' => oBin_sub (by omega) (by omega)
    simp only [SX, f6, f8, bd46k, bs77, s1, q3.len len38, esub]
    refine Ok_loop l.length (by omega) (fun i R W' => Le W3 W' ∧ R 6 = u ∧ R 10 = .int .i64 ((l.length : Int) - 1 - i) ∧ ∃ x, R 8 = x ∧ Lst W3.next W' 2 stpC x (takesL l l.length ++ [(2, 0)] ++ givesL l i))
      (fun r => Le W3 r.2.2 ∧ r.1 = .exit 2 ∧ ∃ x, r.2.1 8 = x ∧ Lst W3.next r.2.2 2 stpC x (allL l)) ⟨hl4, f6, by show Value.int .i64 _ = _; congr 1; omega, _, rfl, by rw [show givesL l 0 = [] from rfl, List.append_nil]; exact s2⟩ ?_ ?_ ?_
    · rintro i R W' hi ⟨hl, f6, f10, x, f8, hL⟩
      unfold ref22_All_L2
      have e1 : ((0 : Int) ≤ (l.length : Int) - 1 - i) := by omega
      have hi2 : l.length - 1 - i < l.length := by omega
      obtain ⟨p, p1, p2⟩ := q3.get hi2
      have p1' := fun W' => p1 W' .i64
      rw [show ((l.length - 1 - i : Nat) : Int) = (l.length : Int) - 1 - i by omega] at p1'
      have hLm := hL.mono ((Le.refl W').add (.cells [.int .i64 3, .int .i64 l[l.length - 1 - i]]))
      have hll : (takesL l l.length ++ [(2, 0)] ++ givesL l i).length ≤ 60 := by
        rw [List.length_append, List.length_append, takesL_len l _ (Nat.le_refl _), givesL_len]; simp; omega
      obtain ⟨v', W4, s1, s2, s3, s4⟩ := Lst.push (P := Tryd.prog) (a := ((3, l[l.length - 1 - i]) : Stp)) (b := W'.next) (c := 1) ap77 stpC_len stpC_one hLm cellsAt_new (by omega) (by omega) (by rw [AW.add_next]; have := hl.next; omega)
      simp only [SX, f6, f8, f10, e1, p1', p2 _ hl, bd46, bs77, s1, sub1 ((l.length : Int) - 1 - i) _ (by omega) (by omega), Ok_some]
      refine .inl ⟨trivial, s4 _ (hl.add _) (Nat.le_refl _), f6, by show Value.int .i64 _ = _; congr 1; omega, _, rfl, ?_⟩
      rw [givesL_succ, ← List.append_assoc, List.getD_eq_getElem?_getD, List.getElem?_eq_getElem hi2]
      exact s2
    · rintro R W' ⟨hl, f6, f10, x, f8, hL⟩
      unfold ref22_All_L2
      have e1 : ¬ ((0 : Int) ≤ (l.length : Int) - 1 - l.length) := by omega
      simp only [SX, f10, e1, Ok_some]
      exact ⟨by simp, hl, trivial, x, f8, hL⟩
    · rintro ⟨x, R, W'⟩ ⟨hl, hx, y, f8, hL⟩
      simp only at hl hx f8 hL
      subst hx
      simp only [SX, f8, Ok_some]
      exact ⟨_, rfl, (l02.trans q2).trans hl, hL.row stpC_len stpC_at⟩
theorem refSteps_ok {v : Ven} {o : OpT} {sv : Value} {W : AW} (hs : Secs W sv v.secs) (hv : v.secs.length < 1000) (hr : ∀ s ∈ v.secs, s.rows.length < 1000) : omS (.func (.func 22) #[] #[]) [venV v sv, opV o] W = some (.tuple #[.int .i64 (stepsE v o).1, .int .i64 (stepsE v o).2], W) := by
  refine om_drop rfl ?_ ref22_Steps_om
  unfold ref22_Steps stepsE
  obtain ⟨W1, hB, hle, hn, c4, c0, c3⟩ := venBox v sv W
  obtain ⟨W2, b2, n2, l2, k12, k0⟩ := opBox o W1
  have l02 := hle.trans l2
  obtain ⟨u, W3, q1, q2, q3⟩ := refAll_ok (o := o) (hs.mono l02) hv hr
  simp only [SX, hB, b2, c4 _ l2, k12 _ (.refl _), q1, q3.len len77, Ok_some]
  refine ⟨?_, l02.trans q2⟩
  unfold allE
  by_cases he : (locksE v o).2 = 0
  · rw [if_pos he, if_pos he, allL_len, he]
    congr 3
  · rw [if_neg he, if_neg he]; rfl
theorem refStep_ok {v : Ven} {o : OpT} {sv : Value} {W : AW} {i : Int} (hs : Secs W sv v.secs) (hv : v.secs.length < 1000) (hr : ∀ s ∈ v.secs, s.rows.length < 1000) : omS (.func (.func 24) #[] #[]) [venV v sv, opV o, .int .i64 i] W = some (.tuple #[stpV (stepE v o i).1, .int .i64 (stepE v o i).2], W) := by
  refine om_drop rfl ?_ ref22_Step_om
  unfold ref22_Step stepE
  obtain ⟨W1, hB, hle, hn, c4, c0, c3⟩ := venBox v sv W
  obtain ⟨W2, b2, n2, l2, k12, k0⟩ := opBox o W1
  obtain ⟨W3, b3, n3, l3, r3⟩ := new46 W2
  have hsn := hle.next
  have l03 := (hle.trans l2).trans l3
  obtain ⟨u, W4, q1, q2, q3⟩ := refAll_ok (o := o) (hs.mono l03) hv hr
  have r4 : rwCells W4 W2.next = some [.int .i64 0, .int .i64 0] := by rw [q2.rwCells (by omega)]; exact r3
  have l04 := l03.trans q2
  simp only [SX, hB, b2, b3, c4 _ (l2.trans l3), k12 _ l3, q1]
  have e70 : ¬ ((7 : Int) = 0) := by decide
  by_cases he : (locksE v o).2 = 0
  case neg =>
    simp only [SX, he, if_false, wnt_undef, bd46z, stV2i r4, oRes_L1n, oL46, ld2 (rwCells_put _), Option.bind_some, Ok_some]
    exact ⟨trivial, l04.put (by omega) _⟩
  have hal : (allE v o).length = 2 * (locksE v o).1.length + 1 := by unfold allE; rw [if_pos he, allL_len]
  simp only [SX, he, decide_true, if_true]
  by_cases t1 : i < 0
  · have hn1 : ¬ (0 ≤ i ∧ i < 2 * ((locksE v o).1.length : Int) + 1) := by omega
    simp only [SX, decide_eq_true t1, if_neg hn1, wnt_undef, e70, bd46z, stV2i r4, oRes_L1n, oL46, ld2 (rwCells_put _), Option.bind_some, Ok_some]
    exact ⟨trivial, l04.put (by omega) _⟩
  by_cases t2 : ((allE v o).length : Int) ≤ i
  · have hn1 : ¬ (0 ≤ i ∧ i < 2 * ((locksE v o).1.length : Int) + 1) := by omega
    simp only [SX, decide_eq_false t1, q3.len len77, decide_eq_true t2, if_neg hn1, e70, bd46z, stV2i r4, oRes_L1n, oL46, ld2 (rwCells_put _), Option.bind_some, Ok_some]
    exact ⟨trivial, l04.put (by omega) _⟩
  have hp1 : 0 ≤ i ∧ i < 2 * ((locksE v o).1.length : Int) + 1 := by omega
  have hlt : i.toNat < (allE v o).length := by omega
  obtain ⟨b, of, p1, p2⟩ := q3.get hlt
  have p1' := fun W' => p1 W' .i64
  rw [Int.toNat_of_nonneg (by omega)] at p1'
  have hst : (allE v o)[i.toNat] = stepAt (locksE v o).1 i.toNat := by
    have h1 := allL_get (locksE v o).1 (i := i.toNat) (by omega)
    have h2 : allE v o = allL (locksE v o).1 := by unfold allE; rw [if_pos he]
    rw [← h2, List.getElem?_eq_getElem hlt] at h1
    exact Option.some.inj h1
  simp only [SX, decide_eq_false t1, q3.len len77, decide_eq_false t2, if_pos hp1, decide_true, p1', p2 _ (.refl _), hst, stV2i r4, oRes_L1n, oL46, ld2 (rwCells_put _), Option.bind_some, Ok_some]
  exact ⟨trivial, l04.put (by omega) _⟩
end Go.Proofs.YtfcfglpkgcheiaaDoor
/- The steps of an operation, one after another: the code's answer. -/
namespace Go.Proofs.YtfcfglpkgcheiaaDoor
open Go Go.Eng
set_option linter.unusedVariables false
set_option linter.unusedSimpArgs false
set_option maxRecDepth 100000
theorem steps_ok {l : List Int} {u f : Value} {bx : Nat} {W0 W : AW} (hu : Ints W0 u l) (hlen : l.length ≤ 24) (hb : ∀ W', Le W0 W' → ldC (.pointer (some ⟨bx, 0, none⟩)) W' = some (u, W')) (I : Nat → AW → Prop) (Q : AW → Prop)
    (hI : I 0 W) (hS : ∀ i W', I i W' → Le W0 W') (hA : ∀ i W' cs, I i W' → I i (W'.add (.cells cs)))
    (step : ∀ i W', i < 2 * l.length + 1 → I i W' → ∃ b W2, omS f [.int .i64 (i : Int), stpV (stepAt l i)] W' = some (.bool b, W2) ∧ (b = true → I (i + 1) W2) ∧ (b = false → Q W2)) :
    ∃ W2, omS (.func (.func 66) #[] #[.pointer (some ⟨bx, 0, none⟩)]) [f] W = some (.tuple #[], W2) ∧ (I (2 * l.length + 1) W2 ∨ Q W2) := by
  have main : Ok (plans_steps_1 omS f (.pointer (some ⟨bx, 0, none⟩)) W) fun r => r.1 = .tuple #[] ∧ (I (2 * l.length + 1) r.2 ∨ Q r.2) := by
    unfold plans_steps_1
    have ea : ∀ W', oBin Tryd.prog .mul 3 true false (.int .i64 2) (.int .i64 (l.length : Int)) W' = some (.int .i64 (2 * (l.length : Int)), W') := fun W' => oBin_mul (by omega) (by omega)
    have eb : ∀ W', oBin Tryd.prog .add 3 false true (.int .i64 (2 * (l.length : Int))) (.int .i64 1) W' = some (.int .i64 (2 * (l.length : Int) + 1), W') := fun W' => oBin_add (by omega) (by omega)
    have add1 : ∀ (k : Nat) (W' : AW), k < 1000000 → oBin Tryd.prog .add 3 false true (.int .i64 (k : Int)) (.int .i64 1) W' = some (.int .i64 ((k + 1 : Nat) : Int), W') := fun k W' hk => oBin_add (by omega) (by omega)
    simp only [SX, hb _ (hS _ _ hI), hu.len len38, ea, eb]
    refine Ok_loop (2 * l.length + 1) (by omega) (fun i R W' => R 0 = f ∧ R 1 = .pointer (some ⟨bx, 0, none⟩) ∧ R 3 = .int .i64 (l.length : Int) ∧ R 10 = .int .i64 (2 * (l.length : Int) + 1) ∧ R 11 = .int .i64 (i : Int) ∧ I i W')
      (fun r => (r.1 = .exit 0 ∧ I (2 * l.length + 1) r.2.2) ∨ (r.1 = .ret ∧ Q r.2.2)) ⟨rfl, rfl, rfl, rfl, rfl, hI⟩ ?_ ?_ ?_
    · rintro i R W' hi ⟨h0, h1, h3, h10, h11, hi'⟩
      unfold plans_steps_1_L1
      have e1 : ((i : Int) < 2 * (l.length : Int) + 1) := by omega
      have hI2 := hA _ _ [.int .i64 (stepAt l i).1, .int .i64 (stepAt l i).2] hi'
      have hl2 := hS _ _ hI2
      obtain ⟨c, W3, s1, s2, s3⟩ := step i _ hi hI2
      have hgo : ∀ a b : Int, ldA 2 (.pointer (some ⟨W'.next, 0, none⟩)) (W'.add (.cells [.int .i64 a, .int .i64 b])) = some (.agg #[.int .i64 a, .int .i64 b], W'.add (.cells [.int .i64 a, .int .i64 b])) := fun a b => ld2 rwCells_new
      by_cases t1 : i < l.length
      · have t1' : (i : Int) < (l.length : Int) := by omega
        have hst : stepAt l i = (1, l[i]) := by unfold stepAt; rw [if_pos t1, List.getD_eq_getElem?_getD, List.getElem?_eq_getElem t1]; rfl
        obtain ⟨p, p1, p2⟩ := hu.get t1
        rw [hst] at s1 hl2 hI2
        have hl3 : Le W0 (W'.add (.cells [.int .i64 2, .int .i64 0])) := (hS _ _ hi').add _
        simp only [SX, h0, h1, h3, h10, h11, e1, bd46k, al46, stV2i rwCells_new, put_add_cells, decide_eq_true t1', hb _ hl3, p1, p2 _ hl3, bd46, hgo, s1]
        cases c
        · simp only [SX, Ok_some]
          exact .inr ⟨by simp, .inr ⟨trivial, s3 rfl⟩⟩
        · simp only [SX, h11, add1 i _ (by omega), Ok_some]
          exact .inl ⟨trivial, h0, h1, h3, h10, rfl, s2 rfl⟩
      have t1' : ¬ ((i : Int) < (l.length : Int)) := by omega
      by_cases t2 : i = l.length
      · have t2' : ¬ ((l.length : Int) < (i : Int)) := by omega
        have hst : stepAt l i = (2, 0) := by unfold stepAt; rw [if_neg t1, if_pos t2]
        rw [hst] at s1 hl2 hI2
        simp only [SX, h0, h1, h3, h10, h11, e1, bd46k, al46, stV2i rwCells_new, put_add_cells, decide_eq_false t1', decide_eq_false t2', hgo, s1]
        cases c
        · simp only [SX, Ok_some]
          exact .inr ⟨by simp, .inr ⟨trivial, s3 rfl⟩⟩
        · simp only [SX, h11, add1 i _ (by omega), Ok_some]
          exact .inl ⟨trivial, h0, h1, h3, h10, rfl, s2 rfl⟩
      · have t2' : ((l.length : Int) < (i : Int)) := by omega
        have hi2 : 2 * l.length - i < l.length := by omega
        have hst : stepAt l i = (3, l[2 * l.length - i]) := by unfold stepAt; rw [if_neg t1, if_neg t2, List.getD_eq_getElem?_getD, List.getElem?_eq_getElem hi2]; rfl
        obtain ⟨p, p1, p2⟩ := hu.get hi2
        have p1' := fun W' => p1 W' .i64
        rw [show ((2 * l.length - i : Nat) : Int) = 2 * (l.length : Int) - i by omega] at p1'
        rw [hst] at s1 hl2 hI2
        have hl3 : Le W0 (W'.add (.cells [.int .i64 2, .int .i64 0])) := (hS _ _ hi').add _
        have es : ∀ W', oBin Tryd.prog .sub 3 false false (.int .i64 (2 * (l.length : Int))) (.int .i64 (i : Int)) W' = some (.int .i64 (2 * (l.length : Int) - i), W') := fun W' => oBin_sub (by omega) (by omega)
        simp only [SX, h0, h1, h3, h10, h11, e1, bd46k, al46, stV2i rwCells_new, put_add_cells, decide_eq_false t1', decide_eq_true t2', hb _ hl3, ea, es, p1', p2 _ hl3, bd46, hgo, s1]
        cases c
        · simp only [SX, Ok_some]
          exact .inr ⟨by simp, .inr ⟨trivial, s3 rfl⟩⟩
        · simp only [SX, h11, add1 i _ (by omega), Ok_some]
          exact .inl ⟨trivial, h0, h1, h3, h10, rfl, s2 rfl⟩
    · rintro R W' ⟨h0, h1, h3, h10, h11, hi'⟩
      unfold plans_steps_1_L1
      have e1 : ¬ (((2 * l.length + 1 : Nat) : Int) < 2 * (l.length : Int) + 1) := by omega
      simp only [SX, h10, h11, e1, Ok_some]
      exact ⟨by simp, .inl ⟨trivial, hi'⟩⟩
    · rintro ⟨x, R, W'⟩ hq
      rcases hq with ⟨rfl, hi'⟩ | ⟨rfl, hq⟩
      · simp only [SX, Ok_some]
        exact ⟨trivial, .inl hi'⟩
      · simp only [SX, Ok_some]
        exact ⟨trivial, .inr hq⟩
  obtain ⟨⟨r, W'⟩, h1, h2, h3⟩ := main
  simp only at h2 h3
  subst h2
  exact ⟨W', by rw [plans_steps_1_om h1, gc_not rfl], h3⟩
theorem steps_fn {l : List Int} {u : Value} {W : AW} (hu : Ints W u l) : ∃ W1, omS (.func (.func 50) #[] #[]) [u] W = some (.func (.func 66) #[] #[.pointer (some ⟨W.next, 0, none⟩)], W1) ∧ Le W W1 ∧ W1.next = W.next + 1 ∧ (∀ W', Le W1 W' → ldC (.pointer (some ⟨W.next, 0, none⟩)) W' = some (u, W')) := by
  obtain ⟨a, c, hc, h⟩ := hu
  have hB : oBox u W = some (.pointer (some ⟨W.next, 0, none⟩), W.add (.cells [u])) := by rw [hc]; exact oBox_slice _ _ _
  have hcc : cellsAt (W.add (.cells [u])) W.next = some [u] := cellsAt_new
  have hn : W.next < (W.add (.cells [u])).next := by rw [AW.add_next]; omega
  refine ⟨_, ?_, (Le.refl W).add _, AW.add_next _ _, fun W' k => ldC_ok (by rw [k.cellsAt hn]; exact hcc) rfl⟩
  have : plans_steps omS u W = some (.func (.func 66) #[] #[.pointer (some ⟨W.next, 0, none⟩)], W.add (.cells [u])) := by
    unfold plans_steps
    simp only [SX, hB]
  rw [plans_steps_om this, gc_not rfl]
theorem Ok_steps {l : List Int} {u : Value} {W0 W : AW} {bx nt : Nat} {R : Nat → Value} {ps : Array Tmp} {ac bd : Code} {ρ : Type} {K : X × AW → Option ρ} {G : ρ → Prop} (hu : Ints W0 u l) (hlen : l.length ≤ 24) (hb : ∀ W', Le W0 W' → ldC (.pointer (some ⟨bx, 0, none⟩)) W' = some (u, W')) (hp : ps.size = 2)
    (J : Nat → AW → Prop) (Q : X → AW → Prop) (h0 : J 0 (W.add (.loop .ready none R nt ps ac bd)))
    (hS : ∀ i W', J i W' → Le W0 W') (hA : ∀ i W' cs, J i W' → W.next < W'.next → J i (W'.add (.cells cs))) (hP : ∀ i W' o, J i W' → J i (W'.put W.next o)) (hQ : ∀ x W' o, Q x W' → Q x (W'.put W.next o))
    (d0 d : Nat) (has : ∀ (i : Nat) (p : Stp) W' R', R' = zipGo ps.toList [.int .i64 (i : Int), stpV p] R → kCode Tryd.prog omS false nt ac LT R' W' ret3 = some (.normal, rput (rput R' (some d0) (.int .i64 (i : Int))) (some d) (.pointer (some ⟨W'.next, 0, none⟩)), W'.add (.cells [.int .i64 p.1, .int .i64 p.2])))
    (step : ∀ (i : Nat) W' b R', R' = rput (rput (zipGo ps.toList [.int .i64 (i : Int), stpV (stepAt l i)] R) (some d0) (.int .i64 (i : Int))) (some d) (.pointer (some ⟨b, 0, none⟩)) → i < 2 * l.length + 1 → J i W' → W.next < W'.next → rwCells W' b = some [.int .i64 (stepAt l i).1, .int .i64 (stepAt l i).2] → W.next < b → b < W'.next →
      Ok (kCode Tryd.prog omS false nt bd LT R' W' ret3) fun q => W'.next ≤ q.2.2.next ∧ q.2.2.get W.next = W'.get W.next ∧ ((q.1 = .normal ∧ J (i + 1) q.2.2) ∨ (q.1 ≠ .normal ∧ Q q.1 q.2.2)))
    (after : ∀ x W2, (x = .normal ∧ J (2 * l.length + 1) W2) ∨ (x ≠ .normal ∧ Q x W2) → Ok (K (x, W2.kill W.next)) G) :
    Ok (bnd (oRange omS (.func (.func 66) #[] #[.pointer (some ⟨bx, 0, none⟩)]) (.loop .ready none R nt ps ac bd) W) K) G := by
  have main : ∃ x W2, oRange omS (.func (.func 66) #[] #[.pointer (some ⟨bx, 0, none⟩)]) (.loop .ready none R nt ps ac bd) W = some (x, W2.kill W.next) ∧ ((x = .normal ∧ J (2 * l.length + 1) W2) ∨ (x ≠ .normal ∧ Q x W2)) := by
    obtain ⟨W2, h1, h2⟩ := steps_ok (f := .func (.yield W.next) #[] #[]) (W := W.add (.loop .ready none R nt ps ac bd)) hu hlen hb
      (fun i W' => J i W' ∧ W.next < W'.next ∧ W'.get W.next = some (.loop .ready none R nt ps ac bd))
      (fun W' => ∃ x, x ≠ .normal ∧ Q x W' ∧ W'.get W.next = some (.loop .done x.jump R nt ps ac bd))
      ⟨h0, by rw [AW.add_next]; omega, AW.get_add _ _⟩ (fun i W' h => hS _ _ h.1)
      (fun i W' cs h => ⟨hA _ _ _ h.1 h.2.1, by rw [AW.add_next]; omega, by rw [AW.get_add_ne _ _ (by omega)]; exact h.2.2⟩)
      (fun i W' hi ⟨hJ, hlt, hget⟩ => by
        have hJ2 := hP _ _ (.loop .busy none R nt ps ac bd) (hA _ _ [.int .i64 (stepAt l i).1, .int .i64 (stepAt l i).2] hJ hlt)
        obtain ⟨⟨x, R2, W3⟩, k1, k2, k3, k4⟩ := step i _ W'.next _ rfl hi hJ2 (by rw [AW.put_next, AW.add_next]; omega) (by rw [rwCells_put_ne _ (by omega)]; exact rwCells_new) hlt (by rw [AW.put_next, AW.add_next]; omega)
        simp only at k1 k2 k3 k4
        rw [AW.get_put] at k3
        have hy := yield_gen (P := Tryd.prog) (args := [.int .i64 (i : Int), stpV (stepAt l i)]) hget (by rw [hp]; rfl) (has i (stepAt l i) W' _ rfl) (by rw [AW.get_add_ne _ _ (by omega)]; exact hget) k1 k3
        have hn3 : W.next < W3.next := by rw [AW.put_next, AW.add_next] at k2; omega
        rcases k4 with ⟨rfl, k4⟩ | ⟨kx, k4⟩
        · exact ⟨true, _, hy, fun _ => ⟨hP _ _ _ k4, by rw [AW.put_next]; exact hn3, AW.get_put _ _ _⟩, fun h => by cases h⟩
        · refine ⟨false, W3.put W.next (.loop .done x.jump R nt ps ac bd), ?_, fun h => by (cases h), fun _ => ⟨x, kx, hQ _ _ _ k4, AW.get_put _ _ _⟩⟩
          refine hy.trans ?_
          cases x with
          | normal => exact absurd rfl kx
          | exit i => rfl
          | ret => rfl)
    rcases h2 with ⟨h2, h3, h4⟩ | ⟨x, h2, h3, h4⟩
    · exact ⟨.normal, W2, range_normal h1 h4 (by simp), .inl ⟨rfl, h2⟩⟩
    · exact ⟨x, W2, range_jump h1 h4, .inr ⟨h2, h3⟩⟩
  obtain ⟨x, W2, h1, h2⟩ := main
  rw [h1, bnd_some]
  exact after x W2 h2
theorem planStep_ok {v : Ven} {o : OpT} {sv : Value} {W : AW} {i0 : Int} (hs : SecsC W sv v.secs) (hv : v.secs.length < 1000) (hG : GW W) : omS (.func (.func 23) #[] #[]) [venV v sv, opV o, .int .i64 i0] W = some (.tuple #[stpV (stepE v o i0).1, .int .i64 (stepE v o i0).2], W) := by
  refine om_drop rfl ?_ plans_Step_om
  unfold plans_Step stepE
  obtain ⟨W1, hB, hle, hn, c4, c0, c3⟩ := venBox v sv W
  obtain ⟨W2, b2, n2, l2, k12, k0⟩ := opBox o W1
  obtain ⟨W2', b2', n2', l2', r2'⟩ := boxI i0 W2
  obtain ⟨W3, b3, n3, l3, r3⟩ := new46 W2'
  obtain ⟨W4, b4, n4, l4, r4⟩ := new28 W3
  have hsn := hle.next
  have l24 := (l2'.trans l3).trans l4
  have l02' := (hle.trans l2).trans l2'
  have l04 := (hle.trans l2).trans l24
  have l2'4 := l3.trans l4
  obtain ⟨u, W5, q1, q2, q3⟩ := planLocks_ok (o := o) (hs.mono l04) hv (hG.mono l04)
  have l2'5 := l2'4.trans q2
  have r35 : rwCells W5 W2'.next = some [.int .i64 0, .int .i64 0] := by rw [q2.rwCells (by omega), l4.rwCells (by omega)]; exact r3
  have r45 : rwCells W5 W3.next = some [.int .i64 0] := by rw [q2.rwCells (by omega)]; exact r4
  have ri5 : rwCells W5 W2.next = some [.int .i64 i0] := by rw [l2'5.rwCells (by omega)]; exact r2'
  have n5 := q2.next
  have e3 : ∀ (W' : AW) a, rwCells (W'.put W2'.next a) W3.next = rwCells W' W3.next := fun W' a => rwCells_put_ne _ (by omega)
  have e2 : ∀ (W' : AW) a b, rwCells ((W'.put W2'.next (.cells a)).put W3.next b) W2'.next = some a := fun W' a b => by rw [rwCells_put_ne _ (by omega)]; exact rwCells_put _
  simp only [SX, hB, b2, b2', b3, b4, c4 _ (l2.trans l24), k12 _ l24, q1]
  have hlen := locksE_len v o
  by_cases he : (locksE v o).2 = 0
  case neg =>
    simp only [SX, he, if_false, bd46z, stV2i r35, stI ((e3 _ _).trans r45), oRes_L2, oL46, oL28, ld2 (e2 _ _ _), ldI (rwCells_put _), Option.bind_some, Ok_some]
    exact ⟨trivial, ((l04.trans q2).put (by omega) _).put (by omega) _⟩
  generalize (locksE v o).1 = l at *
  obtain ⟨W6, s1, s2, s3, s4⟩ := steps_fn q3
  simp only [SX, decide_eq_true he, if_pos he, s1]
  have r36 : rwCells W6 W2'.next = some [.int .i64 0, .int .i64 0] := by rw [s2.rwCells (by omega)]; exact r35
  have r46 : rwCells W6 W3.next = some [.int .i64 0] := by rw [s2.rwCells (by omega)]; exact r45
  have ri6 : rwCells W6 W2.next = some [.int .i64 i0] := by rw [s2.rwCells (by omega)]; exact ri5
  have l2'6 := l2'5.trans s2
  refine Ok_steps (q3.mono s2) hlen s4 rfl (fun k W' => Le W6 W' ∧ ∀ j : Nat, j < k → (j : Int) ≠ i0)
    (fun x W' => x = .ret ∧ Le W2' W' ∧ ∃ k : Nat, k < 2 * l.length + 1 ∧ (k : Int) = i0 ∧ rwCells W' W2'.next = some [.int .i64 (stepAt l k).1, .int .i64 (stepAt l k).2] ∧ rwCells W' W3.next = some [.int .i64 0])
    ⟨(Le.refl W6).add _, fun j hj => by omega⟩ (fun _ _ h => h.1) (fun i W' cs h hl => ⟨h.1.add _, h.2⟩) (fun i W' o h => ⟨h.1.put (Nat.le_refl _) _, h.2⟩)
    (fun x W' o ⟨h1, h2, k, h3, h4, h5, h6⟩ => ⟨h1, h2.put (by omega) _, k, h3, h4, by rw [rwCells_put_ne _ (by omega)]; exact h5, by rw [rwCells_put_ne _ (by omega)]; exact h6⟩) 10 11 ?_ ?_ ?_
  · intro i p W' R' hR
    have r24 : R' 24 = .int .i64 (i : Int) := by rw [hR]; rfl
    have r25 : R' 25 = stpV p := by rw [hR]; rfl
    rw [plans_Step_Y1a_eq]
    unfold plans_Step_Y1a
    simp only [SX, al46, r24, r25, stV2i rwCells_new, put_add_cells]
  · intro i W' b R' hR hi ⟨h1, h2⟩ hl hb hb1 hb2
    have f5 : R' 5 = .pointer (some ⟨W2.next, 0, none⟩) := by rw [hR]; rfl
    have f6 : R' 6 = .pointer (some ⟨W2'.next, 0, none⟩) := by rw [hR]; rfl
    have f7 : R' 7 = .pointer (some ⟨W3.next, 0, none⟩) := by rw [hR]; rfl
    have f10 : R' 10 = .int .i64 (i : Int) := by rw [hR]; rfl
    have f11 : R' 11 = .pointer (some ⟨b, 0, none⟩) := by rw [hR]; rfl
    clear hR
    rw [plans_Step_Y1b_eq]
    unfold plans_Step_Y1b
    have ri : rwCells W' W2.next = some [.int .i64 i0] := by rw [h1.rwCells (by omega)]; exact ri6
    have rr : rwCells W' W2'.next = some [.int .i64 0, .int .i64 0] := by rw [h1.rwCells (by omega)]; exact r36
    have re : rwCells W' W3.next = some [.int .i64 0] := by rw [h1.rwCells (by omega)]; exact r46
    simp only [SX, f5, f10, ldI ri]
    by_cases t : (i : Int) = i0
    · simp only [SX, decide_eq_true t, f6, f7, f11, ld2 hb, stV2i rr, stI ((e3 _ _).trans re), Ok_some]
      refine ⟨Nat.le_refl _, by rw [AW.get_put_ne _ _ (by omega), AW.get_put_ne _ _ (by omega)], .inr ⟨by simp, trivial, ((l2'6.trans h1).put (by omega) _).put (by omega) _, i, hi, t, e2 _ _ _, rwCells_put _⟩⟩
    · simp only [SX, decide_eq_false t, Ok_some]
      refine ⟨Nat.le_refl _, trivial, .inl ⟨trivial, h1, fun j hj => ?_⟩⟩
      by_cases hji : j < i
      · exact h2 j hji
      · obtain rfl : j = i := by omega
        exact t
  · rintro x W7 (⟨rfl, h1, h2⟩ | ⟨_, rfl, h1, k, h2, h3, h4, h5⟩)
    · have hn1 : ¬ (0 ≤ i0 ∧ i0 < 2 * (l.length : Int) + 1) := fun h => h2 i0.toNat (by omega) (by omega)
      have n7 := h1.next
      have k2 : rwCells (W7.kill W6.next) W2'.next = some [.int .i64 0, .int .i64 0] := by rw [rw_kill (by omega), h1.rwCells (by omega)]; exact r36
      have k3 : rwCells (W7.kill W6.next) W3.next = some [.int .i64 0] := by rw [rw_kill (by omega), h1.rwCells (by omega)]; exact r46
      simp only [SX, if_neg hn1, bd46z, stV2i k2, stI ((e3 _ _).trans k3), oRes_L2, oL46, oL28, ld2 (e2 _ _ _), ldI (rwCells_put _), Option.bind_some, Ok_some]
      exact ⟨trivial, ((((l02'.trans l2'6).trans h1).kill (by omega)).put (by omega) _).put (by omega) _⟩
    · have hp1 : 0 ≤ i0 ∧ i0 < 2 * (l.length : Int) + 1 := by omega
      have hk : i0.toNat = k := by omega
      have k2 : rwCells (W7.kill W6.next) W2'.next = some [.int .i64 (stepAt l k).1, .int .i64 (stepAt l k).2] := by rw [rw_kill (by omega)]; exact h4
      have k3 : rwCells (W7.kill W6.next) W3.next = some [.int .i64 0] := by rw [rw_kill (by omega)]; exact h5
      simp only [SX, if_pos hp1, hk, oRes_L2, oL46, oL28, ld2 k2, ldI k3, Option.bind_some, Ok_some]
      exact ⟨trivial, (l02'.trans h1).kill (by omega)⟩
end Go.Proofs.YtfcfglpkgcheiaaDoor
/- PlansSteps: what it answers. -/
namespace Go.Proofs.YtfcfglpkgcheiaaDoor
open Go Go.Eng
set_option linter.unusedVariables false
set_option linter.unusedSimpArgs false
set_option maxRecDepth 100000
theorem stepE_in {v : Ven} {o : OpT} (he : (locksE v o).2 = 0) {i : Int} (h : 0 ≤ i ∧ i < 2 * ((locksE v o).1.length : Int) + 1) : stepE v o i = (stepAt (locksE v o).1 i.toNat, 0) := by
  unfold stepE
  rw [if_pos he, if_pos h]
/-- the steps are in pairs around the commit -/
theorem stepAt_pair (l : List Int) {k : Nat} (hk : k < 2 * l.length + 1) :
    (k < l.length ∧ ∃ x, stepAt l k = (1, x) ∧ stepAt l (2 * l.length - k) = (3, x)) ∨ (k = l.length ∧ stepAt l k = (2, 0) ∧ stepAt l (2 * l.length - k) = (2, 0)) ∨ (l.length < k ∧ ∃ x, stepAt l k = (3, x) ∧ stepAt l (2 * l.length - k) = (1, x)) := by
  unfold stepAt
  by_cases h1 : k < l.length
  · refine .inl ⟨h1, l.getD k 0, by rw [if_pos h1], ?_⟩
    rw [if_neg (by omega), if_neg (by omega)]
    congr 2
    omega
  · by_cases h2 : k = l.length
    · refine .inr (.inl ⟨h2, by rw [if_neg h1, if_pos h2], ?_⟩)
      rw [if_neg (by omega), if_pos (by omega)]
    · refine .inr (.inr ⟨by omega, l.getD (2 * l.length - k) 0, by rw [if_neg h1, if_neg h2], ?_⟩)
      rw [if_pos (by omega)]
theorem plansSteps_om {v : Ven} {o : OpT} {i0 : Int} {sv : Value} {W : AW} (hs : SecsC W sv v.secs) (hG : GW W) : omS (.func (.func 5) #[] #[]) [venV v sv, opV o, .int .i64 i0] W = some (.bool true, W) := by
  refine om_drop rfl ?_ law22_PlansSteps_om
  unfold law22_PlansSteps
  obtain ⟨W1, hB, hle, hn, c4, c0, c3⟩ := venBox v sv W
  obtain ⟨W2, b2, n2, l2, k12, k0⟩ := opBox o W1
  have l02 := hle.trans l2
  have hsn := hle.next
  obtain ⟨b, w1, w2⟩ := wide_ok (hs.mono l02).1
  simp only [SX, hB, b2, c4 _ l2, w1]
  cases b
  case true =>
    simp only [SX, shown_ok (hG.mono l02), Ok_some]
    exact ⟨trivial, l02⟩
  obtain ⟨w3, w4⟩ := w2 rfl
  have hv : v.secs.length < 1000 := by omega
  have hr : ∀ s ∈ v.secs, s.rows.length < 1000 := fun s h => by have := w4 s h; omega
  have hs2 := hs.mono l02
  have hG2 := hG.mono l02
  obtain ⟨W3, b3, n3, l3, r3⟩ := new46 W2
  have l23 := l3.put (Nat.le_refl _) (.cells [.int .i64 (stepE v o i0).1.1, .int .i64 (stepE v o i0).1.2])
  have r3' : rwCells (W3.put W2.next (.cells [.int .i64 (stepE v o i0).1.1, .int .i64 (stepE v o i0).1.2])) W2.next = some [.int .i64 (stepE v o i0).1.1, .int .i64 (stepE v o i0).1.2] := rwCells_put _
  simp only [SX, c4 _ l2, k12 _ (.refl _), planSteps_ok hs2 hv hG2, refSteps_ok hs2.1 hv hr, planStep_ok hs2 hv hG2, b3, stV2i r3]
  have n3' : (W3.put W2.next (.cells [.int .i64 (stepE v o i0).1.1, .int .i64 (stepE v o i0).1.2])).next = W2.next + 1 := by rw [AW.put_next]; exact n3
  generalize W3.put W2.next (.cells [.int .i64 (stepE v o i0).1.1, .int .i64 (stepE v o i0).1.2]) = X3 at *
  obtain ⟨W4, b4, n4, l4, r4⟩ := new46 X3
  have l24 := l23.trans (l4.put (Nat.le_refl _) (.cells [.int .i64 (stepE v o i0).1.1, .int .i64 (stepE v o i0).1.2]))
  have r4' : rwCells (W4.put X3.next (.cells [.int .i64 (stepE v o i0).1.1, .int .i64 (stepE v o i0).1.2])) X3.next = some [.int .i64 (stepE v o i0).1.1, .int .i64 (stepE v o i0).1.2] := rwCells_put _
  have r34 : rwCells (W4.put X3.next (.cells [.int .i64 (stepE v o i0).1.1, .int .i64 (stepE v o i0).1.2])) W2.next = some [.int .i64 (stepE v o i0).1.1, .int .i64 (stepE v o i0).1.2] := by rw [rwCells_put_ne _ (by omega), l4.rwCells (by omega)]; exact r3'
  simp only [SX, c4 _ (l2.trans l23), k12 _ l23, refStep_ok (hs2.mono l23).1 hv hr, b4, stV2i r4]
  generalize W4.put X3.next (.cells [.int .i64 (stepE v o i0).1.1, .int .i64 (stepE v o i0).1.2]) = X4 at *
  simp only [SX, decide_true, ld2 r34, ld2 r4', neq46, beq_self_eq_true, Bool.and_self, Bool.not_true]
  have hlen := locksE_len v o
  -- how many steps
  obtain ⟨n, hn1, hn2⟩ : ∃ n : Nat, (stepsE v o).1 = (n : Int) ∧ (n = 0 ∨ ((locksE v o).2 = 0 ∧ n = 2 * (locksE v o).1.length + 1)) := by
    unfold stepsE
    by_cases he : (locksE v o).2 = 0
    · rw [if_pos he]; exact ⟨2 * (locksE v o).1.length + 1, by simp, .inr ⟨he, rfl⟩⟩
    · rw [if_neg he]; exact ⟨0, rfl, .inl rfl⟩
  rw [hn1]
  refine Ok_loop n (by omega) (fun k R W' => Le X4 W' ∧ R 3 = .pointer (some ⟨W.next, 0, none⟩) ∧ R 4 = .pointer (some ⟨W1.next, 0, none⟩) ∧ R 7 = .int .i64 (n : Int) ∧ R 15 = .int .i64 (k : Int))
    (fun r => Le X4 r.2.2 ∧ r.1 = .exit 0) ⟨.refl _, rfl, rfl, rfl, rfl⟩ ?_ ?_ ?_
  · rintro k R W' hk ⟨hl, f3, f4, f7, f15⟩
    rcases hn2 with hn2 | ⟨he, hn2⟩
    · omega
    unfold law22_PlansSteps_L1
    have e1 : ((k : Int) < (n : Int)) := by omega
    have hlv := l24.trans hl
    have hs' := hs2.mono hlv
    have hG' := hG2.mono hlv
    have eA := stepE_in he (i := (k : Int)) (by omega)
    have eB := stepE_in he (i := 2 * ((locksE v o).1.length : Int) - k) (by omega)
    rw [Int.toNat_natCast] at eA
    rw [show (2 * ((locksE v o).1.length : Int) - k).toNat = 2 * (locksE v o).1.length - k by omega] at eB
    have hp := stepAt_pair (locksE v o).1 (k := k) (by omega)
    generalize stepAt (locksE v o).1 k = A at *
    generalize stepAt (locksE v o).1 (2 * (locksE v o).1.length - k) = B at *
    obtain ⟨Wa, ba, na, la, ra⟩ := new46 W'
    have lX := la.put (Nat.le_refl _) (.cells [.int .i64 A.1, .int .i64 A.2])
    have rX : rwCells (Wa.put W'.next (.cells [.int .i64 A.1, .int .i64 A.2])) W'.next = some [.int .i64 A.1, .int .i64 A.2] := rwCells_put _
    have nX : (Wa.put W'.next (.cells [.int .i64 A.1, .int .i64 A.2])).next = W'.next + 1 := by rw [AW.put_next]; exact na
    have es1 : ∀ W', oBin Tryd.prog .sub 3 false true (.int .i64 (n : Int)) (.int .i64 1) W' = some (.int .i64 (2 * ((locksE v o).1.length : Int)), W') := fun W' => by
      rw [oBin_sub (by omega) (by omega)]; congr 3; omega
    have es2 : ∀ W', oBin Tryd.prog .sub 3 false false (.int .i64 (2 * ((locksE v o).1.length : Int))) (.int .i64 (k : Int)) W' = some (.int .i64 (2 * ((locksE v o).1.length : Int) - k), W') := fun W' => oBin_sub (by omega) (by omega)
    have em : ∀ W', oBin Tryd.prog .mul 3 true false (.int .i64 2) (.int .i64 (k : Int)) W' = some (.int .i64 (2 * (k : Int)), W') := fun W' => oBin_mul (by omega) (by omega)
    have em1 : ∀ W', oBin Tryd.prog .add 3 false true (.int .i64 (2 * (k : Int))) (.int .i64 1) W' = some (.int .i64 (2 * (k : Int) + 1), W') := fun W' => oBin_add (by omega) (by omega)
    have add1 : ∀ W', oBin Tryd.prog .add 3 false true (.int .i64 (k : Int)) (.int .i64 1) W' = some (.int .i64 ((k + 1 : Nat) : Int), W') := fun W' => oBin_add (by omega) (by omega)
    simp only [SX, f3, f4, f7, f15, e1, c4 _ (l2.trans hlv), k12 _ hlv, planStep_ok hs' hv hG', eA, ba, stV2i ra, es1, es2]
    generalize Wa.put W'.next (.cells [.int .i64 A.1, .int .i64 A.2]) = X5 at *
    have hs5 := hs'.mono lX
    have hG5 := hG'.mono lX
    obtain ⟨Wb, bb, nb, lb, rb⟩ := new46 X5
    have lY := lX.trans (lb.put (Nat.le_refl _) (.cells [.int .i64 B.1, .int .i64 B.2]))
    have rY : rwCells (Wb.put X5.next (.cells [.int .i64 B.1, .int .i64 B.2])) X5.next = some [.int .i64 B.1, .int .i64 B.2] := rwCells_put _
    have rXY : rwCells (Wb.put X5.next (.cells [.int .i64 B.1, .int .i64 B.2])) W'.next = some [.int .i64 A.1, .int .i64 A.2] := by rw [rwCells_put_ne _ (by omega), lb.rwCells (by omega)]; exact rX
    simp only [SX, f3, f4, f7, f15, c4 _ ((l2.trans hlv).trans lX), k12 _ (hlv.trans lX), planStep_ok hs5 hv hG5, eB, bb, stV2i rb, es1, es2]
    generalize Wb.put X5.next (.cells [.int .i64 B.1, .int .i64 B.2]) = X6 at *
    rcases hp with ⟨hk1, x, rfl, rfl⟩ | ⟨hk1, rfl, rfl⟩ | ⟨hk1, x, rfl, rfl⟩
    · have t : ¬ (2 * (k : Int) + 1 = (n : Int)) := by omega
      simp only [SX, Int.reduceEq, decide_true, f7, f15, Nat.zero_add, ldR (o := 0) rXY rfl, ldR (o := 1) rXY rfl, ldR (o := 0) rY rfl, ldR (o := 1) rY rfl, em, em1, decide_eq_false t, oBin_bools_neq Tryd.underlying4, bne_self_eq_false, beq_self_eq_true, Bool.not_true, wnt_undef, add1, Ok_some]
      exact .inl ⟨trivial, hl.trans lY, f3, f4, f7, rfl⟩
    · have t : (2 * (k : Int) + 1 = (n : Int)) := by omega
      simp only [SX, Int.reduceEq, decide_true, f7, f15, Nat.zero_add, ldR (o := 0) rXY rfl, ldR (o := 1) rXY rfl, ldR (o := 0) rY rfl, ldR (o := 1) rY rfl, em, em1, decide_eq_true t, oBin_bools_neq Tryd.underlying4, bne_self_eq_false, beq_self_eq_true, Bool.not_true, wnt_undef, add1, Ok_some]
      exact .inl ⟨trivial, hl.trans lY, f3, f4, f7, rfl⟩
    · have t : ¬ (2 * (k : Int) + 1 = (n : Int)) := by omega
      simp only [SX, Int.reduceEq, decide_true, f7, f15, Nat.zero_add, ldR (o := 0) rXY rfl, ldR (o := 1) rXY rfl, ldR (o := 0) rY rfl, ldR (o := 1) rY rfl, em, em1, decide_eq_false t, oBin_bools_neq Tryd.underlying4, bne_self_eq_false, beq_self_eq_true, Bool.not_true, wnt_undef, add1, Ok_some]
      exact .inl ⟨trivial, hl.trans lY, f3, f4, f7, rfl⟩
  · rintro R W' ⟨hl, f3, f4, f7, f15⟩
    unfold law22_PlansSteps_L1
    have e1 : ¬ ((n : Int) < (n : Int)) := by omega
    simp only [SX, f7, f15, e1, Ok_some]
    exact ⟨by simp, hl, trivial⟩
  · rintro ⟨x, R, W'⟩ ⟨hl, hx⟩
    simp only at hl hx
    subst hx
    simp only [SX, shown_ok (hG2.mono (l24.trans hl)), Ok_some]
    exact ⟨trivial, l02.trans (l24.trans hl)⟩
end Go.Proofs.YtfcfglpkgcheiaaDoor
/- A venue and an operation that are handed in, opened. -/
namespace Go.Proofs.YtfcfglpkgcheiaaDoor
open Go Go.Eng Go.RowKit
set_option linter.unusedVariables false
set_option linter.unusedSimpArgs false
set_option maxRecDepth 100000
theorem sec_of {W : AW} {n : Nat} {c : List Value} (h : DR Tryd.prog W (n + 3) 62 c) : ∃ s : Sec, ∀ pre post, SecAt W (pre ++ (c ++ post)) pre.length s := by
  obtain ⟨c1, c2, rfl, h1, h2⟩ := (h.struct Tryd.underlying62).cons
  obtain ⟨c3, c4, rfl, h3, h4⟩ := h2.cons
  obtain ⟨c5, c6, rfl, h5, h6⟩ := h4.cons
  obtain rfl := h6.nil
  obtain ⟨s, rfl, _⟩ := h1.str Tryd.underlying9
  obtain ⟨rv, zs, rfl, hz, _⟩ := h3.ints Tryd.underlying38 Tryd.underlying3 (by kernel_rfl)
  obtain ⟨q, rfl⟩ := h5.int Tryd.underlying3
  refine ⟨⟨s.data.toList, zs, q⟩, fun pre post => ⟨?_, ?_, rv, ?_, hz⟩⟩
  · rw [List.getElem?_append_right (by omega), bytesL_back]; simp
  · rw [List.getElem?_append_right (by omega), Nat.add_sub_cancel_left]; rfl
  · rw [List.getElem?_append_right (by omega), Nat.add_sub_cancel_left]; rfl
theorem ven_of {W : AW} {n : Nat} {c : List Value} (h : DR Tryd.prog W (n + 5) 36 c) : ∃ (v : Ven) (sv : Value), c = [.int .i64 v.sh, .int .i64 v.ttl, .int .i64 v.ses, sv] ∧ SecsC W sv v.secs := by
  obtain ⟨c1, c2, rfl, h1, h2⟩ := (h.struct Tryd.underlying36).cons
  obtain ⟨c3, c4, rfl, h3, h4⟩ := h2.cons
  obtain ⟨c5, c6, rfl, h5, h6⟩ := h4.cons
  obtain ⟨c7, c8, rfl, h7, h8⟩ := h6.cons
  obtain rfl := h8.nil
  obtain ⟨a, rfl⟩ := h1.int Tryd.underlying3
  obtain ⟨b, rfl⟩ := h3.int Tryd.underlying2
  obtain ⟨d, rfl⟩ := h5.int Tryd.underlying2
  obtain ⟨sv, l, rfl, hr⟩ := h7.row Tryd.underlying34 (at_ := SecAt W) (fun c _ hc => sec_of hc)
  exact ⟨⟨a, b, d, l⟩, sv, rfl, hr⟩
section
variable {H : Type} {enc : TypeId × Value → H} {w : World} {σ : Inj} {W : AW} {v0 : Value} {d : DataW H} {p : List MemPlace} {r : Reach} {b0 : Nat}
theorem agg_of {t : TypeId} {fs : Array Field} (ht : Tryd.prog.underlying t = some (.struct fs)) (hv : Value.okWide Tryd.prog w r b0 t v0) : ∃ cs, v0 = .agg cs := by
  unfold Value.okWide at hv
  rw [ht] at hv
  obtain ⟨cs, h, _⟩ := hv
  exact ⟨cs, h⟩
theorem sim36 : simT Tryd.prog 6 36 = true := by kernel_rfl
theorem openVen (ho : Opened σ W w) (hv : Value.okWide Tryd.prog w r b0 36 v0) (h : DataW.Trod enc Tryd.prog w 0 (fun _ => true) true 36 v0 d p) :
    ∃ (σ2 : Inj) (W2 : AW) (v : Ven) (sv : Value), Opened σ2 W2 w ∧ Sub σ σ2 ∧ Le W W2 ∧ VR σ2 (venV v sv) v0 ∧ SecsC W2 sv v.secs := by
  obtain ⟨cs, rfl⟩ := agg_of Tryd.underlying36 hv
  obtain ⟨m, hm⟩ := h
  obtain ⟨σ2, W2, cs2, o2, s2, l2, r2, a2⟩ := opens_trod sim36 hm σ W ho
  obtain ⟨v, sv, rfl, hs⟩ := ven_of a2
  exact ⟨σ2, W2, v, sv, o2, s2, l2, .agg' (a := #[.int .i64 v.sh, .int .i64 v.ttl, .int .i64 v.ses, sv]) r2, hs⟩
theorem opFlat : flatK Tryd.prog 4 27 = some [.i64, .u32, .i64, .i64, .i64, .i64, .u32, .u32, .u32, .u64, .u64, .i64] := by kernel_rfl
theorem openOp (hv : Value.okWide Tryd.prog w r b0 27 v0) (h : DataW.Trod enc Tryd.prog w 0 (fun _ => true) true 27 v0 d p) : ∃ o : OpT, v0 = opV o := by
  obtain ⟨ns, hn, rfl, rfl, again⟩ := open_flat Tryd.underlying27 opFlat hv h
  match ns, hn with
  | [a, b, c, d, e, f, g, h, i, j, k, l], _ => exact ⟨⟨a, b, c, d, e, f, g, h, i, j, k, l⟩, rfl⟩
end
theorem openG {w : World} (hl : LaidG [(0, usesV)] w.heap) : Opened (σG [(0, usesV)]) (WG [(0, usesV)] 1) w := ⟨rel_G (by decide) hl, allRo_G, 0, _, rfl⟩
theorem gw_le {W : AW} (h : Le (WG [(0, usesV)] 1) W) : GW W := gw_W.mono h
theorem opV_plain (o : OpT) : plain (opV o) = true := rfl
theorem kidsT : Kids Tryd.prog (· < Tryd.prog.types.size) := kids_rows (by kernel_rfl) (by kernel_rfl)
theorem fullT : ∀ t e, t < Tryd.prog.types.size → Tryd.prog.underlying t = some (.slice e) → 0 < Tryd.prog.cellsOf e := slices_full_of Tryd.prog (by kernel_rfl)
/-- what is opened is called -/
theorem open_calls (hok : CalleeOK Tryd.prog PlanTab.ng omS) {w : World} {σ : Inj} {W : AW} (ho : Opened σ W w) (hs : Sub (σG [(0, usesV)]) σ) {i : Nat} {args args' : List Value} (hr : LR σ args args') (h : omS (.func (.func i) #[] #[]) args W = some (.bool true, W)) :
    Calls Tryd.prog i args'.toArray w fun e w' => e = .returned (.bool true) ∧ Quiet w w' := by
  have hG : Glob σ [0] := fun g hg => by
    obtain ⟨e, he⟩ := (glob_G (gs := [(0, usesV)]) (ng := [0]) rfl) g hg
    exact ⟨e, hs _ _ he⟩
  exact om_calls hok ho.rel hG ho.ro hr rfl h
end Go.Proofs.YtfcfglpkgcheiaaDoor
