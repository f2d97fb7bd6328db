/- A part: contracts and laws. -/
import Derived.Test.YthjakbhkmpdblaaGreatDoorPartD
set_option linter.unusedSectionVars false
set_option linter.unusedVariables false
set_option maxRecDepth 100000
namespace Go.Proofs.YthjakbhkmpdblaaGreatDoor
open Go Go.Eng
def rowPl (r : RowT) : List Plc := rowP r.sec r.row r.many.toNat
theorem rowPl_len (r : RowT) : (rowPl r).length = r.many.toNat := by simp [rowPl, rowP]
theorem rowPl_get (r : RowT) {i : Nat} (h : i < r.many.toNat) : (rowPl r)[i]? = some (r.sec, r.row, i) := by
  unfold rowPl rowP
  rw [List.getElem?_map, List.getElem?_range h]; rfl
theorem find_places : ∀ {L : List RowT} {s seat : Int}, Firsts s L → (∀ r ∈ L, 1 ≤ r.many) → s ≤ seat → seat < s + manyS L →
    ∃ r, L.find? (inRow seat) = some r ∧ (L.flatMap rowPl)[(seat - s).toNat]? = some (r.sec, r.row, (seat - r.first).toNat)
  | [], s, seat, _, _, h1, h2 => by rw [manyS_nil] at h2; omega
  | r :: L, s, seat, ⟨hf, hF⟩, hm, h1, h2 => by
    have hr := hm r (by simp)
    rw [manyS_cons] at h2
    by_cases h : seat < s + r.many
    · refine ⟨r, ?_, ?_⟩
      · rw [List.find?_cons_of_pos]
        unfold inRow
        simp only [Bool.and_eq_true, decide_eq_true_eq]
        omega
      · rw [List.flatMap_cons, List.getElem?_append_left (by rw [rowPl_len]; omega), rowPl_get _ (by omega), hf]
    · obtain ⟨x, x1, x2⟩ := find_places (s := s + r.many) hF (fun y hy => hm y (by simp [hy])) (by omega) (by omega : seat < s + r.many + manyS L)
      refine ⟨x, ?_, ?_⟩
      · rw [List.find?_cons_of_neg, x1]
        unfold inRow
        simp only [Bool.and_eq_true, decide_eq_true_eq]
        omega
      · rw [List.flatMap_cons, List.getElem?_append_right (by rw [rowPl_len]; omega), rowPl_len]
        rw [show (seat - s).toNat - r.many.toNat = (seat - (s + r.many)).toNat by omega]
        exact x2
theorem find_outside : ∀ {L : List RowT} {s seat : Int}, Firsts s L → (∀ r ∈ L, 1 ≤ r.many) → (seat < s ∨ s + manyS L ≤ seat) → L.find? (inRow seat) = none
  | [], _, _, _, _, _ => rfl
  | r :: L, s, seat, ⟨hf, hF⟩, hm, h => by
    have hr := hm r (by simp)
    rw [manyS_cons] at h
    have hp := manyS_pos (l := L) (fun y hy => hm y (by simp [hy]))
    rw [List.find?_cons_of_neg]
    · exact find_outside hF (fun y hy => hm y (by simp [hy])) (by omega)
    · unfold inRow
      simp only [Bool.and_eq_true, decide_eq_true_eq]
      omega
theorem rowPl_yes {sec : Int} {r : RowT} (h : isSec sec r = true) : ∀ q ∈ rowPl r, isSecP sec q = true := by
  intro q hq
  unfold rowPl rowP at hq
  obtain ⟨j, _, rfl⟩ := List.mem_map.1 hq
  exact h
theorem rowPl_no {sec : Int} {r : RowT} (h : isSec sec r = false) : ∀ q ∈ rowPl r, isSecP sec q = false := by
  intro q hq
  unfold rowPl rowP at hq
  obtain ⟨j, _, rfl⟩ := List.mem_map.1 hq
  exact h
theorem count_places {sec : Int} : ∀ {L : List RowT}, (∀ r ∈ L, 1 ≤ r.many) → (((L.flatMap rowPl).filter (isSecP sec)).length : Int) = manyS (L.filter (isSec sec))
  | [], _ => rfl
  | r :: L, hm => by
    have hr := hm r (by simp)
    have ih := count_places (sec := sec) (L := L) (fun y hy => hm y (by simp [hy]))
    rw [List.flatMap_cons, List.filter_append, List.length_append, List.filter_cons]
    cases h : isSec sec r with
    | true =>
      rw [if_pos rfl, manyS_cons, ← ih, List.filter_eq_self.2 (rowPl_yes h), rowPl_len]
      omega
    | false =>
      rw [if_neg (by simp), ← ih, List.filter_eq_nil_iff.2 (fun q hq => by rw [rowPl_no h q hq]; simp)]
      simp
theorem first_places {sec : Int} : ∀ {L : List RowT} {s : Int} {r0 : RowT} {l0 : List RowT}, Firsts s L → (∀ r ∈ L, 1 ≤ r.many) → L.filter (isSec sec) = r0 :: l0 → s + ((L.flatMap rowPl).findIdx (isSecP sec) : Int) = r0.first
  | [], _, _, _, _, _, h => by cases h
  | r :: L, s, r0, l0, ⟨hf, hF⟩, hm, h => by
    have hr := hm r (by simp)
    rw [List.flatMap_cons]
    rw [List.filter_cons] at h
    cases hs : isSec sec r with
    | true =>
      rw [hs, if_pos rfl] at h
      injection h with h1 h2
      subst h1
      have : ((rowPl r ++ L.flatMap rowPl).findIdx (isSecP sec)) = 0 := by
        cases hc : rowPl r with
        | nil => have := rowPl_len r; rw [hc] at this; simp at this; omega
        | cons q l =>
          have := rowPl_yes hs q (by rw [hc]; simp)
          rw [List.cons_append, List.findIdx_cons, this]; rfl
      rw [this]; omega
    | false =>
      rw [hs, if_neg (by simp)] at h
      have ih := first_places hF (fun y hy => hm y (by simp [hy])) h
      have hn : (rowPl r).findIdx (isSecP sec) = (rowPl r).length := by
        rw [List.findIdx_eq_length]
        intro x hx
        exact rowPl_no hs x hx
      rw [List.findIdx_append, hn, if_neg (by omega), rowPl_len]
      omega
theorem law_of (v : Ven) (sec : Int) : refOfE v sec = ofE v sec := by
  unfold refOfE ofE
  by_cases he : (venE v).2 = 0
  case neg => rw [if_neg he, if_neg he]
  rw [if_pos he, if_pos he]
  obtain ⟨hg, -⟩ := venE_good he
  have hm : ∀ x ∈ rowsL v.secs, 1 ≤ x.many := fun x hx => ((rows_mem hx).many hg).1
  have hc := count_places (sec := sec) hm
  have hpl : (rowsL v.secs).flatMap rowPl = places v.secs := (places_rows v.secs).symm
  rw [hpl] at hc
  by_cases h0 : ((places v.secs).filter (isSecP sec)).length = 0
  · rw [if_pos h0, if_pos (by omega)]
  · rw [if_neg h0, if_neg (by omega)]
    have hf : ((fidx (isSecP sec) (places v.secs) : Nat) : Int) = fstS ((rowsL v.secs).filter (isSec sec)) := by
      unfold fidx
      rw [if_neg h0]
      cases hl : (rowsL v.secs).filter (isSec sec) with
      | nil => rw [hl] at hc; rw [manyS_nil] at hc; omega
      | cons r l =>
        have := first_places (rows_firsts v.secs) hm hl
        rw [hpl] at this
        show _ = r.first
        omega
    rw [hf, hc]
def refPlaceE (v : Ven) (seat : Int) : Plc × Int := if (seatsE v).2 = 0 then (if seat < 0 ∨ (seatsE v).1 ≤ seat then ((0, 0, 0), 4) else ((places v.secs).getD seat.toNat (0, 0, 0), 0)) else ((0, 0, 0), (seatsE v).2)
theorem law_place (v : Ven) (seat : Int) : refPlaceE v seat = placeE v seat := by
  unfold refPlaceE placeE findE seatsE
  by_cases he : (venE v).2 = 0
  case neg => simp only [if_neg he]
  simp only [if_pos he, if_true]
  obtain ⟨hg, -⟩ := venE_good he
  have hm : ∀ x ∈ rowsL v.secs, 1 ≤ x.many := fun x hx => ((rows_mem hx).many hg).1
  have hpl : (rowsL v.secs).flatMap rowPl = places v.secs := (places_rows v.secs).symm
  by_cases h : seat < 0 ∨ total v.secs ≤ seat
  · rw [if_pos h, find_outside (rows_firsts v.secs) hm (by rw [rows_sum]; omega)]
    rfl
  · rw [if_neg h]
    obtain ⟨r, r1, r2⟩ := find_places (rows_firsts v.secs) hm (by omega : 0 ≤ seat) (by rw [rows_sum]; omega)
    rw [hpl, Int.sub_zero] at r2
    rw [r1, List.getD_eq_getElem?_getD, r2]
    rfl
theorem refPlace_ok {v : Ven} {sv : Value} {W : AW} {seat : Int} (hs : Secs W sv v.secs) (hv : v.secs.length < 1000) (hr : ∀ s ∈ v.secs, s.rows.length < 1000) : omS (.func (.func 123) #[] #[]) [venV v sv, .int .i64 seat] W = some (.tuple #[plcV (placeE v seat).1, .int .i64 (placeE v seat).2], W) := by
  rw [← law_place]
  refine om_drop rfl ?_ ref15_Place_om
  unfold ref15_Place refPlaceE
  obtain ⟨W1, hB, hle, hn, c4, c0, c3⟩ := venBox v sv W
  obtain ⟨W2, b2, n2, l2, r2⟩ := new65 W1
  have hsn := hle.next
  have l02 := hle.trans l2
  simp only [SX, hB, b2, c4 _ l2, refSeats_ok (hs.mono l02) hv hr]
  by_cases he : (seatsE v).2 = 0
  case neg =>
    simp only [SX, he, if_false, wnt_undef, bd65z, stV3i r2, oRes_L1n, oL65, ld3 (rwCells_put _), Option.bind_some, Ok_some]
    exact ⟨rfl, l02.put (by omega) _⟩
  have e40 : ¬ ((4 : Int) = 0) := by decide
  simp only [SX, decide_eq_true he, if_pos he]
  by_cases t1 : seat < 0
  · simp only [SX, decide_eq_true t1, if_pos (Or.inl t1 : seat < 0 ∨ (seatsE v).1 ≤ seat), e40, bd65z, stV3i r2, oRes_L1n, oL65, ld3 (rwCells_put _), Option.bind_some, Ok_some]
    exact ⟨rfl, l02.put (by omega) _⟩
  by_cases t2 : (seatsE v).1 ≤ seat
  · simp only [SX, decide_eq_false t1, decide_eq_true t2, if_pos (Or.inr t2 : seat < 0 ∨ (seatsE v).1 ≤ seat), e40, bd65z, stV3i r2, oRes_L1n, oL65, ld3 (rwCells_put _), Option.bind_some, Ok_some]
    exact ⟨rfl, l02.put (by omega) _⟩
  have hvz : (venE v).2 = 0 := by
    unfold seatsE at he
    split at he
    · assumption
    · exact he
  have hst : (seatsE v).1 = total v.secs := by unfold seatsE; rw [if_pos hvz]
  obtain ⟨hg, -⟩ := venE_good hvz
  obtain ⟨r, W3, q1, q2, q3⟩ := Places_ok (hs.mono l02) hg
  have hpl := places_len hg
  have hlt : seat.toNat < (places v.secs).length := by omega
  obtain ⟨b, o, p1, p2⟩ := q3.get hlt
  obtain ⟨-, -, p5⟩ := p2 W3 (.refl _)
  have p1' := fun W' => p1 W' .i64
  rw [Int.toNat_of_nonneg (by omega)] at p1'
  have r23 : rwCells W3 W1.next = some [.int .i64 0, .int .i64 0, .int .i64 0] := by rw [q2.rwCells (by omega)]; exact r2
  simp only [SX, decide_eq_false t1, decide_eq_false t2, if_neg (fun h => h.elim t1 t2 : ¬ (seat < 0 ∨ (seatsE v).1 ≤ seat)), c4 _ l2, q1, p1', p5, stV3i r23, oRes_L1n, oL65, ld3 (rwCells_put _), Option.bind_some, Ok_some]
  exact ⟨by rw [List.getD_eq_getElem?_getD, List.getElem?_eq_getElem hlt]; rfl, (l02.trans q2).put (by omega) _⟩
theorem refShard_ok {v : Ven} {sv : Value} {W : AW} {seat : Int} (hs : Secs W sv v.secs) (hv : v.secs.length < 1000) (hr : ∀ s ∈ v.secs, s.rows.length < 1000) : omS (.func (.func 124) #[] #[]) [venV v sv, .int .i64 seat] W = some (.tuple #[.int .i64 (shardE v seat).1, .int .i64 (shardE v seat).2], W) := by
  refine om_drop rfl ?_ ref15_Shard_om
  unfold ref15_Shard shardE
  obtain ⟨W1, hB, hle, hn, c4, c0, c3⟩ := venBox v sv W
  obtain ⟨W3, b3, n3, l3, r3⟩ := new65 W1
  have hsn := hle.next
  simp only [SX, hB, b3, c4 _ (.refl _), refPlace_ok (hs.mono hle) hv hr, stV3i r3]
  have hpe : (placeE v seat).2 = (findE v seat).2 := by
    unfold placeE
    by_cases he : (findE v seat).2 = 0
    · rw [if_pos he, he]
    · rw [if_neg he]
  rw [hpe]
  by_cases he : (findE v seat).2 = 0
  case neg =>
    simp only [SX, he, if_false, Ok_some]
    exact ⟨trivial, (hle.trans l3).put (by omega) _⟩
  obtain ⟨h1, h2, h3, h4, h5⟩ := findE_zero he
  obtain ⟨k1, k2, k3, k4, k5, -, -⟩ := row_mem (venE_good h1).1 h2
  have hsh := venE_sh h1
  have ea : ∀ W', oBin Tryz.prog .rem 3 false false (.int .i64 seat) (.int .i64 v.sh) W' = some (.int .i64 (seat % v.sh), W') := fun W' => by
    rw [oBin_rem (by omega), Int.tmod_eq_emod_of_nonneg (by omega)]
  simp only [SX, decide_eq_true he, if_pos he, Nat.zero_add, c0 _ (l3.put (Nat.le_refl _) _), ea, Ok_some]
  exact ⟨trivial, (hle.trans l3).put (by omega) _⟩
theorem refLock_ok {v : Ven} {sv : Value} {W : AW} {sec : Int} (hs : Secs W sv v.secs) (hv : v.secs.length < 1000) (hr : ∀ s ∈ v.secs, s.rows.length < 1000) : omS (.func (.func 121) #[] #[]) [venV v sv, .int .i64 sec] W = some (.tuple #[.int .i64 (lockE v sec).1, .int .i64 (lockE v sec).2], W) := by
  refine om_drop rfl ?_ ref15_Lock_om
  unfold ref15_Lock lockE
  obtain ⟨W1, hB, hle, hn, c4, c0, c3⟩ := venBox v sv W
  simp only [SX, hB, c4 _ (.refl _), refOf_ok (hs.mono hle) hv hr, law_of]
  by_cases he : (ofE v sec).2.2 = 0
  case neg =>
    simp only [SX, he, if_false, Ok_some]
    exact ⟨trivial, hle⟩
  obtain ⟨h1, h2, h3, -⟩ := ofE_zero he
  have hsh := venE_sh h1
  have ea : ∀ W', oBin Tryz.prog .add 3 false false (.int .i64 v.sh) (.int .i64 sec) W' = some (.int .i64 (v.sh + sec), W') := fun W' => oBin_add (by omega) (by omega)
  simp only [SX, decide_eq_true he, if_pos he, Nat.zero_add, c0 _ (.refl _), ea, Ok_some]
  exact ⟨trivial, hle⟩
def hitS (sh fi : Int) (m : Nat) (s : Nat) : Bool := (List.range m).any fun (i : Nat) => decide ((fi + (i : Int)) % sh = (s : Int))
theorem hitS_succ (sh fi : Int) (m s : Nat) : hitS sh fi (m + 1) s = (hitS sh fi m s || decide ((fi + (m : Int)) % sh = (s : Int))) := by simp [hitS, List.range_succ]
def refCov (sh fi : Int) (m : Nat) (k : Nat) : List Int := ((List.range k).filter (hitS sh fi m)).map fun (s : Nat) => (s : Int)
theorem refCov_succ (sh fi : Int) (m k : Nat) : refCov sh fi m (k + 1) = if hitS sh fi m k = true then refCov sh fi m k ++ [(k : Int)] else refCov sh fi m k := by
  unfold refCov
  rw [List.range_succ]
  cases h : hitS sh fi m k with
  | true => rw [filter_yes h, if_pos rfl, List.map_append]; rfl
  | false => rw [filter_not h, if_neg (by simp)]
theorem refCov_len (sh fi : Int) (m k : Nat) : (refCov sh fi m k).length ≤ k := by
  unfold refCov
  rw [List.length_map]
  have := List.length_filter_le (hitS sh fi m) (List.range k)
  rwa [List.length_range] at this
theorem law_cov {sh fi : Int} {m : Nat} (hsh : 1 ≤ sh) (hfi : 0 ≤ fi) : refCov sh fi m sh.toNat = sortL (covL sh fi (min (m : Int) sh).toNat) := by
  have hp : (refCov sh fi m sh.toNat).Pairwise fun a b => a < b := by
    unfold refCov
    rw [List.pairwise_map]
    exact (List.pairwise_lt_range.filter _).imp fun h => by omega
  have hn1 : (refCov sh fi m sh.toNat).Nodup := hp.imp fun h => by omega
  have hn2 : (covL sh fi (min (m : Int) sh).toNat).Nodup := by
    unfold covL List.Nodup
    rw [List.pairwise_map]
    refine List.Pairwise.imp_of_mem ?_ (List.pairwise_lt_range (n := (min (m : Int) sh).toNat))
    intro i j hi hj hij he
    rw [List.mem_range] at hi hj
    have h1 := Int.emod_emod_of_dvd (fi + (j : Int)) (Int.dvd_refl sh)
    have h2 := (Int.emod_eq_emod_iff_emod_sub_eq_zero).1 he.symm
    rw [show fi + (j : Int) - (fi + (i : Int)) = (j : Int) - i by omega, Int.emod_eq_of_lt (by omega) (by omega)] at h2
    omega
  have hperm : (covL sh fi (min (m : Int) sh).toNat).Perm (refCov sh fi m sh.toNat) := by
    rw [List.perm_ext_iff_of_nodup hn2 hn1]
    intro a
    unfold covL refCov hitS
    simp only [List.mem_map, List.mem_range, List.mem_filter, List.any_eq_true, decide_eq_true_eq]
    constructor
    · rintro ⟨i, hi, rfl⟩
      have h1 := Int.emod_nonneg (fi + (i : Int)) (by omega : sh ≠ 0)
      have h2 := Int.emod_lt_of_pos (fi + (i : Int)) (by omega : 0 < sh)
      exact ⟨((fi + (i : Int)) % sh).toNat, ⟨by omega, i, by omega, by omega⟩, by omega⟩
    · rintro ⟨s, ⟨hs, i, hi, he⟩, rfl⟩
      by_cases hc : (m : Int) ≤ sh
      · exact ⟨i, by omega, he⟩
      · have h1 := Int.emod_nonneg (i : Int) (by omega : sh ≠ 0)
        have h2 := Int.emod_lt_of_pos (i : Int) (by omega : 0 < sh)
        refine ⟨((i : Int) % sh).toNat, by omega, ?_⟩
        rw [Int.toNat_of_nonneg h1, Int.add_emod_emod]
        exact he
  refine List.Perm.eq_of_pairwise (le := fun a b => a ≤ b) (fun a b _ _ h1 h2 => by omega) (hp.imp fun h => by omega) ?_ (hperm.symm.trans (List.mergeSort_perm _ _).symm)
  refine (List.pairwise_mergeSort (le := fun x y : Int => decide (x ≤ y)) ?_ ?_ _).imp fun h => of_decide_eq_true h
  · intro a b c h1 h2
    have := of_decide_eq_true h1
    have := of_decide_eq_true h2
    exact decide_eq_true (by omega)
  · intro a b
    by_cases h : a ≤ b
    · rw [decide_eq_true h]; rfl
    · rw [decide_eq_true (show b ≤ a by omega), Bool.or_true]
theorem refCover_ok {v : Ven} {sv : Value} {W : AW} {sec : Int} (hs : Secs W sv v.secs) (hv : v.secs.length < 1000) (hr : ∀ s ∈ v.secs, s.rows.length < 1000) : ∃ u W2, omS (.func (.func 122) #[] #[]) [venV v sv, .int .i64 sec] W = some (.tuple #[u, .int .i64 (coverE v sec).2], W2) ∧ Le W W2 ∧ Ints W2 u (coverE v sec).1 := by
  refine om_row2 ?_ ref15_Cover_om
  unfold ref15_Cover coverE
  obtain ⟨W1, hB, hle, hn, c4, c0, c3⟩ := venBox v sv W
  have hsn := hle.next
  simp only [SX, hB, c4 _ (.refl _), refOf_ok (hs.mono hle) hv hr, law_of]
  by_cases he : (ofE v sec).2.2 = 0
  case neg =>
    simp only [SX, he, if_false, Ok_some]
    exact ⟨_, rfl, hle, Row.nil⟩
  obtain ⟨h1, h2, h3, -⟩ := ofE_zero he
  obtain ⟨b1, b2, b3, b4⟩ := ofE_bound he
  have hsh := venE_sh h1
  generalize hfm : ofE v sec = fm at *
  obtain ⟨fi, ma, er⟩ := fm
  simp only at he b1 b2 b3 b4 ⊢
  subst he
  obtain ⟨m, rfl⟩ : ∃ m : Nat, ma = (m : Int) := ⟨ma.toNat, by omega⟩
  simp only [SX, if_true]
  rw [← law_cov hsh.1 b1]
  have add1 : ∀ (k : Int) (W' : AW), 0 ≤ k → k < 1000000 → oBin Tryz.prog .add 3 false true (.int .i64 k) (.int .i64 1) W' = some (.int .i64 (k + 1), W') := fun k W' _ hk => oBin_add (by omega) (by omega)
  have efm : ∀ W', oBin Tryz.prog .add 3 false false (.int .i64 fi) (.int .i64 (m : Int)) W' = some (.int .i64 (fi + (m : Int)), W') := fun W' => oBin_add (by omega) (by omega)
  refine Ok_loop v.sh.toNat (by omega) (fun k R W' => Le W1 W' ∧ R 2 = .pointer (some ⟨W.next, 0, none⟩) ∧ R 6 = .int .i64 fi ∧ R 7 = .int .i64 (m : Int) ∧ R 10 = .int .i64 (k : Int) ∧ ∃ u, R 9 = u ∧ Lst W1.next W' 1 intC u (refCov v.sh fi m k))
    (fun r => Le W1 r.2.2 ∧ r.1 = .exit 0 ∧ ∃ u, r.2.1 9 = u ∧ Lst W1.next r.2.2 1 intC u (refCov v.sh fi m v.sh.toNat)) ⟨.refl _, rfl, rfl, rfl, rfl, _, rfl, .nil _ _ _ _⟩ ?_ ?_ ?_
  · rintro k R W' hk ⟨hl, f2, f6, f7, f10, u, f9, hL⟩
    unfold ref15_Cover_L1
    have e1 : ((k : Int) < v.sh) := by omega
    have hkl := refCov_len v.sh fi m k
    have e2 : (k : Int) + 1 = ((k + 1 : Nat) : Int) := by omega
    simp only [SX, f2, f6, f10, Nat.zero_add, c0 _ hl, e1]
    refine Ok_loop m (by omega) (fun j R W2 => W2 = W' ∧ R 2 = .pointer (some ⟨W.next, 0, none⟩) ∧ R 6 = .int .i64 fi ∧ R 7 = .int .i64 (m : Int) ∧ R 10 = .int .i64 (k : Int) ∧ R 9 = u ∧ R 11 = .bool (hitS v.sh fi j k) ∧ R 12 = .int .i64 (fi + (j : Int)))
      (fun r => r.1 = .exit 2 ∧ r.2.2 = W' ∧ r.2.1 2 = .pointer (some ⟨W.next, 0, none⟩) ∧ r.2.1 6 = .int .i64 fi ∧ r.2.1 7 = .int .i64 (m : Int) ∧ r.2.1 10 = .int .i64 (k : Int) ∧ r.2.1 9 = u ∧ r.2.1 11 = .bool (hitS v.sh fi m k)) ⟨rfl, f2, f6, f7, f10, f9, rfl, by show Value.int .i64 fi = _; congr 1; omega⟩ ?_ ?_ ?_
    · rintro j R W2 hj ⟨rfl, f2, f6, f7, f10, f9, f11, f12⟩
      unfold ref15_Cover_L1_L2
      have e3 : (fi + (j : Int) < fi + (m : Int)) := by omega
      have er : ∀ W', oBin Tryz.prog .rem 3 false false (.int .i64 (fi + (j : Int))) (.int .i64 v.sh) W' = some (.int .i64 ((fi + (j : Int)) % v.sh), W') := fun W' => by
        rw [oBin_rem (by omega), Int.tmod_eq_emod_of_nonneg (by omega)]
      have e4 : fi + (j : Int) + 1 = fi + ((j + 1 : Nat) : Int) := by omega
      have hh := hitS_succ v.sh fi j k
      simp only [SX, f2, f6, f7, f10, f12, efm, e3, Nat.zero_add, c0 _ hl, er]
      by_cases t : (fi + (j : Int)) % v.sh = (k : Int)
      · rw [decide_eq_true t, Bool.or_true] at hh
        simp only [SX, decide_eq_true t, add1 (fi + (j : Int)) _ (by omega) (by omega), Ok_some]
        exact .inl ⟨trivial, trivial, f2, f6, f7, f10, f9, by rw [hh]; rfl, by rw [← e4]; rfl⟩
      · rw [decide_eq_false t, Bool.or_false] at hh
        simp only [SX, decide_eq_false t, add1 (fi + (j : Int)) _ (by omega) (by omega), Ok_some]
        exact .inl ⟨trivial, trivial, f2, f6, f7, f10, f9, by rw [hh]; exact f11, by rw [← e4]; rfl⟩
    · rintro R W2 ⟨rfl, f2, f6, f7, f10, f9, f11, f12⟩
      unfold ref15_Cover_L1_L2
      have e3 : ¬ (fi + (m : Int) < fi + (m : Int)) := by omega
      simp only [SX, f6, f7, f12, efm, e3, Ok_some]
      exact ⟨by simp, trivial, trivial, f2, f6, f7, f10, f9, f11⟩
    · rintro ⟨x, R, W2⟩ ⟨hx, hW, f2, f6, f7, f10, f9, f11⟩
      simp only at hx hW f2 f6 f7 f10 f9 f11
      subst hx; subst hW
      have hc := refCov_succ v.sh fi m k
      simp only [SX, f11]
      cases hb : hitS v.sh fi m k
      · rw [hb, if_neg (by simp)] at hc
        simp only [SX, f10, add1 (k : Int) _ (by omega) (by omega), Ok_some]
        exact .inl ⟨trivial, hl, f2, f6, f7, by rw [← e2]; rfl, u, f9, by rw [hc]; exact hL⟩
      · rw [hb, if_pos rfl] at hc
        have hLm := hL.mono ((Le.refl W2).add (.cells [.int .i64 (k : Int)]))
        obtain ⟨v', W3, q1, q2, q3, q4⟩ := Lst.push (P := Tryz.prog) (a := (k : Int)) (b := W2.next) (c := 1) ap38 intC_len intC_one hLm cellsAt_new (by omega) (by omega) (by rw [AW.add_next]; have := hl.next; omega)
        simp only [SX, f9, f10, bs38, q1, add1 (k : Int) _ (by omega) (by omega), Ok_some]
        exact .inl ⟨trivial, q4 _ (hl.add _) (Nat.le_refl _), f2, f6, f7, by rw [← e2]; rfl, _, rfl, by rw [hc]; exact q2⟩
  · rintro R W' ⟨hl, f2, f6, f7, f10, u, f9, hL⟩
    unfold ref15_Cover_L1
    have e1 : ¬ ((v.sh.toNat : Int) < v.sh) := by omega
    simp only [SX, f2, f10, Nat.zero_add, c0 _ hl, e1, Ok_some]
    exact ⟨by simp, hl, trivial, u, f9, hL⟩
  · rintro ⟨x, R, W'⟩ ⟨hl, hx, u, f9, hL⟩
    simp only at hl hx f9 hL
    subst hx
    simp only [SX, f9, Ok_some]
    exact ⟨_, rfl, hle.trans hl, hL.ints⟩
theorem g27 : Tryz.prog.eqGuardType Tryz.prog.depth 56 = false := by kernel_rfl
noncomputable def eqThen (r : Option Bool) : List (Int × Int) → Option Bool
  | [] => r
  | p :: l => match some (p.1 == p.2) with
    | some true => eqThen r l
    | some false => some false
    | none => none
theorem eqThen_eq (b : Bool) : ∀ l : List (Int × Int), eqThen (some b) l = some ((l.all fun p => p.1 == p.2) && b)
  | [] => rfl
  | p :: l => by
    unfold eqThen
    cases h : p.1 == p.2 with
    | true => simp only [List.all_cons, h, Bool.true_and]; exact eqThen_eq b l
    | false => simp only [List.all_cons, h, Bool.false_and]
theorem q27 (k ow un se sc n to t1 t2 t3 t4 nw k' ow' un' se' sc' n' to' t1' t2' t3' t4' nw' : Int) : aEqS Tryz.prog 8 56 (.agg (opArr k ow un se sc n to t1 t2 t3 t4 nw)) (.agg (opArr k' ow' un' se' sc' n' to' t1' t2' t3' t4' nw')) =
  eqThen (match eqAll [(t1, t1'), (t2, t2'), (t3, t3'), (t4, t4')] with | some true => eqAll [(nw, nw')] | some false => some false | none => none) [(k, k'), (ow, ow'), (un, un'), (se, se'), (sc, sc'), (n, n'), (to, to')] := by kernel_rfl
def opEq (k ow un se sc n to t1 t2 t3 t4 nw k' ow' un' se' sc' n' to' t1' t2' t3' t4' nw' : Int) : Bool :=
  ([(k, k'), (ow, ow'), (un, un'), (se, se'), (sc, sc'), (n, n'), (to, to')] : List (Int × Int)).all (fun p => p.1 == p.2) && (([(t1, t1'), (t2, t2'), (t3, t3'), (t4, t4')] : List (Int × Int)).all (fun p => p.1 == p.2) && ([(nw, nw')] : List (Int × Int)).all (fun p => p.1 == p.2))
theorem neq27 (k ow un se sc n to t1 t2 t3 t4 nw k' ow' un' se' sc' n' to' t1' t2' t3' t4' nw' : Int) (c d : Bool) (W : AW) :
    oBin Tryz.prog .neq 56 c d (.agg #[.int .i64 k, .int .u32 ow, .int .i64 un, .int .i64 se, .int .i64 sc, .int .i64 n, .int .u32 to, .int .u32 t1, .int .u32 t2, .int .u64 t3, .int .u64 t4, .int .i64 nw]) (.agg #[.int .i64 k', .int .u32 ow', .int .i64 un', .int .i64 se', .int .i64 sc', .int .i64 n', .int .u32 to', .int .u32 t1', .int .u32 t2', .int .u64 t3', .int .u64 t4', .int .i64 nw']) W =
      some (.bool (!opEq k ow un se sc n to t1 t2 t3 t4 nw k' ow' un' se' sc' n' to' t1' t2' t3' t4' nw'), W) := by
  refine oBin_agg_neq g27 ((q27 ..).trans ?_)
  have h : (match eqAll [(t1, t1'), (t2, t2'), (t3, t3'), (t4, t4')] with | some true => eqAll [(nw, nw')] | some false => some false | none => none) = some (([(t1, t1'), (t2, t2'), (t3, t3'), (t4, t4')] : List (Int × Int)).all (fun p => p.1 == p.2) && ([(nw, nw')] : List (Int × Int)).all (fun p => p.1 == p.2)) := by
    rw [eqAll_eq]
    cases ([(t1, t1'), (t2, t2'), (t3, t3'), (t4, t4')] : List (Int × Int)).all (fun p => p.1 == p.2) with
    | true => rw [Bool.true_and]; exact eqAll_eq _
    | false => rfl
  rw [h, eqThen_eq]
  rfl
theorem e1 : ∀ b0 b1 b2 b3 b4 b5 b6 b7 : Bool, errB b0 b1 b2 b3 b4 b5 b6 b7 1 = if (b1 || (b2 || (b3 || (b4 || (b5 || (b6 || b7)))))) = true then 2 else 0 := by decide +kernel
theorem e7 : ∀ b0 b1 b2 b3 b4 b5 b6 b7 : Bool, errB b0 b1 b2 b3 b4 b5 b6 b7 7 = if (b3 || (b4 || (b5 || (b6 || b7)))) = true then 2 else 0 := by decide +kernel
theorem e27 : ∀ b0 b1 b2 b3 b4 b5 b6 b7 : Bool, errB b0 b1 b2 b3 b4 b5 b6 b7 27 = if (b2 || (b5 || (b6 || b7))) = true then 2 else 0 := by decide +kernel
theorem e99 : ∀ b0 b1 b2 b3 b4 b5 b6 b7 : Bool, errB b0 b1 b2 b3 b4 b5 b6 b7 99 = if (b2 || (b3 || (b4 || b7))) = true then 2 else 0 := by decide +kernel
theorem e67 : ∀ b0 b1 b2 b3 b4 b5 b6 b7 : Bool, errB b0 b1 b2 b3 b4 b5 b6 b7 67 = if (b2 || (b3 || (b4 || (b5 || b7)))) = true then 2 else 0 := by decide +kernel
theorem e64 : ∀ b0 b1 b2 b3 b4 b5 b6 b7 : Bool, errB b0 b1 b2 b3 b4 b5 b6 b7 64 = if (b0 || (b1 || (b2 || (b3 || (b4 || (b5 || b7)))))) = true then 2 else 0 := by decide +kernel
theorem e11 : ∀ b0 b1 b2 b3 b4 b5 b6 b7 : Bool, errB b0 b1 b2 b3 b4 b5 b6 b7 11 = if (b2 || (b4 || (b5 || (b6 || b7)))) = true then 2 else 0 := by decide +kernel
theorem e128 : ∀ b0 b1 b2 b3 b4 b5 b6 b7 : Bool, errB b0 b1 b2 b3 b4 b5 b6 b7 128 = if (b0 || (b1 || (b2 || (b3 || (b4 || (b5 || b6)))))) = true then 2 else 0 := by decide +kernel
theorem al27 (W : AW) : oAlloc Tryz.prog 56 W = some (.pointer (some ⟨W.next, 0, none⟩), W.add (.cells [.int .i64 0, .int .u32 0, .int .i64 0, .int .i64 0, .int .i64 0, .int .i64 0, .int .u32 0, .int .u32 0, .int .u32 0, .int .u64 0, .int .u64 0, .int .i64 0])) := Eq.trans (by kernel_rfl) rfl
theorem bd27 (k : Int) (W : AW) : oBuild Tryz.prog 56 [(0, .int .i64 k)] W = some (.agg #[.int .i64 k, .int .u32 0, .int .i64 0, .int .i64 0, .int .i64 0, .int .i64 0, .int .u32 0, .int .u32 0, .int .u32 0, .int .u64 0, .int .u64 0, .int .i64 0], W) := Eq.trans (by kernel_rfl) rfl
theorem Ok_ne {ρ : Type} {c : Bool} {a b : ρ} {G : ρ → Prop} (h1 : c = false → G a) (h2 : c = true → G b) : Ok (bIf (!c) (some a) (some b)) G := by
  cases c with
  | false => exact Ok_some.2 (h1 rfl)
  | true => exact Ok_some.2 (h2 rfl)
theorem refCheck_k (k ow un se sc n to t1 t2 t3 t4 nw : Int) (W : AW) : Ok (ref22_Check omS (.agg (opArr k ow un se sc n to t1 t2 t3 t4 nw)) W) fun r => r.1 = .int .i64 (chkE k ow un se sc n to t1 t2 t3 t4 nw) ∧ Le W r.2 := by
  by_cases hk : k < 1 ∨ 12 < k
  · have h1 : ∀ m : Int, 1 ≤ m ∧ m ≤ 12 → decide (k = m) = false := fun m h1 => decide_eq_false (by omega)
    unfold ref22_Check opArr
    simp (maxDischargeDepth := 9) only [SX, MX, HX, Nat.reduceAdd, Nat.reduceLeDiff, Nat.reduceLT, al27, bd27, ref22_Check_J1, ref22_Check_J2, ref22_Check_J3, h1 1 (by decide), h1 2 (by decide), h1 3 (by decide), h1 4 (by decide), h1 5 (by decide), h1 6 (by decide), h1 7 (by decide), h1 8 (by decide), h1 9 (by decide), h1 10 (by decide), h1 11 (by decide), h1 12 (by decide)]
    unfold chkE
    rw [if_pos hk]
  obtain rfl | rfl | rfl | rfl | rfl | rfl | rfl | rfl | rfl | rfl | rfl | rfl : k = 1 ∨ k = 2 ∨ k = 3 ∨ k = 4 ∨ k = 5 ∨ k = 6 ∨ k = 7 ∨ k = 8 ∨ k = 9 ∨ k = 10 ∨ k = 11 ∨ k = 12 := by omega
  all_goals
    unfold ref22_Check opArr chkE errOp
    simp (maxDischargeDepth := 9) only [SX, MX, HX, Nat.reduceAdd, Nat.reduceLeDiff, Nat.reduceLT, al27, bd27, neq27, setN, Int.reduceEq, ref22_Check_J1, ref22_Check_J2, ref22_Check_J3]
    refine Ok_ne (fun hb => ?_) (fun hb => ?_)
    all_goals
      refine ⟨congrArg (Value.int .i64) ?_, by simp (maxDischargeDepth := 9) only [HX]⟩
      rw [if_neg (by omega)]
      simp only [useL, Int.reduceToNat, List.getD_cons_succ, List.getD_cons_zero, e1, e7, e11, e27, e64, e67, e99, e128]
      unfold opEq at hb
      simp only [List.all_cons, List.all_nil, Bool.and_true, Bool.or_eq_true, Bool.and_eq_true, beq_iff_eq, Bool.not_eq_true', decide_eq_false_iff_not, Bool.and_eq_false_iff, beq_eq_false_iff_ne, true_and, and_true, ne_eq, not_true_eq_false, false_or, or_false] at hb ⊢
      split <;> first | rfl | (exfalso; omega)
theorem refCheck_ok (k ow un se sc n to t1 t2 t3 t4 nw : Int) (W : AW) : omS (.func (.func 24) #[] #[]) [.agg (opArr k ow un se sc n to t1 t2 t3 t4 nw)] W = some (.int .i64 (chkE k ow un se sc n to t1 t2 t3 t4 nw), W) :=
  om_drop rfl (refCheck_k k ow un se sc n to t1 t2 t3 t4 nw W) ref22_Check_om
def tgtE (k se sc t1 e : Int) : Int × Int × Int :=
  if e ≠ 0 then (0, 0, e) else if k = 2 ∨ k = 4 ∨ k = 5 ∨ k = 8 then (se, -1, 0) else if k = 6 ∨ k = 7 ∨ k = 9 then (IntKind.i64.wrap t1, -1, 0) else if k = 3 ∨ k = 10 ∨ k = 11 then (-1, sc, 0) else (-1, -1, 0)
def tgtV (x : Int × Int × Int) : Value := .tuple #[.int .i64 x.1, .int .i64 x.2.1, .int .i64 x.2.2]
theorem oConv22 (n : Int) (W : AW) : oConv Tryz.prog 51 3 (.int .u32 n) W = some (.int .i64 (IntKind.i64.wrap n), W) := Eq.trans (by kernel_rfl) rfl
def band (a b : Int) : Int := IntKind.i64.wrap ↑(BitVec.ofInt IntKind.i64.bits a &&& BitVec.ofInt IntKind.i64.bits b).toNat
theorem oBin_band {t : TypeId} {c d : Bool} {a b : Int} {W : AW} : oBin Tryz.prog .and t c d (.int .i64 a) (.int .i64 b) W = some (.int .i64 (band a b), W) := oBin_and
theorem bands : band 1 4 = 0 ∧ band 1 64 = 0 ∧ band 1 8 = 0 ∧ band 7 4 = 4 ∧ band 7 64 = 0 ∧ band 7 8 = 0 ∧ band 11 4 = 0 ∧ band 11 64 = 0 ∧ band 11 8 = 8 ∧ band 27 4 = 0 ∧ band 27 64 = 0 ∧ band 27 8 = 8 ∧ band 64 4 = 0 ∧ band 64 64 = 64 ∧ band 64 8 = 0 ∧ band 67 4 = 0 ∧ band 67 64 = 64 ∧ band 67 8 = 0 ∧ band 99 4 = 0 ∧ band 99 64 = 64 ∧ band 99 8 = 0 ∧ band 128 4 = 0 ∧ band 128 64 = 0 ∧ band 128 8 = 0 := by decide +kernel
theorem kind_cases (k : Int) : k = 1 ∨ k = 2 ∨ k = 3 ∨ k = 4 ∨ k = 5 ∨ k = 6 ∨ k = 7 ∨ k = 8 ∨ k = 9 ∨ k = 10 ∨ k = 11 ∨ k = 12 ∨ k < 1 ∨ 12 < k := by omega
theorem chk_out {k ow un se sc n to t1 t2 t3 t4 nw : Int} (hk : k < 1 ∨ 12 < k) : chkE k ow un se sc n to t1 t2 t3 t4 nw = 2 := if_pos hk
theorem planTarget_ok (k ow un se sc n to t1 t2 t3 t4 nw : Int) {W : AW} (hG : GW W) : omS (.func (.func 98) #[] #[]) [.agg (opArr k ow un se sc n to t1 t2 t3 t4 nw)] W = some (tgtV (tgtE k se sc t1 (chkE k ow un se sc n to t1 t2 t3 t4 nw)), W) := by
  refine om_drop rfl ?_ plans_Target_om
  have hP : ∀ o, omS (.func (.func 21) #[] #[]) [.agg (opArr k ow un se sc n to t1 t2 t3 t4 nw)] (W.add o) = some (.int .i64 (chkE k ow un se sc n to t1 t2 t3 t4 nw), W.add o) := fun o => planCheck_ok k ow un se sc n to t1 t2 t3 t4 nw (hG.mono ((Le.refl W).add o))
  have hU : ∀ o, cellsAt (W.add o) 0 = some usesV := fun o => GW.cells (hG.mono ((Le.refl W).add o))
  have hp := hG.pos
  have ix : ∀ (i : Int) (U : AW), 0 ≤ i ∧ i < 13 → ixA 13 1 (.pointer (some ⟨0, 0, none⟩)) (.int .i64 i) U = some (.pointer (some ⟨0, i.toNat, none⟩), U) := fun i U hi => by
    have := ixA_pos (len := 13) (z := 1) (b := 0) (o := 0) (n := i) (k := .i64) (W := U) hi.1 (by omega)
    simpa using this
  have h0 : ¬ (0 = W.next) := by omega
  have hUW := hG.cells
  unfold opArr at hP
  unfold plans_Target opArr tgtE
  by_cases he : chkE k ow un se sc n to t1 t2 t3 t4 nw = 0
  case neg =>
    have d := decide_eq_false he
    simp (maxDischargeDepth := 9) only [SX, MX, HX, Nat.reduceAdd, hP, d, if_pos he]
    rfl
  obtain rfl | rfl | rfl | rfl | rfl | rfl | rfl | rfl | rfl | rfl | rfl | rfl | h := kind_cases k
  rotate_right
  · rw [chk_out h] at he; cases he
  all_goals
    simp (maxDischargeDepth := 9) only [SX, MX, HX, Nat.reduceAdd, hP, he, ix, hU, usesV, useL, List.map_cons, List.map_nil, oBin_band, Int.reduceToNat, Int.reduceLT, Int.reduceLE, Int.reduceEq, bands, oConv22]
    simp [tgtV]
theorem refTarget_ok (k ow un se sc n to t1 t2 t3 t4 nw : Int) (W : AW) : omS (.func (.func 120) #[] #[]) [.agg (opArr k ow un se sc n to t1 t2 t3 t4 nw)] W = some (tgtV (tgtE k se sc t1 (chkE k ow un se sc n to t1 t2 t3 t4 nw)), W) := by
  refine om_drop rfl ?_ ref22_Target_om
  have hP : ∀ o, omS (.func (.func 24) #[] #[]) [.agg (opArr k ow un se sc n to t1 t2 t3 t4 nw)] (W.add o) = some (.int .i64 (chkE k ow un se sc n to t1 t2 t3 t4 nw), W.add o) := fun o => refCheck_ok k ow un se sc n to t1 t2 t3 t4 nw (W.add o)
  unfold opArr at hP
  unfold ref22_Target opArr tgtE
  by_cases he : chkE k ow un se sc n to t1 t2 t3 t4 nw = 0
  case neg =>
    have d := decide_eq_false he
    simp (maxDischargeDepth := 9) only [SX, MX, HX, Nat.reduceAdd, hP, d, if_pos he]
    rfl
  obtain rfl | rfl | rfl | rfl | rfl | rfl | rfl | rfl | rfl | rfl | rfl | rfl | h := kind_cases k
  rotate_right
  · rw [chk_out h] at he; cases he
  all_goals
    simp (maxDischargeDepth := 9) only [SX, MX, HX, Nat.reduceAdd, hP, he, Int.reduceEq, oConv22, ref22_Target_J1, ref22_Target_J2, ref22_Target_J3]
    simp [tgtV]
structure OpT where
  k : Int
  ow : Int
  un : Int
  se : Int
  sc : Int
  n : Int
  to : Int
  t1 : Int
  t2 : Int
  t3 : Int
  t4 : Int
  nw : Int
abbrev opV (o : OpT) : Value := .agg (opArr o.k o.ow o.un o.se o.sc o.n o.to o.t1 o.t2 o.t3 o.t4 o.nw)
def tgtO (o : OpT) : Int × Int × Int := tgtE o.k o.se o.sc o.t1 (chkE o.k o.ow o.un o.se o.sc o.n o.to o.t1 o.t2 o.t3 o.t4 o.nw)
theorem chkE_range {k ow un se sc n to t1 t2 t3 t4 nw : Int} (h : chkE k ow un se sc n to t1 t2 t3 t4 nw = 0) : 1 ≤ k ∧ k ≤ 12 := by
  unfold chkE at h
  split at h
  · exact absurd h (by decide)
  · omega
theorem tgtO_range {o : OpT} (h : (tgtO o).2.2 = 0) : 1 ≤ o.k ∧ o.k ≤ 12 := by
  have he : chkE o.k o.ow o.un o.se o.sc o.n o.to o.t1 o.t2 o.t3 o.t4 o.nw = 0 := by
    unfold tgtO tgtE at h
    split at h
    · exact h
    · rename_i h2; exact Classical.not_not.1 h2
  exact chkE_range he
theorem planTgt_ok (o : OpT) {W : AW} (h : GW W) : omS (.func (.func 98) #[] #[]) [opV o] W = some (.tuple #[.int .i64 (tgtO o).1, .int .i64 (tgtO o).2.1, .int .i64 (tgtO o).2.2], W) := planTarget_ok _ _ _ _ _ _ _ _ _ _ _ _ h
theorem refTgt_ok (o : OpT) (W : AW) : omS (.func (.func 120) #[] #[]) [opV o] W = some (.tuple #[.int .i64 (tgtO o).1, .int .i64 (tgtO o).2.1, .int .i64 (tgtO o).2.2], W) := refTarget_ok _ _ _ _ _ _ _ _ _ _ _ _ W
def kindL (v : Ven) (k s c : Int) : List Int :=
  if k = 12 then (List.range (v.sh.toNat + v.secs.length)).map fun (i : Nat) => (i : Int)
  else if k = 3 then (coverE v c).1
  else if k = 4 ∨ k = 7 ∨ k = 8 then (if (placeE v s).2 = 0 then [(shardE v s).1, (lockE v ((placeE v s).1.1 : Int)).1] else [])
  else if k = 2 ∨ k = 5 ∨ k = 6 ∨ k = 9 then (if (placeE v s).2 = 0 then [(shardE v s).1] else [])
  else if k = 10 ∨ k = 11 then (if (lockE v c).2 = 0 then [(lockE v c).1] else [])
  else []
def locksE (v : Ven) (o : OpT) : List Int × Int := if (venE v).2 = 0 then (if (tgtO o).2.2 = 0 then (kindL v o.k (tgtO o).1 (tgtO o).2.1, 0) else ([], (tgtO o).2.2)) else ([], (venE v).2)
theorem opBox (o : OpT) (W : AW) : ∃ W1, oBox (opV o) W = some (.pointer (some ⟨W.next, 0, none⟩), W1) ∧ W1.next = W.next + 1 ∧ Le W W1 ∧ (∀ W', Le W1 W' → ldA 12 (.pointer (some ⟨W.next, 0, none⟩)) W' = some (opV o, W')) ∧ (∀ W', Le W1 W' → ldC (.pointer (some ⟨W.next, 0, none⟩)) W' = some (.int .i64 o.k, W')) := by
  have hc : cellsAt (W.add (.cells (opArr o.k o.ow o.un o.se o.sc o.n o.to o.t1 o.t2 o.t3 o.t4 o.nw).toList)) W.next = some (opArr o.k o.ow o.un o.se o.sc o.n o.to o.t1 o.t2 o.t3 o.t4 o.nw).toList := cellsAt_new
  have hn : W.next < (W.add (.cells (opArr o.k o.ow o.un o.se o.sc o.n o.to o.t1 o.t2 o.t3 o.t4 o.nw).toList)).next := by rw [AW.add_next]; omega
  exact ⟨_, oBox_agg _, AW.add_next _ _, (Le.refl W).add _, fun W' k => ldA_all (by rw [k.cellsAt hn]; exact hc) rfl, fun W' k => ldC_ok (by rw [k.cellsAt hn]; exact hc) rfl⟩
theorem shard_place (v : Ven) (s : Int) : (shardE v s).2 = (placeE v s).2 := by
  unfold shardE placeE
  by_cases he : (findE v s).2 = 0
  · rw [if_pos he, if_pos he]
  · rw [if_neg he, if_neg he]
theorem cover_lock (v : Ven) (c : Int) : (coverE v c).2 = (lockE v c).2 := by
  unfold coverE lockE
  by_cases he : (ofE v c).2.2 = 0
  · rw [if_pos he, if_pos he]
  · rw [if_neg he, if_neg he]
theorem cover_none {v : Ven} {c : Int} (h : ¬ (coverE v c).2 = 0) : (coverE v c).1 = [] := by
  unfold coverE at h ⊢
  by_cases he : (ofE v c).2.2 = 0
  · rw [if_pos he] at h; exact absurd rfl h
  · rw [if_neg he]
theorem len34 : ((#[22] : Array TypeId)[0]?).bind Tryz.prog.underlying = some (.slice 63) := by kernel_rfl
theorem one38 (x : Int) (W : AW) : Ints (W.add (.cells [.int .i64 x])) (.slice (some ⟨W.next, 0, none⟩) 1 (BIG + 1)) [x] := ints_new [x] _ W
theorem two38 (x y : Int) (W : AW) : Ints (W.add (.cells [.int .i64 x, .int .i64 y])) (.slice (some ⟨W.next, 0, none⟩) 2 (BIG + 1)) [x, y] := ints_new [x, y] _ W
theorem lit38 (x : Int) (W : AW) : Ints (W.add (.cells [.int .i64 x])) (.slice (some ⟨W.next, 0, none⟩) 1 1) [x] := ints_new [x] _ W
theorem ap_one (x : Int) (W : AW) : aAppend Tryz.prog (W.add (.cells [.int .i64 x])) #[40, 40] (.slice none 0 0) (.slice (some ⟨W.next, 0, none⟩) 1 1) = some (.slice (some ⟨(W.add (.cells [.int .i64 x])).next, 0, none⟩) 1 (BIG + 1), (W.add (.cells [.int .i64 x])).add (.cells [.int .i64 x])) :=
  app_nil ap38 cellsAt_new rfl rfl (by omega) rfl (by omega) (by omega)
theorem ap_zero (a : Option Addr) (W : AW) : aAppend Tryz.prog W #[40, 40] (.slice a 1 1) (.slice none 0 0) = some (.slice a 1 1, W) := app_zero ap38 (by omega) (by omega) (by omega)
theorem ap_two (x y : Int) {W : AW} {b c : Nat} (h : cellsAt W b = some [.int .i64 y]) (hb : b < W.next) : aAppend Tryz.prog (W.add (.cells [.int .i64 x])) #[40, 40] (.slice (some ⟨W.next, 0, none⟩) 1 1) (.slice (some ⟨b, 0, none⟩) 1 c) = some (.slice (some ⟨(W.add (.cells [.int .i64 x])).next, 0, none⟩) 2 (BIG + 1), (W.add (.cells [.int .i64 x])).add (.cells [.int .i64 x, .int .i64 y])) :=
  app_lit (n := 1) (m := 1) (o := 0) ap38 (by rw [cellsAt_add _ hb]; exact h) rfl rfl (by omega) rfl cellsAt_new rfl (by omega) (by omega) (by omega)
theorem kindL_1 (v : Ven) (s c : Int) : kindL v 1 s c = [] := by simp [kindL]
theorem kindL_3 (v : Ven) (s c : Int) : kindL v 3 s c = (coverE v c).1 := by simp [kindL]
theorem kindL_4 (v : Ven) (s c : Int) : kindL v 4 s c = (if (placeE v s).2 = 0 then [(shardE v s).1, (lockE v ((placeE v s).1.1 : Int)).1] else []) := by simp [kindL]
theorem kindL_7 (v : Ven) (s c : Int) : kindL v 7 s c = (if (placeE v s).2 = 0 then [(shardE v s).1, (lockE v ((placeE v s).1.1 : Int)).1] else []) := by simp [kindL]
theorem kindL_8 (v : Ven) (s c : Int) : kindL v 8 s c = (if (placeE v s).2 = 0 then [(shardE v s).1, (lockE v ((placeE v s).1.1 : Int)).1] else []) := by simp [kindL]
theorem kindL_2 (v : Ven) (s c : Int) : kindL v 2 s c = (if (placeE v s).2 = 0 then [(shardE v s).1] else []) := by simp [kindL]
theorem kindL_5 (v : Ven) (s c : Int) : kindL v 5 s c = (if (placeE v s).2 = 0 then [(shardE v s).1] else []) := by simp [kindL]
theorem kindL_6 (v : Ven) (s c : Int) : kindL v 6 s c = (if (placeE v s).2 = 0 then [(shardE v s).1] else []) := by simp [kindL]
theorem kindL_9 (v : Ven) (s c : Int) : kindL v 9 s c = (if (placeE v s).2 = 0 then [(shardE v s).1] else []) := by simp [kindL]
theorem kindL_10 (v : Ven) (s c : Int) : kindL v 10 s c = (if (lockE v c).2 = 0 then [(lockE v c).1] else []) := by simp [kindL]
theorem kindL_11 (v : Ven) (s c : Int) : kindL v 11 s c = (if (lockE v c).2 = 0 then [(lockE v c).1] else []) := by simp [kindL]
def upTo (n : Nat) : List Int := (List.range n).map fun (i : Nat) => (i : Int)
theorem upTo_succ (n : Nat) : upTo (n + 1) = upTo n ++ [(n : Int)] := by simp [upTo, List.range_succ]
theorem upTo_len (n : Nat) : (upTo n).length = n := by simp [upTo]
theorem kindL_12 (v : Ven) (s c : Int) : kindL v 12 s c = upTo (v.sh.toNat + v.secs.length) := by simp [kindL, upTo]
theorem planLocks_ok {v : Ven} {o : OpT} {sv : Value} {W : AW} (hs : SecsC W sv v.secs) (hv : v.secs.length < 1000) (hG : GW W) :
    ∃ u W2, omS (.func (.func 80) #[] #[]) [venV v sv, opV o] W = some (.tuple #[u, .int .i64 (locksE v o).2], W2) ∧ Le W W2 ∧ Ints W2 u (locksE v o).1 := by
  refine om_row2 ?_ plans_Locks_om
  unfold plans_Locks locksE
  obtain ⟨W1, hB, hle, hn, c4, c0, c3⟩ := venBox v sv W
  obtain ⟨W2, b2, n2, l2, k12, k0⟩ := opBox o W1
  have l02 := hle.trans l2
  have hsn := hle.next
  have hs2 := hs.mono l02
  simp only [SX, hB, b2, c4 _ l2, venCheck_ok hs2 hv]
  by_cases he : (venE v).2 = 0
  case neg =>
    simp only [SX, he, if_false, Ok_some]
    exact ⟨_, rfl, l02, Row.nil⟩
  simp only [SX, decide_eq_true he, if_pos he, k12 _ (.refl _), planTgt_ok o (hG.mono l02)]
  by_cases ht : (tgtO o).2.2 = 0
  case neg =>
    simp only [SX, ht, if_false, Ok_some]
    exact ⟨_, rfl, l02, Row.nil⟩
  have hk := tgtO_range ht
  simp only [SX, decide_eq_true ht, if_pos ht, Nat.zero_add, k0 _ (.refl _)]
  clear ht k12 k0 b2
  generalize (tgtO o).1 = s, (tgtO o).2.1 = c, o.k = kk at *
  have hkk : kk = 1 ∨ kk = 3 ∨ kk = 12 ∨ (kk = 2 ∨ kk = 5 ∨ kk = 6 ∨ kk = 9) ∨ (kk = 4 ∨ kk = 7 ∨ kk = 8) ∨ (kk = 10 ∨ kk = 11) := by omega
  rcases hkk with rfl | rfl | rfl | hkk | hkk | hkk
  · rw [kindL_1]
    simp only [SX, Int.reduceEq, Ok_some]
    exact ⟨_, rfl, l02, Row.nil⟩
  · rw [kindL_3]
    obtain ⟨u, W4, q1, q2, q3⟩ := cover_ok (sec := c) hs2 hv
    simp only [SX, Int.reduceEq, c4 _ l2, q1]
    by_cases hc : (coverE v c).2 = 0
    · simp only [SX, decide_eq_true hc, Ok_some]
      exact ⟨_, rfl, l02.trans q2, q3⟩
    · rw [cover_none hc]
      simp only [SX, hc, Ok_some]
      exact ⟨_, rfl, l02.trans q2, Row.nil⟩
  · rw [kindL_12]
    have hsh := venE_sh he
    have ea : ∀ W', oBin Tryz.prog .add 3 false false (.int .i64 v.sh) (.int .i64 (v.secs.length : Int)) W' = some (.int .i64 ((v.sh.toNat + v.secs.length : Nat) : Int), W') := fun W' => by
      rw [oBin_add (by omega) (by omega)]; congr 3; omega
    simp only [SX, c0 _ l2, c3 _ l2, hs2.1.len len34, ea]
    generalize hm : v.sh.toNat + v.secs.length = m at *
    refine Ok_loop m (by omega) (fun i R W' => Le W2 W' ∧ R 63 = .int .i64 (m : Int) ∧ R 64 = .int .i64 (i : Int) ∧ ∃ u, R 11 = u ∧ Lst W2.next W' 1 intC u (upTo i))
      (fun r => Le W2 r.2.2 ∧ r.1 = .exit 6 ∧ ∃ u, r.2.1 11 = u ∧ Lst W2.next r.2.2 1 intC u (upTo m)) ⟨.refl _, rfl, rfl, _, rfl, .nil _ _ _ _⟩ ?_ ?_ ?_
    · rintro i R W' hi ⟨hl, f63, f64, u, f11, hL⟩
      unfold plans_Locks_L1
      have e1 : ((i : Int) < (m : Int)) := by omega
      have eb : ∀ W', oBin Tryz.prog .add 3 false true (.int .i64 (i : Int)) (.int .i64 1) W' = some (.int .i64 ((i + 1 : Nat) : Int), W') := fun W' => oBin_add (by omega) (by omega)
      have hLm := hL.mono ((Le.refl W').add (.cells [.int .i64 (i : Int)]))
      obtain ⟨v', W3, q1, q2, q3, q4⟩ := Lst.push (P := Tryz.prog) (a := (i : Int)) (b := W'.next) (c := 1) ap38 intC_len intC_one hLm cellsAt_new (by rw [upTo_len]; omega) (by rw [upTo_len]; omega) (by rw [AW.add_next]; have := hl.next; omega)
      simp only [SX, f63, f64, f11, e1, bs38, q1, eb, Ok_some]
      exact .inl ⟨trivial, q4 _ (hl.add _) (Nat.le_refl _), f63, rfl, _, rfl, by rw [upTo_succ]; exact q2⟩
    · rintro R W' ⟨hl, f63, f64, u, f11, hL⟩
      unfold plans_Locks_L1
      have e1 : ¬ ((m : Int) < (m : Int)) := by omega
      simp only [SX, f63, f64, e1, Ok_some]
      exact ⟨by simp, hl, trivial, u, f11, hL⟩
    · rintro ⟨x, R, W'⟩ ⟨hl, hx, u, f11, hL⟩
      simp only at hl hx f11 hL
      subst hx
      simp only [SX, f11, Ok_some]
      exact ⟨_, rfl, l02.trans hl, hL.ints⟩
  · rcases hkk with rfl | rfl | rfl | rfl <;> (
      first | rw [kindL_2] | rw [kindL_5] | rw [kindL_6] | rw [kindL_9]
      simp only [SX, Int.reduceEq, c4 _ l2, shard_ok hs2 hv, shard_place]
      by_cases hp : (placeE v s).2 = 0
      · simp only [SX, decide_eq_true hp, if_pos hp, bs38, ap_zero, Ok_some]
        exact ⟨_, rfl, l02.add _, lit38 _ _⟩
      · simp only [SX, hp, if_false, Ok_some]
        exact ⟨_, rfl, l02, Row.nil⟩)
  · obtain ⟨W3, b3, n3, l3, r3⟩ := new65 W2
    have l2X := l3.put (Nat.le_refl _) (.cells [.int .i64 ((placeE v s).1.1 : Int), .int .i64 ((placeE v s).1.2.1 : Int), .int .i64 ((placeE v s).1.2.2 : Int)])
    have rX := rwCells_put (W := W3) (b := W2.next) [.int .i64 ((placeE v s).1.1 : Int), .int .i64 ((placeE v s).1.2.1 : Int), .int .i64 ((placeE v s).1.2.2 : Int)]
    have hk4 : kindL v kk s c = (if (placeE v s).2 = 0 then [(shardE v s).1, (lockE v ((placeE v s).1.1 : Int)).1] else []) := by
      rcases hkk with rfl | rfl | rfl
      · exact kindL_4 _ _ _
      · exact kindL_7 _ _ _
      · exact kindL_8 _ _ _
    rw [hk4]
    rcases hkk with rfl | rfl | rfl <;> (
      simp only [SX, Int.reduceEq, c4 _ l2, place_ok hs2 hv, b3, stV3i r3]
      generalize W3.put W2.next (.cells [.int .i64 ((placeE v s).1.1 : Int), .int .i64 ((placeE v s).1.2.1 : Int), .int .i64 ((placeE v s).1.2.2 : Int)]) = X at *
      by_cases hp : (placeE v s).2 = 0
      · simp only [SX, decide_eq_true hp, if_pos hp, c4 _ (l2.trans l2X), Nat.zero_add, ldRw (o := 0) rX rfl, lock_ok (hs2.mono l2X) hv, bs38, ap_one]
        have lY := (l2X.add (.cells [.int .i64 (lockE v ((placeE v s).1.1 : Int)).1])).add (.cells [.int .i64 (lockE v ((placeE v s).1.1 : Int)).1])
        have hY : cellsAt ((X.add (.cells [.int .i64 (lockE v ((placeE v s).1.1 : Int)).1])).add (.cells [.int .i64 (lockE v ((placeE v s).1.1 : Int)).1])) (X.add (.cells [.int .i64 (lockE v ((placeE v s).1.1 : Int)).1])).next = some [.int .i64 (lockE v ((placeE v s).1.1 : Int)).1] := cellsAt_new
        have hY2 : (X.add (.cells [.int .i64 (lockE v ((placeE v s).1.1 : Int)).1])).next < ((X.add (.cells [.int .i64 (lockE v ((placeE v s).1.1 : Int)).1])).add (.cells [.int .i64 (lockE v ((placeE v s).1.1 : Int)).1])).next := Nat.lt_of_lt_of_eq (Nat.lt_succ_self _) (AW.add_next _ _).symm
        generalize (X.add (.cells [.int .i64 (lockE v ((placeE v s).1.1 : Int)).1])).add (.cells [.int .i64 (lockE v ((placeE v s).1.1 : Int)).1]) = Y at *
        simp only [SX, c4 _ (l2.trans lY), shard_ok (hs2.mono lY) hv, shard_place, decide_eq_true hp, bs38, ap_two _ _ hY hY2, Ok_some]
        exact ⟨_, rfl, ((l02.trans lY).add _).add _, two38 _ _ _⟩
      · simp only [SX, hp, if_false, c4 _ (l2.trans l2X), shard_ok (hs2.mono l2X) hv, shard_place, Ok_some]
        exact ⟨_, rfl, l02.trans l2X, Row.nil⟩)
  · rcases hkk with rfl | rfl <;> (
      first | rw [kindL_10] | rw [kindL_11]
      simp only [SX, Int.reduceEq, c4 _ l2, lock_ok hs2 hv]
      by_cases hp : (lockE v c).2 = 0
      · simp only [SX, decide_eq_true hp, if_pos hp, bs38, ap_one, Ok_some]
        exact ⟨_, rfl, (l02.add _).add _, one38 _ _⟩
      · simp only [SX, hp, if_false, Ok_some]
        exact ⟨_, rfl, l02, Row.nil⟩)
theorem bs38_2 (a b : Int) (W : AW) : oBuildSlice Tryz.prog 40 2 [(0, .int .i64 a), (1, .int .i64 b)] W = some (.slice (some ⟨W.next, 0, none⟩) 2 2, W.add (.cells [.int .i64 a, .int .i64 b])) := Eq.trans (by kernel_rfl) rfl
theorem lit38_2 (x y : Int) (W : AW) : Ints (W.add (.cells [.int .i64 x, .int .i64 y])) (.slice (some ⟨W.next, 0, none⟩) 2 2) [x, y] := ints_new [x, y] _ W
theorem tgtO_kind {o : OpT} (h : (tgtO o).2.2 = 0) : ((o.k = 3 ∨ o.k = 10 ∨ o.k = 11) ∧ (tgtO o).1 = -1) ∨ ((o.k = 1 ∨ o.k = 12) ∧ (tgtO o).1 = -1 ∧ (tgtO o).2.1 = -1) ∨ ((o.k = 2 ∨ o.k = 4 ∨ o.k = 5 ∨ o.k = 8 ∨ o.k = 6 ∨ o.k = 7 ∨ o.k = 9) ∧ (tgtO o).2.1 = -1) := by
  have hr := tgtO_range h
  unfold tgtO tgtE at h ⊢
  split at h
  · rename_i h2; exact absurd h h2
  rename_i h2
  rw [if_neg h2]
  split
  · exact .inr (.inr ⟨by omega, rfl⟩)
  split
  · exact .inr (.inr ⟨by omega, rfl⟩)
  split
  · exact .inl ⟨by omega, rfl⟩
  · exact .inr (.inl ⟨by omega, rfl, rfl⟩)
theorem refLocks_ok {v : Ven} {o : OpT} {sv : Value} {W : AW} (hs : Secs W sv v.secs) (hv : v.secs.length < 1000) (hr : ∀ s ∈ v.secs, s.rows.length < 1000) :
    ∃ u W2, omS (.func (.func 81) #[] #[]) [venV v sv, opV o] W = some (.tuple #[u, .int .i64 (locksE v o).2], W2) ∧ Le W W2 ∧ Ints W2 u (locksE v o).1 := by
  refine om_row2 ?_ ref22_Locks_om
  unfold ref22_Locks locksE
  obtain ⟨W1, hB, hle, hn, c4, c0, c3⟩ := venBox v sv W
  obtain ⟨W2, b2, n2, l2, k12, k0⟩ := opBox o W1
  have l02 := hle.trans l2
  have hsn := hle.next
  have hs2 := hs.mono l02
  simp only [SX, hB, b2, c4 _ l2, refVen_ok hs2 hv hr]
  by_cases he : (venE v).2 = 0
  case neg =>
    simp only [SX, he, if_false, Ok_some]
    exact ⟨_, rfl, l02, Row.nil⟩
  simp only [SX, decide_eq_true he, if_pos he, k12 _ (.refl _), refTgt_ok o]
  by_cases ht : (tgtO o).2.2 = 0
  case neg =>
    simp only [SX, ht, if_false, Ok_some]
    exact ⟨_, rfl, l02, Row.nil⟩
  have hk := tgtO_kind ht
  simp only [SX, decide_eq_true ht, if_pos ht, Nat.zero_add, k0 _ (.refl _)]
  clear ht k12 b2
  generalize (tgtO o).1 = s, (tgtO o).2.1 = c, o.k = kk at *
  have k0' : ∀ W', Le W2 W' → ldC (.pointer (some ⟨W1.next, 0, none⟩)) W' = some (.int .i64 kk, W') := k0
  clear k0
  rcases hk with ⟨hkk, rfl⟩ | ⟨hkk, rfl, rfl⟩ | ⟨hkk, rfl⟩
  · -- what speaks of a section
    have ge1 : ¬ ((0 : Int) ≤ -1) := by decide
    rcases hkk with rfl | hkk
    · rw [kindL_3]
      obtain ⟨u, W4, q1, q2, q3⟩ := refCover_ok (sec := c) hs2 hv hr
      by_cases hc0 : 0 ≤ c
      · simp only [SX, Int.reduceEq, k0' _ (.refl _), decide_eq_true hc0, c4 _ l2, refLock_ok hs2 hv hr, ← cover_lock]
        by_cases hc : (coverE v c).2 = 0
        · simp only [SX, q1, hc, Ok_some]
          exact ⟨_, rfl, l02.trans q2, q3⟩
        · rw [cover_none hc]
          simp only [SX, hc, Ok_some]
          exact ⟨_, rfl, l02, Row.nil⟩
      · simp only [SX, Int.reduceEq, k0' _ (.refl _), decide_eq_false hc0, c4 _ l2, refLock_ok hs2 hv hr, ← cover_lock]
        by_cases hc : (coverE v c).2 = 0
        · simp only [SX, q1, hc, Ok_some]
          exact ⟨_, rfl, l02.trans q2, q3⟩
        · rw [cover_none hc]
          simp only [SX, hc, Ok_some]
          exact ⟨_, rfl, l02, Row.nil⟩
    · rcases hkk with rfl | rfl <;> (
        first | rw [kindL_10] | rw [kindL_11]
        by_cases hc0 : 0 ≤ c
        · simp only [SX, Int.reduceEq, k0' _ (.refl _), decide_eq_true hc0, c4 _ l2, refLock_ok hs2 hv hr]
          by_cases hp : (lockE v c).2 = 0
          · simp only [SX, decide_eq_true hp, if_pos hp, bs38, Ok_some]
            exact ⟨_, rfl, l02.add _, lit38 _ _⟩
          · simp only [SX, hp, if_false, Ok_some]
            exact ⟨_, rfl, l02, Row.nil⟩
        · simp only [SX, Int.reduceEq, k0' _ (.refl _), decide_eq_false hc0, c4 _ l2, refLock_ok hs2 hv hr]
          by_cases hp : (lockE v c).2 = 0
          · simp only [SX, decide_eq_true hp, if_pos hp, bs38, Ok_some]
            exact ⟨_, rfl, l02.add _, lit38 _ _⟩
          · simp only [SX, hp, if_false, Ok_some]
            exact ⟨_, rfl, l02, Row.nil⟩)
  · rcases hkk with rfl | rfl
    · rw [kindL_1]
      simp only [SX, Int.reduceEq, Ok_some]
      exact ⟨_, rfl, l02, Row.nil⟩
    · rw [kindL_12]
      have hsh := venE_sh he
      have ea : ∀ W', oBin Tryz.prog .add 3 false false (.int .i64 v.sh) (.int .i64 (v.secs.length : Int)) W' = some (.int .i64 ((v.sh.toNat + v.secs.length : Nat) : Int), W') := fun W' => by
        rw [oBin_add (by omega) (by omega)]; congr 3; omega
      simp only [SX]
      refine Ok_loop (v.sh.toNat + v.secs.length) (by omega) (fun i R W' => Le W2 W' ∧ R 2 = .pointer (some ⟨W.next, 0, none⟩) ∧ R 11 = .int .i64 (i : Int) ∧ ∃ u, R 10 = u ∧ Lst W2.next W' 1 intC u (upTo i))
        (fun r => Le W2 r.2.2 ∧ r.1 = .exit 0 ∧ ∃ u, r.2.1 10 = u ∧ Lst W2.next r.2.2 1 intC u (upTo (v.sh.toNat + v.secs.length))) ⟨.refl _, rfl, rfl, _, rfl, .nil _ _ _ _⟩ ?_ ?_ ?_
      · rintro i R W' hi ⟨hl, f2, f11, u, f10, hL⟩
        unfold ref22_Locks_L1
        have e1 : ((i : Int) < ((v.sh.toNat + v.secs.length : Nat) : Int)) := by omega
        have eb : ∀ W', oBin Tryz.prog .add 3 false true (.int .i64 (i : Int)) (.int .i64 1) W' = some (.int .i64 ((i + 1 : Nat) : Int), W') := fun W' => oBin_add (by omega) (by omega)
        have hLm := hL.mono ((Le.refl W').add (.cells [.int .i64 (i : Int)]))
        obtain ⟨v', W3, q1, q2, q3, q4⟩ := Lst.push (P := Tryz.prog) (a := (i : Int)) (b := W'.next) (c := 1) ap38 intC_len intC_one hLm cellsAt_new (by rw [upTo_len]; omega) (by rw [upTo_len]; omega) (by rw [AW.add_next]; have := hl.next; omega)
        simp only [SX, f2, f11, f10, Nat.zero_add, c0 _ (l2.trans hl), c3 _ (l2.trans hl), (hs2.mono hl).len len34, ea, e1, bs38, q1, eb, Ok_some]
        exact .inl ⟨trivial, q4 _ (hl.add _) (Nat.le_refl _), f2, rfl, _, rfl, by rw [upTo_succ]; exact q2⟩
      · rintro R W' ⟨hl, f2, f11, u, f10, hL⟩
        unfold ref22_Locks_L1
        have e1 : ¬ (((v.sh.toNat + v.secs.length : Nat) : Int) < ((v.sh.toNat + v.secs.length : Nat) : Int)) := by omega
        simp only [SX, f2, f11, Nat.zero_add, c0 _ (l2.trans hl), c3 _ (l2.trans hl), (hs2.mono hl).len len34, ea, e1, Ok_some]
        exact ⟨by simp, hl, trivial, u, f10, hL⟩
      · rintro ⟨x, R, W'⟩ ⟨hl, hx, u, f10, hL⟩
        simp only at hl hx f10 hL
        subst hx
        simp only [SX, f10, Ok_some]
        exact ⟨_, rfl, l02.trans hl, hL.ints⟩
  · -- what speaks of a seat
    have ge1 : ¬ ((0 : Int) ≤ -1) := by decide
    obtain ⟨W3, b3, n3, l3, r3⟩ := new65 W2
    have l2X := l3.put (Nat.le_refl _) (.cells [.int .i64 ((placeE v s).1.1 : Int), .int .i64 ((placeE v s).1.2.1 : Int), .int .i64 ((placeE v s).1.2.2 : Int)])
    have rX := rwCells_put (W := W3) (b := W2.next) [.int .i64 ((placeE v s).1.1 : Int), .int .i64 ((placeE v s).1.2.1 : Int), .int .i64 ((placeE v s).1.2.2 : Int)]
    rcases hkk with rfl | rfl | rfl | rfl | rfl | rfl | rfl <;> (
      first | rw [kindL_2] | rw [kindL_4] | rw [kindL_5] | rw [kindL_8] | rw [kindL_6] | rw [kindL_7] | rw [kindL_9]
      simp only [SX, Int.reduceEq, Nat.zero_add, k0' _ (.refl _), ge1, c4 _ l2, refPlace_ok hs2 hv hr, b3, stV3i r3]
      generalize W3.put W2.next (.cells [.int .i64 ((placeE v s).1.1 : Int), .int .i64 ((placeE v s).1.2.1 : Int), .int .i64 ((placeE v s).1.2.2 : Int)]) = X at *
      by_cases hp : (placeE v s).2 = 0
      · simp only [SX, Int.reduceEq, decide_eq_true hp, if_pos hp, k0' _ l2X, c4 _ (l2.trans l2X), refShard_ok (hs2.mono l2X) hv hr, ldRw (o := 0) rX rfl, refLock_ok (hs2.mono l2X) hv hr, bs38, bs38_2, Ok_some]
        exact ⟨_, rfl, (l02.trans l2X).add _, by first | exact lit38 _ _ | exact lit38_2 _ _ _⟩
      · simp only [SX, hp, if_false, Ok_some]
        exact ⟨_, rfl, l02.trans l2X, Row.nil⟩)
theorem len38 : ((#[40] : Array TypeId)[0]?).bind Tryz.prog.underlying = some (.slice 3) := by kernel_rfl
theorem kindL_len (v : Ven) (he : (venE v).2 = 0) (k s c : Int) : (kindL v k s c).length ≤ 24 := by
  have hsh := venE_sh he
  have hg := (venE_good he).1.len
  unfold kindL
  split
  · rw [List.length_map, List.length_range]; omega
  split
  · unfold coverE
    split
    · rw [sortL_len, covL_len]; omega
    · simp
  split
  · split <;> simp
  split
  · split <;> simp
  split
  · split <;> simp
  · simp
theorem locksE_len (v : Ven) (o : OpT) : (locksE v o).1.length ≤ 24 := by
  unfold locksE
  split
  · rename_i he
    split
    · exact kindL_len v he _ _ _
    · simp
  · simp
abbrev Stp := Int × Int
abbrev stpV (p : Stp) : Value := .agg #[.int .i64 p.1, .int .i64 p.2]
def stpC (p : Stp) : List Value := [.int .i64 p.1, .int .i64 p.2]
def stpAt (cs : List Value) (p : Nat) (a : Stp) : Prop := cs[p]? = some (.int .i64 a.1) ∧ cs[p + 1]? = some (.int .i64 a.2)
theorem stpC_len (p : Stp) : (stpC p).length = 2 := rfl
theorem stpC_one (p : Stp) : (stpC p).all Eng.one = true := rfl
theorem stpC_at (a : Stp) (pre post : List Value) : stpAt (pre ++ (stpC a ++ post)) pre.length a := by
  refine ⟨?_, ?_⟩ <;> (rw [List.getElem?_append_right (by omega)]; simp [stpC])
abbrev Stps (W : AW) (v : Value) (l : List Stp) : Prop := Row W 2 stpAt v l
theorem ap77 : appOk Tryz.prog #[110, 110] 2 16 = true := by kernel_rfl
theorem len77 : ((#[110] : Array TypeId)[0]?).bind Tryz.prog.underlying = some (.slice 126) := by kernel_rfl
theorem bd46 (a b : Int) (W : AW) : oBuild Tryz.prog 126 [(0, .int .i64 a), (1, .int .i64 b)] W = some (stpV (a, b), W) := Eq.trans (by kernel_rfl) rfl
theorem bd46k (a : Int) (W : AW) : oBuild Tryz.prog 126 [(0, .int .i64 a)] W = some (stpV (a, 0), W) := Eq.trans (by kernel_rfl) rfl
theorem bs77 (a b : Int) (W : AW) : oBuildSlice Tryz.prog 110 1 [(0, .agg #[.int .i64 a, .int .i64 b])] W = some (.slice (some ⟨W.next, 0, none⟩) 1 1, W.add (.cells [.int .i64 a, .int .i64 b])) := Eq.trans (by kernel_rfl) rfl
def takesL (l : List Int) (k : Nat) : List Stp := (l.take k).map fun x => (1, x)
def givesL (l : List Int) (k : Nat) : List Stp := (List.range k).map fun j => (3, l.getD (l.length - 1 - j) 0)
def allL (l : List Int) : List Stp := takesL l l.length ++ [(2, 0)] ++ givesL l l.length
theorem takesL_succ (l : List Int) {k : Nat} (hk : k < l.length) : takesL l (k + 1) = takesL l k ++ [(1, l[k])] := by
  unfold takesL
  rw [List.take_add_one, List.getElem?_eq_getElem hk, List.map_append]; rfl
theorem givesL_succ (l : List Int) (k : Nat) : givesL l (k + 1) = givesL l k ++ [(3, l.getD (l.length - 1 - k) 0)] := by
  unfold givesL
  rw [List.range_succ, List.map_append]; rfl
theorem takesL_len (l : List Int) (k : Nat) (h : k ≤ l.length) : (takesL l k).length = k := by unfold takesL; rw [List.length_map, List.length_take]; omega
theorem givesL_len (l : List Int) (k : Nat) : (givesL l k).length = k := by simp [givesL]
theorem allL_len (l : List Int) : (allL l).length = 2 * l.length + 1 := by
  unfold allL
  rw [List.length_append, List.length_append, takesL_len l _ (Nat.le_refl _), givesL_len]; simp; omega
def stepsE (v : Ven) (o : OpT) : Int × Int := if (locksE v o).2 = 0 then (2 * ((locksE v o).1.length : Int) + 1, 0) else (0, (locksE v o).2)
def allE (v : Ven) (o : OpT) : List Stp := if (locksE v o).2 = 0 then allL (locksE v o).1 else []
theorem planSteps_ok {v : Ven} {o : OpT} {sv : Value} {W : AW} (hs : SecsC W sv v.secs) (hv : v.secs.length < 1000) (hG : GW W) : omS (.func (.func 53) #[] #[]) [venV v sv, opV o] W = some (.tuple #[.int .i64 (stepsE v o).1, .int .i64 (stepsE v o).2], W) := by
  refine om_drop rfl ?_ plans_Steps_om
  unfold plans_Steps stepsE
  obtain ⟨W1, hB, hle, hn, c4, c0, c3⟩ := venBox v sv W
  obtain ⟨W2, b2, n2, l2, k12, k0⟩ := opBox o W1
  have l02 := hle.trans l2
  obtain ⟨u, W3, q1, q2, q3⟩ := planLocks_ok (o := o) (hs.mono l02) hv (hG.mono l02)
  have hlen := locksE_len v o
  simp only [SX, hB, b2, c4 _ l2, k12 _ (.refl _), q1]
  by_cases he : (locksE v o).2 = 0
  case neg =>
    simp only [SX, he, if_false, Ok_some]
    exact ⟨trivial, l02.trans q2⟩
  have ea : ∀ W', oBin Tryz.prog .mul 3 true false (.int .i64 2) (.int .i64 ((locksE v o).1.length : Int)) W' = some (.int .i64 (2 * ((locksE v o).1.length : Int)), W') := fun W' => oBin_mul (by omega) (by omega)
  have eb : ∀ W', oBin Tryz.prog .add 3 false true (.int .i64 (2 * ((locksE v o).1.length : Int))) (.int .i64 1) W' = some (.int .i64 (2 * ((locksE v o).1.length : Int) + 1), W') := fun W' => oBin_add (by omega) (by omega)
  simp only [SX, decide_eq_true he, if_pos he, q3.len len38, ea, eb, Ok_some]
  exact ⟨trivial, l02.trans q2⟩
theorem refAll_ok {v : Ven} {o : OpT} {sv : Value} {W : AW} (hs : Secs W sv v.secs) (hv : v.secs.length < 1000) (hr : ∀ s ∈ v.secs, s.rows.length < 1000) :
    ∃ u W2, omS (.func (.func 54) #[] #[]) [venV v sv, opV o] W = some (.tuple #[u, .int .i64 (locksE v o).2], W2) ∧ Le W W2 ∧ Stps W2 u (allE v o) := by
  refine om_row2 ?_ ref22_All_om
  unfold ref22_All allE
  obtain ⟨W1, hB, hle, hn, c4, c0, c3⟩ := venBox v sv W
  obtain ⟨W2, b2, n2, l2, k12, k0⟩ := opBox o W1
  have l02 := hle.trans l2
  obtain ⟨u, W3, q1, q2, q3⟩ := refLocks_ok (o := o) (hs.mono l02) hv hr
  have hlen := locksE_len v o
  simp only [SX, hB, b2, c4 _ l2, k12 _ (.refl _), q1]
  by_cases he : (locksE v o).2 = 0
  case neg =>
    simp only [SX, he, if_false, Ok_some]
    exact ⟨_, rfl, l02.trans q2, Row.nil⟩
  simp only [SX, he, if_true]
  generalize (locksE v o).1 = l at *
  have add1 : ∀ (k : Nat) (W' : AW), k < 1000000 → oBin Tryz.prog .add 3 false true (.int .i64 (k : Int)) (.int .i64 1) W' = some (.int .i64 ((k + 1 : Nat) : Int), W') := fun k W' hk => oBin_add (by omega) (by omega)
  have sub1 : ∀ (k : Int) (W' : AW), 0 ≤ k → k < 1000000 → oBin Tryz.prog .sub 3 false true (.int .i64 k) (.int .i64 1) W' = some (.int .i64 (k - 1), W') := fun k W' h0 hk => oBin_sub (by omega) (by omega)
  refine Ok_loop l.length (by omega) (fun i R W' => Le W3 W' ∧ R 6 = u ∧ R 9 = .int .i64 (i : Int) ∧ ∃ x, R 8 = x ∧ Lst W3.next W' 2 stpC x (takesL l i))
    (fun r => Le W3 r.2.2 ∧ r.1 = .exit 0 ∧ r.2.1 6 = u ∧ ∃ x, r.2.1 8 = x ∧ Lst W3.next r.2.2 2 stpC x (takesL l l.length)) ⟨.refl _, rfl, rfl, _, rfl, .nil _ _ _ _⟩ ?_ ?_ ?_
  · rintro i R W' hi ⟨hl, f6, f9, x, f8, hL⟩
    unfold ref22_All_L1
    have e1 : ((i : Int) < (l.length : Int)) := by omega
    obtain ⟨p, p1, p2⟩ := q3.get hi
    have hLm := hL.mono ((Le.refl W').add (.cells [.int .i64 1, .int .i64 l[i]]))
    obtain ⟨v', W4, s1, s2, s3, s4⟩ := Lst.push (P := Tryz.prog) (a := ((1, l[i]) : Stp)) (b := W'.next) (c := 1) ap77 stpC_len stpC_one hLm cellsAt_new (by rw [takesL_len l _ (by omega)]; omega) (by rw [takesL_len l _ (by omega)]; omega) (by rw [AW.add_next]; have := hl.next; omega)
    simp only [SX, f6, f8, f9, q3.len len38, e1, p1, p2 _ hl, bd46, bs77, s1, add1 i _ (by omega), Ok_some]
    exact .inl ⟨trivial, s4 _ (hl.add _) (Nat.le_refl _), f6, rfl, _, rfl, by rw [takesL_succ l hi]; exact s2⟩
  · rintro R W' ⟨hl, f6, f9, x, f8, hL⟩
    unfold ref22_All_L1
    have e1 : ¬ ((l.length : Int) < (l.length : Int)) := by omega
    simp only [SX, f6, f9, q3.len len38, e1, Ok_some]
    exact ⟨by simp, hl, trivial, f6, x, f8, hL⟩
  · rintro ⟨x, R, W'⟩ ⟨hl, hx, f6, y, f8, hL⟩
    simp only at hl hx f6 f8 hL
    subst hx
    have hLm := hL.mono ((Le.refl W').add (.cells [.int .i64 2, .int .i64 0]))
    obtain ⟨v', W4, s1, s2, s3, s4⟩ := Lst.push (P := Tryz.prog) (a := ((2, 0) : Stp)) (b := W'.next) (c := 1) ap77 stpC_len stpC_one hLm cellsAt_new (by rw [takesL_len l _ (by omega)]; omega) (by rw [takesL_len l _ (by omega)]; omega) (by rw [AW.add_next]; have := hl.next; omega)
    have hl4 := s4 _ (hl.add _) (Nat.le_refl _)
    have esub : ∀ W', oBin Tryz.prog .sub 3 false true (.int .i64 (l.length : Int)) (.int .i64 1) W' = some (.int .i64 ((l.length : Int) - 1), W') := fun W' => oBin_sub (by omega) (by omega)
    simp only [SX, f6, f8, bd46k, bs77, s1, q3.len len38, esub]
    refine Ok_loop l.length (by omega) (fun i R W' => Le W3 W' ∧ R 6 = u ∧ R 10 = .int .i64 ((l.length : Int) - 1 - i) ∧ ∃ x, R 8 = x ∧ Lst W3.next W' 2 stpC x (takesL l l.length ++ [(2, 0)] ++ givesL l i))
      (fun r => Le W3 r.2.2 ∧ r.1 = .exit 2 ∧ ∃ x, r.2.1 8 = x ∧ Lst W3.next r.2.2 2 stpC x (allL l)) ⟨hl4, f6, by show Value.int .i64 _ = _; congr 1; omega, _, rfl, by rw [show givesL l 0 = [] from rfl, List.append_nil]; exact s2⟩ ?_ ?_ ?_
    · rintro i R W' hi ⟨hl, f6, f10, x, f8, hL⟩
      unfold ref22_All_L2
      have e1 : ((0 : Int) ≤ (l.length : Int) - 1 - i) := by omega
      have hi2 : l.length - 1 - i < l.length := by omega
      obtain ⟨p, p1, p2⟩ := q3.get hi2
      have p1' := fun W' => p1 W' .i64
      rw [show ((l.length - 1 - i : Nat) : Int) = (l.length : Int) - 1 - i by omega] at p1'
      have hLm := hL.mono ((Le.refl W').add (.cells [.int .i64 3, .int .i64 l[l.length - 1 - i]]))
      have hll : (takesL l l.length ++ [(2, 0)] ++ givesL l i).length ≤ 60 := by
        rw [List.length_append, List.length_append, takesL_len l _ (Nat.le_refl _), givesL_len]; simp; omega
      obtain ⟨v', W4, s1, s2, s3, s4⟩ := Lst.push (P := Tryz.prog) (a := ((3, l[l.length - 1 - i]) : Stp)) (b := W'.next) (c := 1) ap77 stpC_len stpC_one hLm cellsAt_new (by omega) (by omega) (by rw [AW.add_next]; have := hl.next; omega)
      simp only [SX, f6, f8, f10, e1, p1', p2 _ hl, bd46, bs77, s1, sub1 ((l.length : Int) - 1 - i) _ (by omega) (by omega), Ok_some]
      refine .inl ⟨trivial, s4 _ (hl.add _) (Nat.le_refl _), f6, by show Value.int .i64 _ = _; congr 1; omega, _, rfl, ?_⟩
      rw [givesL_succ, ← List.append_assoc, List.getD_eq_getElem?_getD, List.getElem?_eq_getElem hi2]
      exact s2
    · rintro R W' ⟨hl, f6, f10, x, f8, hL⟩
      unfold ref22_All_L2
      have e1 : ¬ ((0 : Int) ≤ (l.length : Int) - 1 - l.length) := by omega
      simp only [SX, f10, e1, Ok_some]
      exact ⟨by simp, hl, trivial, x, f8, hL⟩
    · rintro ⟨x, R, W'⟩ ⟨hl, hx, y, f8, hL⟩
      simp only at hl hx f8 hL
      subst hx
      simp only [SX, f8, Ok_some]
      exact ⟨_, rfl, (l02.trans q2).trans hl, hL.row stpC_len stpC_at⟩

noncomputable def law33_BoundsTurns (call : Eng.Callee) (x0 x1 x2 : Value) (W : AW) : Option (Value × AW) := bnd (oBox x0 W) fun r1=>bnd (oBox x1 r1.2) fun r2=>bnd (ldA 8 r1.1 r2.2) fun r3=>bnd (call (fnV 5) [r3.1, (.int .i64 20)] r3.2) fun r4=>bnd (bIf (wnt r4.1 false) (ldA 4 r2.1 r4.2) (some (undef, r4.2))) fun r5=>bnd (bIf (wnt r4.1 false) (oBuild Tryz.prog 28 [(0, r5.1)] r5.2) (some (undef, r5.2))) fun r6=>bnd (bIf (wnt r4.1 false) (oBuild Tryz.prog 31 [(0, r6.1)] r6.2) (some (undef, r6.2))) fun r7=>bnd (bIf (wnt r4.1 false) (call (fnV 5) [r7.1, (.int .i64 0)] r7.2) (some (undef, r7.2))) fun r8=>bnd (oPick r4.1 (.bool true) r8.1 r8.2) fun r9=>vIf r9.1 (bnd (call (fnV 6) [] r9.2) fun r10=>oRes Tryz.prog [(r10.1, none)] r10.2) (bnd (ldA 8 r1.1 r9.2) fun r11=>bnd (call (fnV 7) [r11.1] r11.2) fun r12=>bnd (oExtract r12.1 0 r12.2) fun r13=>bnd (oExtract r12.1 1 r13.2) fun r14=>bnd (ldA 8 r1.1 r14.2) fun r15=>bnd (call (fnV 8) [r15.1] r15.2) fun r16=>bnd (oExtract r16.1 0 r16.2) fun r17=>bnd (oExtract r16.1 1 r17.2) fun r18=>bnd (ldA 8 r1.1 r18.2) fun r19=>bnd (call (fnV 9) [r19.1] r19.2) fun r20=>bnd (oExtract r20.1 0 r20.2) fun r21=>bnd (oExtract r20.1 1 r21.2) fun r22=>bnd (ldA 8 r1.1 r22.2) fun r23=>bnd (call (fnV 10) [r23.1] r23.2) fun r24=>bnd (oExtract r24.1 0 r24.2) fun r25=>bnd (oExtract r24.1 1 r25.2) fun r26=>bnd (ldA 4 r2.1 r26.2) fun r27=>bnd (call (fnV 11) [r27.1, x2] r27.2) fun r28=>bnd (oExtract r28.1 0 r28.2) fun r29=>bnd (oExtract r28.1 1 r29.2) fun r30=>bnd (ldA 4 r2.1 r30.2) fun r31=>bnd (call (fnV 12) [r31.1, x2] r31.2) fun r32=>bnd (oExtract r32.1 0 r32.2) fun r33=>bnd (oExtract r32.1 1 r33.2) fun r34=>bnd (oBin Tryz.prog .eql 3 false false r13.1 r17.1 r34.2) fun r35=>bnd (bIf (wnt r35.1 true) (oMv r14.1 r35.2) (some (undef, r35.2))) fun r36=>bnd (bIf (wnt r35.1 true) (oMv r18.1 r36.2) (some (undef, r36.2))) fun r37=>bnd (bIf (wnt r35.1 true) (oBin Tryz.prog .eql 34 false false r36.1 r37.1 r37.2) (some (undef, r37.2))) fun r38=>bnd (oPick r35.1 r38.1 (.bool false) r38.2) fun r39=>bnd (bIf (wnt r39.1 true) (oMv r21.1 r39.2) (some (undef, r39.2))) fun r40=>bnd (bIf (wnt r39.1 true) (oMv r25.1 r40.2) (some (undef, r40.2))) fun r41=>bnd (bIf (wnt r39.1 true) (oBin Tryz.prog .eql 3 false false r40.1 r41.1 r41.2) (some (undef, r41.2))) fun r42=>bnd (oPick r39.1 r42.1 (.bool false) r42.2) fun r43=>bnd (bIf (wnt r43.1 true) (oMv r22.1 r43.2) (some (undef, r43.2))) fun r44=>bnd (bIf (wnt r43.1 true) (oMv r26.1 r44.2) (some (undef, r44.2))) fun r45=>bnd (bIf (wnt r43.1 true) (oBin Tryz.prog .eql 34 false false r44.1 r45.1 r45.2) (some (undef, r45.2))) fun r46=>bnd (oPick r43.1 r46.1 (.bool false) r46.2) fun r47=>bnd (bIf (wnt r47.1 true) (oMv r29.1 r47.2) (some (undef, r47.2))) fun r48=>bnd (bIf (wnt r47.1 true) (oMv r33.1 r48.2) (some (undef, r48.2))) fun r49=>bnd (bIf (wnt r47.1 true) (oBin Tryz.prog .eql 3 false false r48.1 r49.1 r49.2) (some (undef, r49.2))) fun r50=>bnd (oPick r47.1 r50.1 (.bool false) r50.2) fun r51=>bnd (bIf (wnt r51.1 true) (oMv r30.1 r51.2) (some (undef, r51.2))) fun r52=>bnd (bIf (wnt r51.1 true) (oMv r34.1 r52.2) (some (undef, r52.2))) fun r53=>bnd (bIf (wnt r51.1 true) (oBin Tryz.prog .eql 34 false false r52.1 r53.1 r53.2) (some (undef, r53.2))) fun r54=>bnd (oPick r51.1 r54.1 (.bool false) r54.2) fun r55=>bnd (bIf (wnt r55.1 true) (call (fnV 6) [] r55.2) (some (undef, r55.2))) fun r56=>bnd (oPick r55.1 r56.1 (.bool false) r56.2) fun r57=>oRes Tryz.prog [(r57.1, none)] r57.2)
theorem law33_BoundsTurns_om {x0 x1 x2 : Value} {W : AW} {r : Value × AW} (h : law33_BoundsTurns omS x0 x1 x2 W = some r) : omS (.func (.func 3) #[] #[]) [x0, x1, x2] W = some (gc W r) := om_of (nt := 91) (n := 3) (by kernel_rfl) (by kernel_rfl) rfl (Eq.trans (by kernel_rfl) h)
noncomputable def law33_far_L1_L2 (call : Eng.Callee) (R : Nat → Value) (W : AW) : Option LT := bnd (faO 3 (R 5) W) fun r30=>bnd (ldC r30.1 r30.2) fun r31=>bnd (ixS 3 r31.1 (R 8) r31.2) fun r32=>bnd (faO 1 r32.1 r32.2) fun r33=>bnd (ldC r33.1 r33.2) fun r34=>bnd (oBuiltin Tryz.prog .len #[40] 3 #[false] [r34.1] r34.2) fun r35=>bnd (oBin Tryz.prog .lss 3 false false (R 9) r35.1 r35.2) fun r36=>vIf r36.1 (bnd (faO 3 (R 5) r36.2) fun r37=>bnd (ldC r37.1 r37.2) fun r38=>bnd (ixS 3 r38.1 (R 8) r38.2) fun r39=>bnd (faO 1 r39.1 r39.2) fun r40=>bnd (ldC r40.1 r40.2) fun r41=>bnd (ixS 1 r41.1 (R 9) r41.2) fun r42=>bnd (ldC r42.1 r42.2) fun r43=>bnd (oBuiltin Tryz.prog .max #[3, 3] 3 #[false, true] [r43.1, (.int .i64 0)] r43.2) fun r44=>bnd (oBuiltin Tryz.prog .min #[3, 3] 3 #[false, true] [r44.1, (.int .i64 100)] r44.2) fun r45=>bnd (oBin Tryz.prog .add 3 false false (R 6) r45.1 r45.2) fun r46=>bnd (oBin Tryz.prog .add 3 false true (R 9) (.int .i64 1) r46.2) fun r47=>some (X.normal, (puts R [(44,(R 9)),(45,r30.1),(46,r31.1),(47,(R 8)),(48,r32.1),(49,r33.1),(50,r34.1),(51,r35.1),(52,r36.1),(55,(R 6)),(56,r37.1),(57,r38.1),(58,(R 8)),(59,r39.1),(60,r40.1),(61,r41.1),(62,(R 9)),(63,r42.1),(64,r43.1),(65,r44.1),(66,r45.1),(67,r46.1),(6,r46.1),(53,(R 9)),(54,r47.1),(9,r47.1)]), r47.2)) (some (X.exit 2, (puts R [(44,(R 9)),(45,r30.1),(46,r31.1),(47,(R 8)),(48,r32.1),(49,r33.1),(50,r34.1),(51,r35.1),(52,r36.1)]), r36.2))
noncomputable def law33_far_L1 (call : Eng.Callee) (R : Nat → Value) (W : AW) : Option LT := bnd (faO 3 (R 5) W) fun r7=>bnd (ldC r7.1 r7.2) fun r8=>bnd (oBuiltin Tryz.prog .len #[22] 3 #[false] [r8.1] r8.2) fun r9=>bnd (oBin Tryz.prog .lss 3 false false (R 8) r9.1 r9.2) fun r10=>bnd (bIf (wnt r10.1 true) (oMv (R 8) r10.2) (some (undef, r10.2))) fun r11=>bnd (bIf (wnt r10.1 true) (oBin Tryz.prog .lss 3 false true r11.1 (.int .i64 11) r11.2) (some (undef, r11.2))) fun r12=>bnd (oPick r10.1 r12.1 (.bool false) r12.2) fun r13=>vIf r13.1 (bnd (faO 3 (R 5) r13.2) fun r14=>bnd (ldC r14.1 r14.2) fun r15=>bnd (ixS 3 r15.1 (R 8) r15.2) fun r16=>bnd (faO 0 r16.1 r16.2) fun r17=>bnd (ldC r17.1 r17.2) fun r18=>bnd (oBuiltin Tryz.prog .len #[9] 3 #[false] [r18.1] r18.2) fun r19=>bnd (oBin Tryz.prog .gtr 3 false true r19.1 (.int .i64 100) r19.2) fun r20=>bnd (bIf (wnt r20.1 false) (faO 3 (R 5) r20.2) (some (undef, r20.2))) fun r21=>bnd (bIf (wnt r20.1 false) (ldC r21.1 r21.2) (some (undef, r21.2))) fun r22=>bnd (bIf (wnt r20.1 false) (oMv (R 8) r22.2) (some (undef, r22.2))) fun r23=>bnd (bIf (wnt r20.1 false) (ixS 3 r22.1 r23.1 r23.2) (some (undef, r23.2))) fun r24=>bnd (bIf (wnt r20.1 false) (faO 1 r24.1 r24.2) (some (undef, r24.2))) fun r25=>bnd (bIf (wnt r20.1 false) (ldC r25.1 r25.2) (some (undef, r25.2))) fun r26=>bnd (bIf (wnt r20.1 false) (oBuiltin Tryz.prog .len #[40] 3 #[false] [r26.1] r26.2) (some (undef, r26.2))) fun r27=>bnd (bIf (wnt r20.1 false) (oBin Tryz.prog .gtr 3 false true r27.1 (.int .i64 20) r27.2) (some (undef, r27.2))) fun r28=>bnd (oPick r20.1 (.bool true) r28.1 r28.2) fun r29=>vIf r29.1 (some (X.ret, (puts R [(15,(R 8)),(16,r7.1),(17,r8.1),(18,r9.1),(19,r10.1),(20,r10.1),(21,r11.1),(22,r12.1),(23,r13.1),(26,r14.1),(27,r15.1),(28,(R 8)),(29,r16.1),(30,r17.1),(31,r18.1),(32,r19.1),(33,r20.1),(34,r20.1),(35,r21.1),(36,r22.1),(37,r23.1),(38,r24.1),(39,r25.1),(40,r26.1),(41,r27.1),(42,r28.1),(43,r29.1),(4,(.bool true))]), r29.2)) (bnd (loopO (law33_far_L1_L2 call) (puts R [(15,(R 8)),(16,r7.1),(17,r8.1),(18,r9.1),(19,r10.1),(20,r10.1),(21,r11.1),(22,r12.1),(23,r13.1),(26,r14.1),(27,r15.1),(28,(R 8)),(29,r16.1),(30,r17.1),(31,r18.1),(32,r19.1),(33,r20.1),(34,r20.1),(35,r21.1),(36,r22.1),(37,r23.1),(38,r24.1),(39,r25.1),(40,r26.1),(41,r27.1),(42,r28.1),(43,r29.1),(9,(.int .i64 0))]) r29.2) fun r48=>kExit 2 r48.1 (bnd (oBin Tryz.prog .add 3 false true (r48.2.1 8) (.int .i64 1) r48.2.2) fun r49=>some (X.normal, (puts r48.2.1 [(24,(r48.2.1 8)),(25,r49.1),(8,r49.1)]), r49.2)) (none))) (some (X.exit 0, (puts R [(15,(R 8)),(16,r7.1),(17,r8.1),(18,r9.1),(19,r10.1),(20,r10.1),(21,r11.1),(22,r12.1),(23,r13.1)]), r13.2))
noncomputable def law33_far_L3 (call : Eng.Callee) (R : Nat → Value) (W : AW) : Option LT := bnd (faO 0 (R 2) W) fun r51=>bnd (faO 6 r51.1 r51.2) fun r52=>bnd (ldC r52.1 r52.2) fun r53=>bnd (oBuiltin Tryz.prog .len #[26] 3 #[false] [r53.1] r53.2) fun r54=>bnd (oBin Tryz.prog .lss 3 false false (R 10) r54.1 r54.2) fun r55=>bnd (bIf (wnt r55.1 true) (oMv (R 10) r55.2) (some (undef, r55.2))) fun r56=>bnd (bIf (wnt r55.1 true) (oBin Tryz.prog .lss 3 false true r56.1 (.int .i64 21) r56.2) (some (undef, r56.2))) fun r57=>bnd (oPick r55.1 r57.1 (.bool false) r57.2) fun r58=>vIf r58.1 (bnd (faO 0 (R 2) r58.2) fun r59=>bnd (faO 6 r59.1 r59.2) fun r60=>bnd (ldC r60.1 r60.2) fun r61=>bnd (ixS 1 r61.1 (R 10) r61.2) fun r62=>bnd (ldC r62.1 r62.2) fun r63=>bnd (oBuiltin Tryz.prog .len #[64] 3 #[false] [r63.1] r63.2) fun r64=>bnd (oBin Tryz.prog .gtr 3 false true r64.1 (.int .i64 20) r64.2) fun r65=>vIf r65.1 (some (X.ret, (puts R [(68,(R 10)),(69,r51.1),(70,r52.1),(71,r53.1),(72,r54.1),(73,r55.1),(74,r55.1),(75,r56.1),(76,r57.1),(77,r58.1),(80,r59.1),(81,r60.1),(82,r61.1),(83,(R 10)),(84,r62.1),(85,r63.1),(86,r64.1),(87,r65.1),(4,(.bool true))]), r65.2)) (bnd (oBin Tryz.prog .add 3 false true (R 10) (.int .i64 1) r65.2) fun r66=>some (X.normal, (puts R [(68,(R 10)),(69,r51.1),(70,r52.1),(71,r53.1),(72,r54.1),(73,r55.1),(74,r55.1),(75,r56.1),(76,r57.1),(77,r58.1),(80,r59.1),(81,r60.1),(82,r61.1),(83,(R 10)),(84,r62.1),(85,r63.1),(86,r64.1),(87,r65.1),(78,(R 10)),(79,r66.1),(10,r66.1)]), r66.2))) (some (X.exit 4, (puts R [(68,(R 10)),(69,r51.1),(70,r52.1),(71,r53.1),(72,r54.1),(73,r55.1),(74,r55.1),(75,r56.1),(76,r57.1),(77,r58.1)]), r58.2))
noncomputable def law33_far_L4 (call : Eng.Callee) (R : Nat → Value) (W : AW) : Option LT := bnd (faO 7 (R 2) W) fun r68=>bnd (ldC r68.1 r68.2) fun r69=>bnd (oBuiltin Tryz.prog .len #[29] 3 #[false] [r69.1] r69.2) fun r70=>bnd (oBin Tryz.prog .lss 3 false false (R 11) r70.1 r70.2) fun r71=>bnd (bIf (wnt r71.1 true) (oMv (R 11) r71.2) (some (undef, r71.2))) fun r72=>bnd (bIf (wnt r71.1 true) (oBin Tryz.prog .lss 3 false true r72.1 (.int .i64 11) r72.2) (some (undef, r72.2))) fun r73=>bnd (oPick r71.1 r73.1 (.bool false) r73.2) fun r74=>vIf r74.1 (bnd (faO 7 (R 2) r74.2) fun r75=>bnd (ldC r75.1 r75.2) fun r76=>bnd (ixS 1 r76.1 (R 11) r76.2) fun r77=>bnd (ldC r77.1 r77.2) fun r78=>bnd (oBuiltin Tryz.prog .len #[57] 3 #[false] [r78.1] r78.2) fun r79=>bnd (oBuiltin Tryz.prog .min #[3, 3] 3 #[false, true] [r79.1, (.int .i64 100)] r79.2) fun r80=>bnd (oBin Tryz.prog .add 3 false false (R 7) r80.1 r80.2) fun r81=>bnd (oBin Tryz.prog .add 3 false true (R 11) (.int .i64 1) r81.2) fun r82=>some (X.normal, (puts R [(88,(R 11)),(89,r68.1),(90,r69.1),(91,r70.1),(92,r71.1),(93,r71.1),(94,r72.1),(95,r73.1),(96,r74.1),(99,(R 7)),(100,r75.1),(101,r76.1),(102,(R 11)),(103,r77.1),(104,r78.1),(105,r79.1),(106,r80.1),(107,r81.1),(7,r81.1),(97,(R 11)),(98,r82.1),(11,r82.1)]), r82.2)) (some (X.exit 6, (puts R [(88,(R 11)),(89,r68.1),(90,r69.1),(91,r70.1),(92,r71.1),(93,r71.1),(94,r72.1),(95,r73.1),(96,r74.1)]), r74.2))
noncomputable def law33_far (call : Eng.Callee) (x0 x1 : Value) (W : AW) : Option (Value × AW) := bnd (oBox x0 W) fun r1=>bnd (faO 0 r1.1 r1.2) fun r2=>bnd (faO 0 r2.1 r2.2) fun r3=>bnd (ldA 4 r3.1 r3.2) fun r4=>bnd (oAlloc Tryz.prog 24 r4.2) fun r5=>bnd (stV 4 r5.1 r4.1 r5.2) fun r6=>bnd (loopO (law33_far_L1 call) (puts (argGo 0 [x0, x1] PlanTab.blank) [(2,r1.1),(4,(.bool false)),(12,r2.1),(13,r3.1),(14,r4.1),(5,r5.1),(6,(.int .i64 0)),(7,(.int .i64 0)),(8,(.int .i64 0))]) r6.2) fun r50=>kExit 0 r50.1 (bnd (loopO (law33_far_L3 call) (rput r50.2.1 (some 10) (.int .i64 0)) r50.2.2) fun r67=>kExit 4 r67.1 (bnd (loopO (law33_far_L4 call) (rput r67.2.1 (some 11) (.int .i64 0)) r67.2.2) fun r83=>kExit 6 r83.1 (bnd (faO 3 (r83.2.1 5) r83.2.2) fun r84=>bnd (ldC r84.1 r84.2) fun r85=>bnd (oBuiltin Tryz.prog .len #[22] 3 #[false] [r85.1] r85.2) fun r86=>bnd (oBin Tryz.prog .gtr 3 false true r86.1 (.int .i64 10) r86.2) fun r87=>bnd (bIf (wnt r87.1 false) (oMv (r83.2.1 6) r87.2) (some (undef, r87.2))) fun r88=>bnd (bIf (wnt r87.1 false) (oBin Tryz.prog .gtr 3 false true r88.1 (.int .i64 40) r88.2) (some (undef, r88.2))) fun r89=>bnd (oPick r87.1 (.bool true) r89.1 r89.2) fun r90=>bnd (bIf (wnt r90.1 false) (faO 0 (r83.2.1 2) r90.2) (some (undef, r90.2))) fun r91=>bnd (bIf (wnt r90.1 false) (faO 5 r91.1 r91.2) (some (undef, r91.2))) fun r92=>bnd (bIf (wnt r90.1 false) (ldC r92.1 r92.2) (some (undef, r92.2))) fun r93=>bnd (bIf (wnt r90.1 false) (oBuiltin Tryz.prog .len #[25] 3 #[false] [r93.1] r93.2) (some (undef, r93.2))) fun r94=>bnd (bIf (wnt r90.1 false) (oBin Tryz.prog .gtr 3 false true r94.1 (.int .i64 60) r94.2) (some (undef, r94.2))) fun r95=>bnd (oPick r90.1 (.bool true) r95.1 r95.2) fun r96=>bnd (bIf (wnt r96.1 false) (faO 0 (r83.2.1 2) r96.2) (some (undef, r96.2))) fun r97=>bnd (bIf (wnt r96.1 false) (faO 6 r97.1 r97.2) (some (undef, r97.2))) fun r98=>bnd (bIf (wnt r96.1 false) (ldC r98.1 r98.2) (some (undef, r98.2))) fun r99=>bnd (bIf (wnt r96.1 false) (oBuiltin Tryz.prog .len #[26] 3 #[false] [r99.1] r99.2) (some (undef, r99.2))) fun r100=>bnd (bIf (wnt r96.1 false) (oBin Tryz.prog .gtr 3 false true r100.1 (.int .i64 20) r100.2) (some (undef, r100.2))) fun r101=>bnd (oPick r96.1 (.bool true) r101.1 r101.2) fun r102=>bnd (bIf (wnt r102.1 false) (faO 7 (r83.2.1 2) r102.2) (some (undef, r102.2))) fun r103=>bnd (bIf (wnt r102.1 false) (ldC r103.1 r103.2) (some (undef, r103.2))) fun r104=>bnd (bIf (wnt r102.1 false) (oBuiltin Tryz.prog .len #[29] 3 #[false] [r104.1] r104.2) (some (undef, r104.2))) fun r105=>bnd (bIf (wnt r102.1 false) (oBin Tryz.prog .gtr 3 false true r105.1 (.int .i64 10) r105.2) (some (undef, r105.2))) fun r106=>bnd (oPick r102.1 (.bool true) r106.1 r106.2) fun r107=>bnd (bIf (wnt r107.1 false) (oMv (r83.2.1 7) r107.2) (some (undef, r107.2))) fun r108=>bnd (bIf (wnt r107.1 false) (oMv (r83.2.1 1) r108.2) (some (undef, r108.2))) fun r109=>bnd (bIf (wnt r107.1 false) (oBin Tryz.prog .gtr 3 false false r108.1 r109.1 r109.2) (some (undef, r109.2))) fun r110=>bnd (bIf (wnt r107.1 false) (oMv r110.1 r110.2) (some (undef, r110.2))) fun r111=>bnd (bIf (wnt r111.1 true) (oMv (r83.2.1 7) r111.2) (some (undef, r111.2))) fun r112=>bnd (bIf (wnt r111.1 true) (oBin Tryz.prog .leq 3 false true r112.1 (.int .i64 60) r112.2) (some (undef, r112.2))) fun r113=>bnd (bIf (wnt r107.1 false) (oPick r111.1 r113.1 (.bool false) r113.2) (some (undef, r113.2))) fun r114=>bnd (oPick r107.1 (.bool true) r114.1 r114.2) fun r115=>bnd (bIf (wnt r115.1 false) (oMv (r83.2.1 7) r115.2) (some (undef, r115.2))) fun r116=>bnd (bIf (wnt r115.1 false) (oBin Tryz.prog .gtr 3 false true r116.1 (.int .i64 70) r116.2) (some (undef, r116.2))) fun r117=>bnd (oPick r115.1 (.bool true) r117.1 r117.2) fun r118=>oRes Tryz.prog [(r118.1, none)] r118.2) (none)) (kRetX r67.1 (oRes Tryz.prog [((r67.2.1 4), none)] r67.2.2))) (kRetX r50.1 (oRes Tryz.prog [((r50.2.1 4), none)] r50.2.2))
theorem law33_far_om {x0 x1 : Value} {W : AW} {r : Value × AW} (h : law33_far omS x0 x1 W = some r) : omS (.func (.func 5) #[] #[]) [x0, x1] W = some (gc W r) := om_of (nt := 149) (n := 2) (by kernel_rfl) (by kernel_rfl) rfl (Eq.trans (by kernel_rfl) h)
noncomputable def bounds_Check_L1_L2 (call : Eng.Callee) (R : Nat → Value) (W : AW) : Option LT := bnd (oBin Tryz.prog .lss 3 false false (R 40) (R 39) W) fun r24=>vIf r24.1 (bnd (ixS 12 (R 38) (R 40) r24.2) fun r25=>bnd (ldA 12 r25.1 r25.2) fun r26=>bnd (oAlloc Tryz.prog 56 r26.2) fun r27=>bnd (stV 12 r27.1 r26.1 r27.2) fun r28=>bnd (ldA 12 r27.1 r28.2) fun r29=>bnd (call (fnV 21) [r29.1] r29.2) fun r30=>bnd (oBin Tryz.prog .neq 34 false true r30.1 (.int .i64 0) r30.2) fun r31=>vIf r31.1 (bnd (oBin Tryz.prog .add 3 false true (R 4) (.int .i64 1) r31.2) fun r32=>some (X.ret, (puts R [(41,r24.1),(42,r25.1),(43,r26.1),(7,r27.1),(44,r29.1),(45,r30.1),(8,r30.1),(46,r30.1),(47,r31.1),(48,(R 4)),(49,r32.1),(50,r30.1),(2,r32.1),(3,r30.1)]), r32.2)) (bnd (oBin Tryz.prog .add 3 false true (R 40) (.int .i64 1) r31.2) fun r33=>some (X.normal, (puts R [(41,r24.1),(42,r25.1),(43,r26.1),(7,r27.1),(44,r29.1),(45,r30.1),(8,r30.1),(46,r30.1),(47,r31.1),(51,r33.1),(40,r33.1)]), r33.2))) (some (X.exit 3, (rput R (some 41) r24.1), r24.2))
noncomputable def bounds_Check_L1 (call : Eng.Callee) (R : Nat → Value) (W : AW) : Option LT := bnd (oBin Tryz.prog .lss 3 false false (R 33) (R 32) W) fun r20=>vIf r20.1 (bnd (ixS 1 (R 31) (R 33) r20.2) fun r21=>bnd (ldC r21.1 r21.2) fun r22=>bnd (oBuiltin Tryz.prog .len #[57] 3 #[false] [r22.1] r22.2) fun r23=>bnd (loopO (bounds_Check_L1_L2 call) (puts R [(34,r20.1),(35,(R 33)),(36,r21.1),(37,r22.1),(4,(R 33)),(5,r22.1),(38,r22.1),(39,r23.1),(40,(.int .i64 0))]) r23.2) fun r34=>kExit 3 r34.1 (bnd (oBin Tryz.prog .add 3 false true (r34.2.1 33) (.int .i64 1) r34.2.2) fun r35=>some (X.normal, (puts r34.2.1 [(52,r35.1),(33,r35.1)]), r35.2)) (kRetX r34.1 (some (X.ret, r34.2.1, r34.2.2)))) (some (X.exit 1, (rput R (some 34) r20.1), r20.2))
noncomputable def bounds_Check (call : Eng.Callee) (x0 : Value) (W : AW) : Option (Value × AW) := bnd (oBox x0 W) fun r1=>bnd (faO 0 r1.1 r1.2) fun r2=>bnd (ldA 7 r2.1 r2.2) fun r3=>bnd (call (fnV 19) [r3.1] r3.2) fun r4=>bnd (oBin Tryz.prog .neq 34 false true r4.1 (.int .i64 0) r4.2) fun r5=>vIf r5.1 (oRes Tryz.prog [((.int .i64 0), none), (r4.1, none)] r5.2) (bnd (faO 7 r1.1 r5.2) fun r6=>bnd (ldC r6.1 r6.2) fun r7=>bnd (oBuiltin Tryz.prog .len #[29] 3 #[false] [r7.1] r7.2) fun r8=>bnd (oBin Tryz.prog .lss 3 false true r8.1 (.int .i64 1) r8.2) fun r9=>bnd (bIf (wnt r9.1 false) (faO 7 r1.1 r9.2) (some (undef, r9.2))) fun r10=>bnd (bIf (wnt r9.1 false) (ldC r10.1 r10.2) (some (undef, r10.2))) fun r11=>bnd (bIf (wnt r9.1 false) (oBuiltin Tryz.prog .len #[29] 3 #[false] [r11.1] r11.2) (some (undef, r11.2))) fun r12=>bnd (bIf (wnt r9.1 false) (oBin Tryz.prog .gtr 3 false true r12.1 (.int .i64 8) r12.2) (some (undef, r12.2))) fun r13=>bnd (oPick r9.1 (.bool true) r13.1 r13.2) fun r14=>vIf r14.1 (oRes Tryz.prog [((.int .i64 0), none), ((.int .i64 7), none)] r14.2) (bnd (call (fnV 20) [r1.1] r14.2) fun r15=>bnd (oBin Tryz.prog .gtr 3 false true r15.1 (.int .i64 60) r15.2) fun r16=>vIf r16.1 (oRes Tryz.prog [((.int .i64 0), none), ((.int .i64 3), none)] r16.2) (bnd (faO 7 r1.1 r16.2) fun r17=>bnd (ldC r17.1 r17.2) fun r18=>bnd (oBuiltin Tryz.prog .len #[29] 3 #[false] [r18.1] r18.2) fun r19=>bnd (loopO (bounds_Check_L1 call) (puts (argGo 0 [x0] PlanTab.blank) [(1,r1.1),(2,(.int .i64 0)),(3,(.int .i64 0)),(9,r2.1),(10,r3.1),(11,r4.1),(3,r4.1),(13,r4.1),(14,r5.1),(12,r5.1),(17,r6.1),(18,r7.1),(19,r8.1),(20,r9.1),(21,r9.1),(22,r10.1),(23,r11.1),(24,r12.1),(25,r13.1),(26,r14.1),(16,r14.1),(28,r15.1),(29,r16.1),(27,r16.1),(30,r17.1),(31,r18.1),(32,r19.1),(33,(.int .i64 0))]) r19.2) fun r36=>kExit 1 r36.1 (oRes Tryz.prog [((.int .i64 0), none), ((.int .i64 0), none)] r36.2.2) (kRetX r36.1 (oRes Tryz.prog [((r36.2.1 2), none), ((r36.2.1 3), none)] r36.2.2)))))
theorem bounds_Check_om {x0 : Value} {W : AW} {r : Value × AW} (h : bounds_Check omS x0 W = some r) : omS (.func (.func 7) #[] #[]) [x0] W = some (gc W r) := om_of (nt := 53) (n := 1) (by kernel_rfl) (by kernel_rfl) rfl (Eq.trans (by kernel_rfl) h)
noncomputable def ref33_Check_L1_L2 (call : Eng.Callee) (R : Nat → Value) (W : AW) : Option LT := bnd (faO 7 (R 1) W) fun r10=>bnd (ldC r10.1 r10.2) fun r11=>bnd (ixS 1 r11.1 (R 5) r11.2) fun r12=>bnd (ldC r12.1 r12.2) fun r13=>bnd (oBuiltin Tryz.prog .len #[57] 3 #[false] [r13.1] r13.2) fun r14=>bnd (oBin Tryz.prog .lss 3 false false (R 6) r14.1 r14.2) fun r15=>vIf r15.1 (bnd (faO 7 (R 1) r15.2) fun r16=>bnd (ldC r16.1 r16.2) fun r17=>bnd (ixS 1 r17.1 (R 5) r17.2) fun r18=>bnd (ldC r18.1 r18.2) fun r19=>bnd (ixS 12 r19.1 (R 6) r19.2) fun r20=>bnd (ldA 12 r20.1 r20.2) fun r21=>bnd (call (fnV 24) [r21.1] r21.2) fun r22=>bnd (oBin Tryz.prog .neq 34 false true r22.1 (.int .i64 0) r22.2) fun r23=>vIf r23.1 (bnd (oBin Tryz.prog .add 3 false true (R 5) (.int .i64 1) r23.2) fun r24=>some (X.ret, (puts R [(41,(R 6)),(42,r10.1),(43,r11.1),(44,(R 5)),(45,r12.1),(46,r13.1),(47,r14.1),(48,r15.1),(51,r16.1),(52,r17.1),(53,(R 5)),(54,r18.1),(55,r19.1),(56,(R 6)),(57,r20.1),(58,r21.1),(59,r22.1),(4,r22.1),(60,r22.1),(61,r23.1),(62,(R 5)),(63,r24.1),(64,r22.1),(2,r24.1),(3,r22.1)]), r24.2)) (bnd (oBin Tryz.prog .add 3 false true (R 6) (.int .i64 1) r23.2) fun r25=>some (X.normal, (puts R [(41,(R 6)),(42,r10.1),(43,r11.1),(44,(R 5)),(45,r12.1),(46,r13.1),(47,r14.1),(48,r15.1),(51,r16.1),(52,r17.1),(53,(R 5)),(54,r18.1),(55,r19.1),(56,(R 6)),(57,r20.1),(58,r21.1),(59,r22.1),(4,r22.1),(60,r22.1),(61,r23.1),(49,(R 6)),(50,r25.1),(6,r25.1)]), r25.2))) (some (X.exit 2, (puts R [(41,(R 6)),(42,r10.1),(43,r11.1),(44,(R 5)),(45,r12.1),(46,r13.1),(47,r14.1),(48,r15.1)]), r15.2))
noncomputable def ref33_Check_L1 (call : Eng.Callee) (R : Nat → Value) (W : AW) : Option LT := bnd (faO 7 (R 1) W) fun r6=>bnd (ldC r6.1 r6.2) fun r7=>bnd (oBuiltin Tryz.prog .len #[29] 3 #[false] [r7.1] r7.2) fun r8=>bnd (oBin Tryz.prog .lss 3 false false (R 5) r8.1 r8.2) fun r9=>vIf r9.1 (bnd (loopO (ref33_Check_L1_L2 call) (puts R [(34,(R 5)),(35,r6.1),(36,r7.1),(37,r8.1),(38,r9.1),(6,(.int .i64 0))]) r9.2) fun r26=>kExit 2 r26.1 (bnd (oBin Tryz.prog .add 3 false true (r26.2.1 5) (.int .i64 1) r26.2.2) fun r27=>some (X.normal, (puts r26.2.1 [(39,(r26.2.1 5)),(40,r27.1),(5,r27.1)]), r27.2)) (kRetX r26.1 (some (X.ret, r26.2.1, r26.2.2)))) (some (X.exit 0, (puts R [(34,(R 5)),(35,r6.1),(36,r7.1),(37,r8.1),(38,r9.1)]), r9.2))
noncomputable def ref33_Check_J1 (call : Eng.Callee) (JR : Nat → Value) (J4 : Value) (W : AW) : Option (Value × AW) := bnd (oBin Tryz.prog .neq 34 false true J4 (.int .i64 0) W) fun r5=>vIf r5.1 (oRes Tryz.prog [((.int .i64 0), none), (J4, none)] r5.2) (bnd (loopO (ref33_Check_L1 call) (puts JR [(31,J4),(32,r5.1),(5,(.int .i64 0))]) r5.2) fun r28=>kExit 0 r28.1 (oRes Tryz.prog [((.int .i64 0), none), ((.int .i64 0), none)] r28.2.2) (kRetX r28.1 (oRes Tryz.prog [((r28.2.1 2), none), ((r28.2.1 3), none)] r28.2.2)))
noncomputable def ref33_Check_J2 (call : Eng.Callee) (JR : Nat → Value) (J1 J4 : Value) (W : AW) : Option (Value × AW) := bnd (oBin Tryz.prog .eql 34 false true J4 (.int .i64 0) W) fun r29=>bnd (bIf (wnt r29.1 true) (ldA 8 J1 r29.2) (some (undef, r29.2))) fun r30=>bnd (bIf (wnt r29.1 true) (call (fnV 23) [r30.1] r30.2) (some (undef, r30.2))) fun r31=>bnd (bIf (wnt r29.1 true) (oBin Tryz.prog .gtr 3 false true r31.1 (.int .i64 60) r31.2) (some (undef, r31.2))) fun r32=>bnd (oPick r29.1 r32.1 (.bool false) r32.2) fun r33=>vIf r33.1 (ref33_Check_J1 call (puts JR [(24,J4),(25,r29.1),(26,r29.1),(27,r30.1),(28,r31.1),(29,r32.1),(30,r33.1),(4,(.int .i64 3))]) (.int .i64 3) r33.2) (ref33_Check_J1 call (puts JR [(24,J4),(25,r29.1),(26,r29.1),(27,r30.1),(28,r31.1),(29,r32.1),(30,r33.1)]) J4 r33.2)
noncomputable def ref33_Check (call : Eng.Callee) (x0 : Value) (W : AW) : Option (Value × AW) := bnd (oBox x0 W) fun r1=>bnd (faO 0 r1.1 r1.2) fun r2=>bnd (ldA 7 r2.1 r2.2) fun r3=>bnd (call (fnV 22) [r3.1] r3.2) fun r4=>bnd (oBin Tryz.prog .eql 34 false true r4.1 (.int .i64 0) r4.2) fun r34=>bnd (bIf (wnt r34.1 true) (faO 7 r1.1 r34.2) (some (undef, r34.2))) fun r35=>bnd (bIf (wnt r34.1 true) (ldC r35.1 r35.2) (some (undef, r35.2))) fun r36=>bnd (bIf (wnt r34.1 true) (oBuiltin Tryz.prog .len #[29] 3 #[false] [r36.1] r36.2) (some (undef, r36.2))) fun r37=>bnd (bIf (wnt r34.1 true) (oBin Tryz.prog .lss 3 false true r37.1 (.int .i64 1) r37.2) (some (undef, r37.2))) fun r38=>bnd (bIf (wnt r34.1 true) (oMv r38.1 r38.2) (some (undef, r38.2))) fun r39=>bnd (bIf (wnt r39.1 false) (faO 7 r1.1 r39.2) (some (undef, r39.2))) fun r40=>bnd (bIf (wnt r39.1 false) (ldC r40.1 r40.2) (some (undef, r40.2))) fun r41=>bnd (bIf (wnt r39.1 false) (oBuiltin Tryz.prog .len #[29] 3 #[false] [r41.1] r41.2) (some (undef, r41.2))) fun r42=>bnd (bIf (wnt r39.1 false) (oBin Tryz.prog .gtr 3 false true r42.1 (.int .i64 8) r42.2) (some (undef, r42.2))) fun r43=>bnd (bIf (wnt r34.1 true) (oPick r39.1 (.bool true) r43.1 r43.2) (some (undef, r43.2))) fun r44=>bnd (oPick r34.1 r44.1 (.bool false) r44.2) fun r45=>vIf r45.1 (ref33_Check_J2 call (puts (argGo 0 [x0] PlanTab.blank) [(1,r1.1),(2,(.int .i64 0)),(3,(.int .i64 0)),(7,r2.1),(8,r3.1),(9,r4.1),(4,r4.1),(10,r4.1),(11,r34.1),(12,r34.1),(13,r35.1),(14,r36.1),(15,r37.1),(16,r38.1),(17,r39.1),(18,r40.1),(19,r41.1),(20,r42.1),(21,r43.1),(22,r44.1),(23,r45.1),(4,(.int .i64 7))]) r1.1 (.int .i64 7) r45.2) (ref33_Check_J2 call (puts (argGo 0 [x0] PlanTab.blank) [(1,r1.1),(2,(.int .i64 0)),(3,(.int .i64 0)),(7,r2.1),(8,r3.1),(9,r4.1),(4,r4.1),(10,r4.1),(11,r34.1),(12,r34.1),(13,r35.1),(14,r36.1),(15,r37.1),(16,r38.1),(17,r39.1),(18,r40.1),(19,r41.1),(20,r42.1),(21,r43.1),(22,r44.1),(23,r45.1)]) r1.1 r4.1 r45.2)
theorem ref33_Check_om {x0 : Value} {W : AW} {r : Value × AW} (h : ref33_Check omS x0 W = some r) : omS (.func (.func 8) #[] #[]) [x0] W = some (gc W r) := om_of (nt := 65) (n := 1) (by kernel_rfl) (by kernel_rfl) rfl (Eq.trans (by kernel_rfl) h)
noncomputable def bounds_Total (call : Eng.Callee) (x0 : Value) (W : AW) : Option (Value × AW) := bnd (oBox x0 W) fun r1=>bnd (ldA 8 r1.1 r1.2) fun r2=>bnd (call (fnV 7) [r2.1] r2.2) fun r3=>bnd (oExtract r3.1 0 r3.2) fun r4=>bnd (oExtract r3.1 1 r4.2) fun r5=>bnd (oBin Tryz.prog .neq 34 false true r5.1 (.int .i64 0) r5.2) fun r6=>vIf r6.1 (oRes Tryz.prog [((.int .i64 0), none), (r5.1, none)] r6.2) (bnd (call (fnV 25) [r1.1] r6.2) fun r7=>oRes Tryz.prog [(r7.1, none), ((.int .i64 0), none)] r7.2)
theorem bounds_Total_om {x0 : Value} {W : AW} {r : Value × AW} (h : bounds_Total omS x0 W = some r) : omS (.func (.func 9) #[] #[]) [x0] W = some (gc W r) := om_of (nt := 15) (n := 1) (by kernel_rfl) (by kernel_rfl) rfl (Eq.trans (by kernel_rfl) h)
noncomputable def ref33_Total_L1_L2 (call : Eng.Callee) (R : Nat → Value) (W : AW) : Option LT := bnd (faO 7 (R 1) W) fun r11=>bnd (ldC r11.1 r11.2) fun r12=>bnd (ixS 1 r12.1 (R 7) r12.2) fun r13=>bnd (ldC r13.1 r13.2) fun r14=>bnd (oBuiltin Tryz.prog .len #[57] 3 #[false] [r14.1] r14.2) fun r15=>bnd (oBin Tryz.prog .lss 3 false false (R 8) r15.1 r15.2) fun r16=>vIf r16.1 (bnd (faO 0 (R 1) r16.2) fun r17=>bnd (faO 0 r17.1 r17.2) fun r18=>bnd (ldA 4 r18.1 r18.2) fun r19=>bnd (faO 7 (R 1) r19.2) fun r20=>bnd (ldC r20.1 r20.2) fun r21=>bnd (ixS 1 r21.1 (R 7) r21.2) fun r22=>bnd (ldC r22.1 r22.2) fun r23=>bnd (ixS 12 r23.1 (R 8) r23.2) fun r24=>bnd (ldA 12 r24.1 r24.2) fun r25=>bnd (call (fnV 26) [r19.1, r25.1] r25.2) fun r26=>bnd (oExtract r26.1 0 r26.2) fun r27=>bnd (oExtract r26.1 1 r27.2) fun r28=>bnd (oBin Tryz.prog .add 3 false false (R 6) r27.1 r28.2) fun r29=>bnd (oBin Tryz.prog .add 3 false true (R 8) (.int .i64 1) r29.2) fun r30=>some (X.normal, (puts R [(26,(R 8)),(27,r11.1),(28,r12.1),(29,(R 7)),(30,r13.1),(31,r14.1),(32,r15.1),(33,r16.1),(37,r17.1),(38,r18.1),(39,r19.1),(40,r20.1),(41,r21.1),(42,(R 7)),(43,r22.1),(44,r23.1),(45,(R 8)),(46,r24.1),(47,r25.1),(48,r26.1),(36,r26.1),(49,r27.1),(50,r28.1),(9,r27.1),(10,r28.1),(51,(R 6)),(52,r27.1),(53,r29.1),(6,r29.1),(34,(R 8)),(35,r30.1),(8,r30.1)]), r30.2)) (some (X.exit 2, (puts R [(26,(R 8)),(27,r11.1),(28,r12.1),(29,(R 7)),(30,r13.1),(31,r14.1),(32,r15.1),(33,r16.1)]), r16.2))
noncomputable def ref33_Total_L1 (call : Eng.Callee) (R : Nat → Value) (W : AW) : Option LT := bnd (faO 7 (R 1) W) fun r7=>bnd (ldC r7.1 r7.2) fun r8=>bnd (oBuiltin Tryz.prog .len #[29] 3 #[false] [r8.1] r8.2) fun r9=>bnd (oBin Tryz.prog .lss 3 false false (R 7) r9.1 r9.2) fun r10=>vIf r10.1 (bnd (loopO (ref33_Total_L1_L2 call) (puts R [(19,(R 7)),(20,r7.1),(21,r8.1),(22,r9.1),(23,r10.1),(8,(.int .i64 0))]) r10.2) fun r31=>kExit 2 r31.1 (bnd (oBin Tryz.prog .add 3 false true (r31.2.1 7) (.int .i64 1) r31.2.2) fun r32=>some (X.normal, (puts r31.2.1 [(24,(r31.2.1 7)),(25,r32.1),(7,r32.1)]), r32.2)) (none)) (some (X.exit 0, (puts R [(19,(R 7)),(20,r7.1),(21,r8.1),(22,r9.1),(23,r10.1)]), r10.2))
noncomputable def ref33_Total (call : Eng.Callee) (x0 : Value) (W : AW) : Option (Value × AW) := bnd (oBox x0 W) fun r1=>bnd (ldA 8 r1.1 r1.2) fun r2=>bnd (call (fnV 8) [r2.1] r2.2) fun r3=>bnd (oExtract r3.1 0 r3.2) fun r4=>bnd (oExtract r3.1 1 r4.2) fun r5=>bnd (oBin Tryz.prog .neq 34 false true r5.1 (.int .i64 0) r5.2) fun r6=>vIf r6.1 (oRes Tryz.prog [((.int .i64 0), none), (r5.1, none)] r6.2) (bnd (loopO (ref33_Total_L1 call) (puts (argGo 0 [x0] PlanTab.blank) [(1,r1.1),(2,(.int .i64 0)),(3,(.int .i64 0)),(12,r2.1),(13,r3.1),(11,r3.1),(14,r4.1),(15,r5.1),(4,r4.1),(5,r5.1),(16,r5.1),(17,r6.1),(6,(.int .i64 0)),(7,(.int .i64 0))]) r6.2) fun r33=>kExit 0 r33.1 (oRes Tryz.prog [((r33.2.1 6), none), ((.int .i64 0), none)] r33.2.2) (none))
theorem ref33_Total_om {x0 : Value} {W : AW} {r : Value × AW} (h : ref33_Total omS x0 W = some r) : omS (.func (.func 10) #[] #[]) [x0] W = some (gc W r) := om_of (nt := 55) (n := 1) (by kernel_rfl) (by kernel_rfl) rfl (Eq.trans (by kernel_rfl) h)
noncomputable def bounds_Most (call : Eng.Callee) (x0 x1 : Value) (W : AW) : Option (Value × AW) := bnd (oBox x0 W) fun r1=>bnd (ldA 4 r1.1 r1.2) fun r2=>bnd (call (fnV 27) [r2.1] r2.2) fun r3=>bnd (oExtract r3.1 0 r3.2) fun r4=>bnd (oExtract r3.1 1 r4.2) fun r5=>bnd (oBin Tryz.prog .neq 34 false true r5.1 (.int .i64 0) r5.2) fun r6=>vIf r6.1 (oRes Tryz.prog [((.int .i64 0), none), (r5.1, none)] r6.2) (bnd (oBin Tryz.prog .lss 3 false true x1 (.int .i64 0) r6.2) fun r7=>bnd (bIf (wnt r7.1 false) (oMv x1 r7.2) (some (undef, r7.2))) fun r8=>bnd (bIf (wnt r7.1 false) (oBin Tryz.prog .gtr 3 false true r8.1 (.int .i64 60) r8.2) (some (undef, r8.2))) fun r9=>bnd (oPick r7.1 (.bool true) r9.1 r9.2) fun r10=>vIf r10.1 (oRes Tryz.prog [((.int .i64 0), none), ((.int .i64 7), none)] r10.2) (bnd (faO 0 r1.1 r10.2) fun r11=>bnd (ldC r11.1 r11.2) fun r12=>bnd (faO 3 r1.1 r12.2) fun r13=>bnd (ldC r13.1 r13.2) fun r14=>bnd (oBuiltin Tryz.prog .len #[22] 3 #[false] [r14.1] r14.2) fun r15=>bnd (oBin Tryz.prog .add 3 false false r12.1 r15.1 r15.2) fun r16=>bnd (oBin Tryz.prog .mul 3 true false (.int .i64 2) r16.1 r16.2) fun r17=>bnd (oBin Tryz.prog .add 3 true false (.int .i64 1) r17.1 r17.2) fun r18=>bnd (oBin Tryz.prog .mul 3 false false x1 r18.1 r18.2) fun r19=>oRes Tryz.prog [(r19.1, none), ((.int .i64 0), none)] r19.2))
theorem bounds_Most_om {x0 x1 : Value} {W : AW} {r : Value × AW} (h : bounds_Most omS x0 x1 W = some r) : omS (.func (.func 11) #[] #[]) [x0, x1] W = some (gc W r) := om_of (nt := 32) (n := 2) (by kernel_rfl) (by kernel_rfl) rfl (Eq.trans (by kernel_rfl) h)
noncomputable def ref33_Most_J1 (call : Eng.Callee) (J1 J2 J7 : Value) (W : AW) : Option (Value × AW) := bnd (oBin Tryz.prog .neq 34 false true J7 (.int .i64 0) W) fun r6=>vIf r6.1 (oRes Tryz.prog [((.int .i64 0), none), (J7, none)] r6.2) (bnd (faO 0 J2 r6.2) fun r7=>bnd (ldC r7.1 r7.2) fun r8=>bnd (faO 3 J2 r8.2) fun r9=>bnd (ldC r9.1 r9.2) fun r10=>bnd (oBuiltin Tryz.prog .len #[22] 3 #[false] [r10.1] r10.2) fun r11=>bnd (oBin Tryz.prog .add 3 false false r8.1 r11.1 r11.2) fun r12=>bnd (oBin Tryz.prog .mul 3 true false (.int .i64 2) r12.1 r12.2) fun r13=>bnd (oBin Tryz.prog .add 3 true false (.int .i64 1) r13.1 r13.2) fun r14=>bnd (oBin Tryz.prog .mul 3 false false J1 r14.1 r14.2) fun r15=>oRes Tryz.prog [(r15.1, none), ((.int .i64 0), none)] r15.2)
noncomputable def ref33_Most (call : Eng.Callee) (x0 x1 : Value) (W : AW) : Option (Value × AW) := bnd (oBox x0 W) fun r1=>bnd (ldA 4 r1.1 r1.2) fun r2=>bnd (call (fnV 28) [r2.1] r2.2) fun r3=>bnd (oExtract r3.1 0 r3.2) fun r4=>bnd (oExtract r3.1 1 r4.2) fun r5=>bnd (oBin Tryz.prog .eql 34 false true r5.1 (.int .i64 0) r5.2) fun r16=>bnd (bIf (wnt r16.1 true) (oMv x1 r16.2) (some (undef, r16.2))) fun r17=>bnd (bIf (wnt r16.1 true) (oBin Tryz.prog .lss 3 false true r17.1 (.int .i64 0) r17.2) (some (undef, r17.2))) fun r18=>bnd (bIf (wnt r16.1 true) (oMv r18.1 r18.2) (some (undef, r18.2))) fun r19=>bnd (bIf (wnt r19.1 false) (oMv x1 r19.2) (some (undef, r19.2))) fun r20=>bnd (bIf (wnt r19.1 false) (oBin Tryz.prog .gtr 3 false true r20.1 (.int .i64 60) r20.2) (some (undef, r20.2))) fun r21=>bnd (bIf (wnt r16.1 true) (oPick r19.1 (.bool true) r21.1 r21.2) (some (undef, r21.2))) fun r22=>bnd (oPick r16.1 r22.1 (.bool false) r22.2) fun r23=>vIf r23.1 (ref33_Most_J1 call x1 r1.1 (.int .i64 7) r23.2) (ref33_Most_J1 call x1 r1.1 r5.1 r23.2)
theorem ref33_Most_om {x0 x1 : Value} {W : AW} {r : Value × AW} (h : ref33_Most omS x0 x1 W = some r) : omS (.func (.func 12) #[] #[]) [x0, x1] W = some (gc W r) := om_of (nt := 36) (n := 2) (by kernel_rfl) (by kernel_rfl) rfl (Eq.trans (by kernel_rfl) h)
noncomputable def bounds_calls_L1 (call : Eng.Callee) (R : Nat → Value) (W : AW) : Option LT := bnd (oBin Tryz.prog .lss 3 false false (R 11) (R 10) W) fun r5=>vIf r5.1 (bnd (ixS 1 (R 9) (R 11) r5.2) fun r6=>bnd (ldC r6.1 r6.2) fun r7=>bnd (oBuiltin Tryz.prog .len #[57] 3 #[false] [r7.1] r7.2) fun r8=>bnd (oBin Tryz.prog .add 3 false false (R 3) r8.1 r8.2) fun r9=>bnd (oBin Tryz.prog .add 3 false true (R 11) (.int .i64 1) r9.2) fun r10=>some (X.normal, (puts R [(12,r5.1),(13,r6.1),(14,r7.1),(5,r7.1),(15,(R 3)),(16,r7.1),(17,r8.1),(18,r9.1),(3,r9.1),(19,r10.1),(11,r10.1)]), r10.2)) (some (X.exit 0, (rput R (some 12) r5.1), r5.2))
noncomputable def bounds_calls (call : Eng.Callee) (x0 : Value) (W : AW) : Option (Value × AW) := bnd (oNilCheck x0 W) fun r1=>bnd (faO 7 r1.1 r1.2) fun r2=>bnd (ldC r2.1 r2.2) fun r3=>bnd (oBuiltin Tryz.prog .len #[29] 3 #[false] [r3.1] r3.2) fun r4=>bnd (loopO (bounds_calls_L1 call) (puts (argGo 0 [x0] PlanTab.blank) [(2,(.int .i64 0)),(3,(.int .i64 0)),(6,x0),(7,r1.1),(8,r2.1),(9,r3.1),(10,r4.1),(11,(.int .i64 0))]) r4.2) fun r11=>kExit 0 r11.1 (oRes Tryz.prog [((r11.2.1 3), none)] r11.2.2) (none)
theorem bounds_calls_om {x0 : Value} {W : AW} {r : Value × AW} (h : bounds_calls omS x0 W = some r) : omS (.func (.func 20) #[] #[]) [x0] W = some (gc W r) := om_of (nt := 21) (n := 1) (by kernel_rfl) (by kernel_rfl) rfl (Eq.trans (by kernel_rfl) h)
noncomputable def ref33_calls_L1 (call : Eng.Callee) (R : Nat → Value) (W : AW) : Option LT := bnd (faO 7 (R 1) W) fun r2=>bnd (ldC r2.1 r2.2) fun r3=>bnd (oBuiltin Tryz.prog .len #[29] 3 #[false] [r3.1] r3.2) fun r4=>bnd (oBin Tryz.prog .lss 3 false false (R 4) r4.1 r4.2) fun r5=>vIf r5.1 (bnd (faO 7 (R 1) r5.2) fun r6=>bnd (ldC r6.1 r6.2) fun r7=>bnd (ixS 1 r7.1 (R 4) r7.2) fun r8=>bnd (ldC r8.1 r8.2) fun r9=>bnd (oBuiltin Tryz.prog .len #[57] 3 #[false] [r9.1] r9.2) fun r10=>bnd (oBin Tryz.prog .add 3 false false (R 3) r10.1 r10.2) fun r11=>bnd (oBin Tryz.prog .add 3 false true (R 4) (.int .i64 1) r11.2) fun r12=>some (X.normal, (puts R [(5,(R 4)),(6,r2.1),(7,r3.1),(8,r4.1),(9,r5.1),(12,(R 3)),(13,r6.1),(14,r7.1),(15,(R 4)),(16,r8.1),(17,r9.1),(18,r10.1),(19,r11.1),(3,r11.1),(10,(R 4)),(11,r12.1),(4,r12.1)]), r12.2)) (some (X.exit 0, (puts R [(5,(R 4)),(6,r2.1),(7,r3.1),(8,r4.1),(9,r5.1)]), r5.2))
noncomputable def ref33_calls (call : Eng.Callee) (x0 : Value) (W : AW) : Option (Value × AW) := bnd (oBox x0 W) fun r1=>bnd (loopO (ref33_calls_L1 call) (puts (argGo 0 [x0] PlanTab.blank) [(1,r1.1),(2,(.int .i64 0)),(3,(.int .i64 0)),(4,(.int .i64 0))]) r1.2) fun r13=>kExit 0 r13.1 (oRes Tryz.prog [((r13.2.1 3), none)] r13.2.2) (none)
theorem ref33_calls_om {x0 : Value} {W : AW} {r : Value × AW} (h : ref33_calls omS x0 W = some r) : omS (.func (.func 23) #[] #[]) [x0] W = some (gc W r) := om_of (nt := 21) (n := 1) (by kernel_rfl) (by kernel_rfl) rfl (Eq.trans (by kernel_rfl) h)
noncomputable def bounds_total_L1_L2 (call : Eng.Callee) (R : Nat → Value) (W : AW) : Option LT := bnd (oBin Tryz.prog .lss 3 false false (R 21) (R 20) W) fun r9=>vIf r9.1 (bnd (ixS 12 (R 19) (R 21) r9.2) fun r10=>bnd (ldA 12 r10.1 r10.2) fun r11=>bnd (oAlloc Tryz.prog 56 r11.2) fun r12=>bnd (stV 12 r12.1 r11.1 r12.2) fun r13=>bnd (oNilCheck (R 0) r13.2) fun r14=>bnd (faO 0 r14.1 r14.2) fun r15=>bnd (faO 0 r15.1 r15.2) fun r16=>bnd (ldA 4 r16.1 r16.2) fun r17=>bnd (ldA 12 r12.1 r17.2) fun r18=>bnd (call (fnV 53) [r17.1, r18.1] r18.2) fun r19=>bnd (oExtract r19.1 0 r19.2) fun r20=>bnd (oExtract r19.1 1 r20.2) fun r21=>bnd (oBin Tryz.prog .add 3 false false (R 3) r20.1 r21.2) fun r22=>bnd (oBin Tryz.prog .add 3 false true (R 21) (.int .i64 1) r22.2) fun r23=>some (X.normal, (puts R [(22,r9.1),(23,r10.1),(24,r11.1),(7,r12.1),(26,(R 0)),(27,r14.1),(28,r15.1),(29,r16.1),(30,r17.1),(31,r18.1),(32,r19.1),(25,r19.1),(33,r20.1),(34,r21.1),(8,r20.1),(9,r21.1),(35,(R 3)),(36,r20.1),(37,r22.1),(3,r22.1),(38,r23.1),(21,r23.1)]), r23.2)) (some (X.exit 2, (rput R (some 22) r9.1), r9.2))
noncomputable def bounds_total_L1 (call : Eng.Callee) (R : Nat → Value) (W : AW) : Option LT := bnd (oBin Tryz.prog .lss 3 false false (R 15) (R 14) W) fun r5=>vIf r5.1 (bnd (ixS 1 (R 13) (R 15) r5.2) fun r6=>bnd (ldC r6.1 r6.2) fun r7=>bnd (oBuiltin Tryz.prog .len #[57] 3 #[false] [r7.1] r7.2) fun r8=>bnd (loopO (bounds_total_L1_L2 call) (puts R [(16,r5.1),(17,r6.1),(18,r7.1),(5,r7.1),(19,r7.1),(20,r8.1),(21,(.int .i64 0))]) r8.2) fun r24=>kExit 2 r24.1 (bnd (oBin Tryz.prog .add 3 false true (r24.2.1 15) (.int .i64 1) r24.2.2) fun r25=>some (X.normal, (puts r24.2.1 [(39,r25.1),(15,r25.1)]), r25.2)) (none)) (some (X.exit 0, (rput R (some 16) r5.1), r5.2))
noncomputable def bounds_total (call : Eng.Callee) (x0 : Value) (W : AW) : Option (Value × AW) := bnd (oNilCheck x0 W) fun r1=>bnd (faO 7 r1.1 r1.2) fun r2=>bnd (ldC r2.1 r2.2) fun r3=>bnd (oBuiltin Tryz.prog .len #[29] 3 #[false] [r3.1] r3.2) fun r4=>bnd (loopO (bounds_total_L1 call) (puts (argGo 0 [x0] PlanTab.blank) [(2,(.int .i64 0)),(3,(.int .i64 0)),(10,x0),(11,r1.1),(12,r2.1),(13,r3.1),(14,r4.1),(15,(.int .i64 0))]) r4.2) fun r26=>kExit 0 r26.1 (oRes Tryz.prog [((r26.2.1 3), none)] r26.2.2) (none)
theorem bounds_total_om {x0 : Value} {W : AW} {r : Value × AW} (h : bounds_total omS x0 W = some r) : omS (.func (.func 25) #[] #[]) [x0] W = some (gc W r) := om_of (nt := 41) (n := 1) (by kernel_rfl) (by kernel_rfl) rfl (Eq.trans (by kernel_rfl) h)
noncomputable def model_Check_L1_L2 (call : Eng.Callee) (R : Nat → Value) (W : AW) : Option LT := bnd (oBin Tryz.prog .lss 3 false false (R 66) (R 65) W) fun r44=>vIf r44.1 (bnd (ixS 1 (R 64) (R 66) r44.2) fun r45=>bnd (ldC r45.1 r45.2) fun r46=>bnd (oLookup Tryz.prog 106 (R 7) r46.1 false r46.2) fun r47=>vIf r47.1 (some (X.ret, (puts R [(67,r44.1),(68,r45.1),(69,r46.1),(9,r46.1),(70,(R 7)),(71,r46.1),(72,r47.1),(2,(.int .i64 8))]), r47.2)) (bnd (oMapUpdate Tryz.prog 106 (R 7) r46.1 (.bool true) r47.2) fun r48=>bnd (oBin Tryz.prog .add 3 false true (R 66) (.int .i64 1) r48.2) fun r49=>some (X.normal, (puts R [(67,r44.1),(68,r45.1),(69,r46.1),(9,r46.1),(70,(R 7)),(71,r46.1),(72,r47.1),(73,(R 7)),(74,r46.1),(75,r49.1),(66,r49.1)]), r49.2))) (some (X.exit 3, (rput R (some 67) r44.1), r44.2))
noncomputable def model_Check_L1 (call : Eng.Callee) (R : Nat → Value) (W : AW) : Option LT := bnd (oBin Tryz.prog .lss 3 false false (R 48) (R 47) W) fun r31=>vIf r31.1 (bnd (ixS 1 (R 46) (R 48) r31.2) fun r32=>bnd (ldC r32.1 r32.2) fun r33=>bnd (oBuiltin Tryz.prog .len #[64] 3 #[false] [r33.1] r33.2) fun r34=>bnd (faO 0 (R 1) r34.2) fun r35=>bnd (faO 3 r35.1 r35.2) fun r36=>bnd (ldC r36.1 r36.2) fun r37=>bnd (ixS 3 r37.1 (R 48) r37.2) fun r38=>bnd (faO 2 r38.1 r38.2) fun r39=>bnd (ldC r39.1 r39.2) fun r40=>bnd (oBin Tryz.prog .gtr 3 false false r34.1 r40.1 r40.2) fun r41=>vIf r41.1 (some (X.ret, (puts R [(49,r31.1),(50,(R 48)),(51,r32.1),(52,r33.1),(5,(R 48)),(6,r33.1),(53,r33.1),(54,r34.1),(55,r35.1),(56,r36.1),(57,r37.1),(58,(R 48)),(59,r38.1),(60,r39.1),(61,r40.1),(62,r41.1),(2,(.int .i64 3))]), r41.2)) (bnd (oMkMap Tryz.prog 106 none r41.2) fun r42=>bnd (oBuiltin Tryz.prog .len #[64] 3 #[false] [r33.1] r42.2) fun r43=>bnd (loopO (model_Check_L1_L2 call) (puts R [(49,r31.1),(50,(R 48)),(51,r32.1),(52,r33.1),(5,(R 48)),(6,r33.1),(53,r33.1),(54,r34.1),(55,r35.1),(56,r36.1),(57,r37.1),(58,(R 48)),(59,r38.1),(60,r39.1),(61,r40.1),(62,r41.1),(63,r42.1),(7,r42.1),(64,r33.1),(65,r43.1),(66,(.int .i64 0))]) r43.2) fun r50=>kExit 3 r50.1 (bnd (oBin Tryz.prog .add 3 false true (r50.2.1 48) (.int .i64 1) r50.2.2) fun r51=>some (X.normal, (puts r50.2.1 [(76,r51.1),(48,r51.1)]), r51.2)) (kRetX r50.1 (some (X.ret, r50.2.1, r50.2.2))))) (some (X.exit 1, (rput R (some 49) r31.1), r31.2))
noncomputable def model_Check (call : Eng.Callee) (x0 : Value) (W : AW) : Option (Value × AW) := bnd (oBox x0 W) fun r1=>bnd (faO 0 r1.1 r1.2) fun r2=>bnd (ldA 4 r2.1 r2.2) fun r3=>bnd (call (fnV 46) [r3.1] r3.2) fun r4=>bnd (oExtract r4.1 0 r4.2) fun r5=>bnd (oExtract r4.1 1 r5.2) fun r6=>bnd (oBin Tryz.prog .neq 34 false true r6.1 (.int .i64 0) r6.2) fun r7=>vIf r7.1 (oRes Tryz.prog [(r6.1, none)] r7.2) (bnd (faO 4 r1.1 r7.2) fun r8=>bnd (ldC r8.1 r8.2) fun r9=>bnd (oBin Tryz.prog .lss 2 false true r9.1 (.int .i64 0) r9.2) fun r10=>vIf r10.1 (oRes Tryz.prog [((.int .i64 7), none)] r10.2) (bnd (faO 5 r1.1 r10.2) fun r11=>bnd (ldC r11.1 r11.2) fun r12=>bnd (oBuiltin Tryz.prog .len #[25] 3 #[false] [r12.1] r12.2) fun r13=>bnd (oBin Tryz.prog .neq 3 false false r13.1 r5.1 r13.2) fun r14=>bnd (bIf (wnt r14.1 false) (faO 6 r1.1 r14.2) (some (undef, r14.2))) fun r15=>bnd (bIf (wnt r14.1 false) (ldC r15.1 r15.2) (some (undef, r15.2))) fun r16=>bnd (bIf (wnt r14.1 false) (oBuiltin Tryz.prog .len #[26] 3 #[false] [r16.1] r16.2) (some (undef, r16.2))) fun r17=>bnd (bIf (wnt r14.1 false) (faO 0 r1.1 r17.2) (some (undef, r17.2))) fun r18=>bnd (bIf (wnt r14.1 false) (faO 3 r18.1 r18.2) (some (undef, r18.2))) fun r19=>bnd (bIf (wnt r14.1 false) (ldC r19.1 r19.2) (some (undef, r19.2))) fun r20=>bnd (bIf (wnt r14.1 false) (oBuiltin Tryz.prog .len #[22] 3 #[false] [r20.1] r20.2) (some (undef, r20.2))) fun r21=>bnd (bIf (wnt r14.1 false) (oBin Tryz.prog .neq 3 false false r17.1 r21.1 r21.2) (some (undef, r21.2))) fun r22=>bnd (oPick r14.1 (.bool true) r22.1 r22.2) fun r23=>bnd (bIf (wnt r23.1 false) (faO 5 r1.1 r23.2) (some (undef, r23.2))) fun r24=>bnd (bIf (wnt r23.1 false) (ldC r24.1 r24.2) (some (undef, r24.2))) fun r25=>bnd (bIf (wnt r23.1 false) (call (fnV 47) [r25.1, (fnV 48)] r25.2) (some (undef, r25.2))) fun r26=>bnd (oPick r23.1 (.bool true) r26.1 r26.2) fun r27=>vIf r27.1 (oRes Tryz.prog [((.int .i64 6), none)] r27.2) (bnd (faO 6 r1.1 r27.2) fun r28=>bnd (ldC r28.1 r28.2) fun r29=>bnd (oBuiltin Tryz.prog .len #[26] 3 #[false] [r29.1] r29.2) fun r30=>bnd (loopO (model_Check_L1 call) (puts (argGo 0 [x0] PlanTab.blank) [(1,r1.1),(2,(.int .i64 0)),(11,r2.1),(12,r3.1),(13,r4.1),(10,r4.1),(14,r5.1),(15,r6.1),(3,r5.1),(4,r6.1),(17,r6.1),(18,r7.1),(16,r7.1),(21,r8.1),(22,r9.1),(23,r10.1),(20,r10.1),(25,r11.1),(26,r12.1),(27,r13.1),(28,r5.1),(29,r14.1),(30,r14.1),(31,r15.1),(32,r16.1),(33,r17.1),(34,r18.1),(35,r19.1),(36,r20.1),(37,r21.1),(38,r22.1),(39,r23.1),(40,r23.1),(41,r24.1),(42,r25.1),(43,r26.1),(44,r27.1),(24,r27.1),(45,r28.1),(46,r29.1),(47,r30.1),(48,(.int .i64 0))]) r30.2) fun r52=>kExit 1 r52.1 (oRes Tryz.prog [((.int .i64 0), none)] r52.2.2) (kRetX r52.1 (oRes Tryz.prog [((r52.2.1 2), none)] r52.2.2)))))
theorem model_Check_om {x0 : Value} {W : AW} {r : Value × AW} (h : model_Check omS x0 W = some r) : omS (.func (.func 19) #[] #[]) [x0] W = some (gc W r) := om_of (nt := 77) (n := 1) (by kernel_rfl) (by kernel_rfl) rfl (Eq.trans (by kernel_rfl) h)
noncomputable def ref23_Check_L1 (call : Eng.Callee) (R : Nat → Value) (W : AW) : Option LT := bnd (oBin Tryz.prog .lss 3 false false (R 5) (R 3) W) fun r24=>vIf r24.1 (bnd (faO 5 (R 1) r24.2) fun r25=>bnd (ldC r25.1 r25.2) fun r26=>bnd (ixS 5 r26.1 (R 5) r26.2) fun r27=>bnd (ldA 5 r27.1 r27.2) fun r28=>bnd (call (fnV 51) [r28.1] r28.2) fun r29=>bnd (oBin Tryz.prog .neq 34 false true r29.1 (.int .i64 0) r29.2) fun r30=>vIf r30.1 (some (X.ret, (puts R [(36,(R 5)),(37,(R 3)),(38,r24.1),(41,r25.1),(42,r26.1),(43,(R 5)),(44,r27.1),(45,r28.1),(46,r29.1),(47,r30.1),(2,(.int .i64 6))]), r30.2)) (bnd (oBin Tryz.prog .add 3 false true (R 5) (.int .i64 1) r30.2) fun r31=>some (X.normal, (puts R [(36,(R 5)),(37,(R 3)),(38,r24.1),(41,r25.1),(42,r26.1),(43,(R 5)),(44,r27.1),(45,r28.1),(46,r29.1),(47,r30.1),(39,(R 5)),(40,r31.1),(5,r31.1)]), r31.2))) (some (X.exit 0, (puts R [(36,(R 5)),(37,(R 3)),(38,r24.1)]), r24.2))
noncomputable def ref23_Check_L2_L3 (call : Eng.Callee) (R : Nat → Value) (W : AW) : Option LT := bnd (oBuiltin Tryz.prog .len #[64] 3 #[false] [(R 7)] W) fun r49=>bnd (oBin Tryz.prog .lss 3 false false (R 8) r49.1 r49.2) fun r50=>vIf r50.1 (bnd (ixS 1 (R 7) (R 8) r50.2) fun r51=>bnd (ldC r51.1 r51.2) fun r52=>bnd (call (fnV 52) [(R 7), r52.1] r52.2) fun r53=>bnd (oBin Tryz.prog .lss 3 false false r53.1 (R 8) r53.2) fun r54=>vIf r54.1 (some (X.ret, (puts R [(70,(R 8)),(71,(R 7)),(72,r49.1),(73,r50.1),(76,(R 7)),(77,(R 7)),(78,(R 8)),(79,r51.1),(80,r52.1),(81,r53.1),(82,(R 8)),(83,r54.1),(2,(.int .i64 8))]), r54.2)) (bnd (oBin Tryz.prog .add 3 false true (R 8) (.int .i64 1) r54.2) fun r55=>some (X.normal, (puts R [(70,(R 8)),(71,(R 7)),(72,r49.1),(73,r50.1),(76,(R 7)),(77,(R 7)),(78,(R 8)),(79,r51.1),(80,r52.1),(81,r53.1),(82,(R 8)),(83,r54.1),(74,(R 8)),(75,r55.1),(8,r55.1)]), r55.2))) (some (X.exit 4, (puts R [(70,(R 8)),(71,(R 7)),(72,r49.1),(73,r50.1)]), r50.2))
noncomputable def ref23_Check_L2 (call : Eng.Callee) (R : Nat → Value) (W : AW) : Option LT := bnd (faO 6 (R 1) W) fun r33=>bnd (ldC r33.1 r33.2) fun r34=>bnd (oBuiltin Tryz.prog .len #[26] 3 #[false] [r34.1] r34.2) fun r35=>bnd (oBin Tryz.prog .lss 3 false false (R 6) r35.1 r35.2) fun r36=>vIf r36.1 (bnd (faO 6 (R 1) r36.2) fun r37=>bnd (ldC r37.1 r37.2) fun r38=>bnd (ixS 1 r38.1 (R 6) r38.2) fun r39=>bnd (ldC r39.1 r39.2) fun r40=>bnd (oBuiltin Tryz.prog .len #[64] 3 #[false] [r40.1] r40.2) fun r41=>bnd (faO 0 (R 1) r41.2) fun r42=>bnd (faO 3 r42.1 r42.2) fun r43=>bnd (ldC r43.1 r43.2) fun r44=>bnd (ixS 3 r44.1 (R 6) r44.2) fun r45=>bnd (faO 2 r45.1 r45.2) fun r46=>bnd (ldC r46.1 r46.2) fun r47=>bnd (oBin Tryz.prog .gtr 3 false false r41.1 r47.1 r47.2) fun r48=>vIf r48.1 (some (X.ret, (puts R [(48,(R 6)),(49,r33.1),(50,r34.1),(51,r35.1),(52,r36.1),(55,r37.1),(56,r38.1),(57,(R 6)),(58,r39.1),(59,r40.1),(7,r40.1),(60,r40.1),(61,r41.1),(62,r42.1),(63,r43.1),(64,r44.1),(65,(R 6)),(66,r45.1),(67,r46.1),(68,r47.1),(69,r48.1),(2,(.int .i64 3))]), r48.2)) (bnd (loopO (ref23_Check_L2_L3 call) (puts R [(48,(R 6)),(49,r33.1),(50,r34.1),(51,r35.1),(52,r36.1),(55,r37.1),(56,r38.1),(57,(R 6)),(58,r39.1),(59,r40.1),(7,r40.1),(60,r40.1),(61,r41.1),(62,r42.1),(63,r43.1),(64,r44.1),(65,(R 6)),(66,r45.1),(67,r46.1),(68,r47.1),(69,r48.1),(8,(.int .i64 0))]) r48.2) fun r56=>kExit 4 r56.1 (bnd (oBin Tryz.prog .add 3 false true (r56.2.1 6) (.int .i64 1) r56.2.2) fun r57=>some (X.normal, (puts r56.2.1 [(53,(r56.2.1 6)),(54,r57.1),(6,r57.1)]), r57.2)) (kRetX r56.1 (some (X.ret, r56.2.1, r56.2.2))))) (some (X.exit 2, (puts R [(48,(R 6)),(49,r33.1),(50,r34.1),(51,r35.1),(52,r36.1)]), r36.2))
noncomputable def ref23_Check (call : Eng.Callee) (x0 : Value) (W : AW) : Option (Value × AW) := bnd (oBox x0 W) fun r1=>bnd (faO 0 r1.1 r1.2) fun r2=>bnd (ldA 4 r2.1 r2.2) fun r3=>bnd (call (fnV 50) [r3.1] r3.2) fun r4=>bnd (oExtract r4.1 0 r4.2) fun r5=>bnd (oExtract r4.1 1 r5.2) fun r6=>bnd (oBin Tryz.prog .neq 34 false true r6.1 (.int .i64 0) r6.2) fun r7=>vIf r7.1 (oRes Tryz.prog [(r6.1, none)] r7.2) (bnd (faO 4 r1.1 r7.2) fun r8=>bnd (ldC r8.1 r8.2) fun r9=>bnd (oBin Tryz.prog .lss 2 false true r9.1 (.int .i64 0) r9.2) fun r10=>vIf r10.1 (oRes Tryz.prog [((.int .i64 7), none)] r10.2) (bnd (faO 5 r1.1 r10.2) fun r11=>bnd (ldC r11.1 r11.2) fun r12=>bnd (oBuiltin Tryz.prog .len #[25] 3 #[false] [r12.1] r12.2) fun r13=>bnd (oBin Tryz.prog .neq 3 false false r13.1 r5.1 r13.2) fun r14=>bnd (bIf (wnt r14.1 false) (faO 6 r1.1 r14.2) (some (undef, r14.2))) fun r15=>bnd (bIf (wnt r14.1 false) (ldC r15.1 r15.2) (some (undef, r15.2))) fun r16=>bnd (bIf (wnt r14.1 false) (oBuiltin Tryz.prog .len #[26] 3 #[false] [r16.1] r16.2) (some (undef, r16.2))) fun r17=>bnd (bIf (wnt r14.1 false) (faO 0 r1.1 r17.2) (some (undef, r17.2))) fun r18=>bnd (bIf (wnt r14.1 false) (faO 3 r18.1 r18.2) (some (undef, r18.2))) fun r19=>bnd (bIf (wnt r14.1 false) (ldC r19.1 r19.2) (some (undef, r19.2))) fun r20=>bnd (bIf (wnt r14.1 false) (oBuiltin Tryz.prog .len #[22] 3 #[false] [r20.1] r20.2) (some (undef, r20.2))) fun r21=>bnd (bIf (wnt r14.1 false) (oBin Tryz.prog .neq 3 false false r17.1 r21.1 r21.2) (some (undef, r21.2))) fun r22=>bnd (oPick r14.1 (.bool true) r22.1 r22.2) fun r23=>vIf r23.1 (oRes Tryz.prog [((.int .i64 6), none)] r23.2) (bnd (loopO (ref23_Check_L1 call) (puts (argGo 0 [x0] PlanTab.blank) [(1,r1.1),(2,(.int .i64 0)),(10,r2.1),(11,r3.1),(12,r4.1),(9,r4.1),(13,r5.1),(14,r6.1),(3,r5.1),(4,r6.1),(15,r6.1),(16,r7.1),(18,r8.1),(19,r9.1),(20,r10.1),(21,r11.1),(22,r12.1),(23,r13.1),(24,r5.1),(25,r14.1),(26,r14.1),(27,r15.1),(28,r16.1),(29,r17.1),(30,r18.1),(31,r19.1),(32,r20.1),(33,r21.1),(34,r22.1),(35,r23.1),(5,(.int .i64 0))]) r23.2) fun r32=>kExit 0 r32.1 (bnd (loopO (ref23_Check_L2 call) (rput r32.2.1 (some 6) (.int .i64 0)) r32.2.2) fun r58=>kExit 2 r58.1 (oRes Tryz.prog [((.int .i64 0), none)] r58.2.2) (kRetX r58.1 (oRes Tryz.prog [((r58.2.1 2), none)] r58.2.2))) (kRetX r32.1 (oRes Tryz.prog [((r32.2.1 2), none)] r32.2.2)))))
theorem ref23_Check_om {x0 : Value} {W : AW} {r : Value × AW} (h : ref23_Check omS x0 W = some r) : omS (.func (.func 22) #[] #[]) [x0] W = some (gc W r) := om_of (nt := 84) (n := 1) (by kernel_rfl) (by kernel_rfl) rfl (Eq.trans (by kernel_rfl) h)
noncomputable def slices_ContainsFuncapi_SeSeatapi_SeSeat (call : Eng.Callee) (x0 x1 : Value) (W : AW) : Option (Value × AW) := bnd (call (fnV 79) [x0, x1] W) fun r1=>bnd (oBin Tryz.prog .geq 3 false true r1.1 (.int .i64 0) r1.2) fun r2=>oRes Tryz.prog [(r2.1, none)] r2.2
theorem slices_ContainsFuncapi_SeSeatapi_SeSeat_om {x0 x1 : Value} {W : AW} {r : Value × AW} (h : slices_ContainsFuncapi_SeSeatapi_SeSeat omS x0 x1 W = some r) : omS (.func (.func 47) #[] #[]) [x0, x1] W = some (gc W r) := om_of (nt := 9) (n := 2) (by kernel_rfl) (by kernel_rfl) rfl (Eq.trans (by kernel_rfl) h)
noncomputable def model_Check_1 (call : Eng.Callee) (x0 : Value) (W : AW) : Option (Value × AW) := bnd (oBox x0 W) fun r1=>bnd (ldA 5 r1.1 r1.2) fun r2=>bnd (call (fnV 49) [r2.1] r2.2) fun r3=>bnd (oBin Tryz.prog .neq 34 false true r3.1 (.int .i64 0) r3.2) fun r4=>oRes Tryz.prog [(r4.1, none)] r4.2
theorem model_Check_1_om {x0 : Value} {W : AW} {r : Value × AW} (h : model_Check_1 omS x0 W = some r) : omS (.func (.func 48) #[] #[]) [x0] W = some (gc W r) := om_of (nt := 6) (n := 1) (by kernel_rfl) (by kernel_rfl) rfl (Eq.trans (by kernel_rfl) h)
noncomputable def seats_Check (call : Eng.Callee) (x0 : Value) (W : AW) : Option (Value × AW) := bnd (oBox x0 W) fun r1=>bnd (faO 2 r1.1 r1.2) fun r2=>bnd (ldC r2.1 r2.2) fun r3=>bnd (faO 0 r1.1 r3.2) fun r4=>bnd (ldC r4.1 r4.2) fun r5=>bnd (oBin Tryz.prog .eql 3 false true r5.1 (.int .i64 1) r5.2) fun r6=>vIf r6.1 (bnd (oBin Tryz.prog .lss 2 false true r3.1 (.int .i64 0) r6.2) fun r7=>vIf r7.1 (oRes Tryz.prog [((.int .i64 6), none)] r7.2) (oRes Tryz.prog [((.int .i64 0), none)] r7.2)) (bnd (oBin Tryz.prog .eql 3 false true r5.1 (.int .i64 0) r6.2) fun r8=>vIf r8.1 (bnd (faO 1 r1.1 r8.2) fun r9=>bnd (ldC r9.1 r9.2) fun r10=>bnd (oBin Tryz.prog .neq 51 false true r10.1 (.int .u32 0) r10.2) fun r11=>vIf r11.1 (oRes Tryz.prog [((.int .i64 6), none)] r11.2) (bnd (oBin Tryz.prog .neq 2 false true r3.1 (.int .i64 0) r11.2) fun r12=>vIf r12.1 (oRes Tryz.prog [((.int .i64 6), none)] r12.2) (oRes Tryz.prog [((.int .i64 0), none)] r12.2))) (bnd (oBin Tryz.prog .eql 3 false true r5.1 (.int .i64 2) r8.2) fun r13=>vIf r13.1 (bnd (oBin Tryz.prog .neq 2 false true r3.1 (.int .i64 0) r13.2) fun r14=>vIf r14.1 (oRes Tryz.prog [((.int .i64 6), none)] r14.2) (oRes Tryz.prog [((.int .i64 0), none)] r14.2)) (oRes Tryz.prog [((.int .i64 6), none)] r13.2)))
theorem seats_Check_om {x0 : Value} {W : AW} {r : Value × AW} (h : seats_Check omS x0 W = some r) : omS (.func (.func 49) #[] #[]) [x0] W = some (gc W r) := om_of (nt := 21) (n := 1) (by kernel_rfl) (by kernel_rfl) rfl (Eq.trans (by kernel_rfl) h)
noncomputable def ref16_Check (call : Eng.Callee) (x0 : Value) (W : AW) : Option (Value × AW) := bnd (oBox x0 W) fun r1=>bnd (faO 0 r1.1 r1.2) fun r2=>bnd (ldC r2.1 r2.2) fun r3=>bnd (oBin Tryz.prog .eql 3 false true r3.1 (.int .i64 0) r3.2) fun r4=>vIf r4.1 (bnd (faO 1 r1.1 r4.2) fun r5=>bnd (ldC r5.1 r5.2) fun r6=>bnd (oBin Tryz.prog .eql 51 false true r6.1 (.int .u32 0) r6.2) fun r7=>bnd (bIf (wnt r7.1 true) (faO 2 r1.1 r7.2) (some (undef, r7.2))) fun r8=>bnd (bIf (wnt r7.1 true) (ldC r8.1 r8.2) (some (undef, r8.2))) fun r9=>bnd (bIf (wnt r7.1 true) (oBin Tryz.prog .eql 2 false true r9.1 (.int .i64 0) r9.2) (some (undef, r9.2))) fun r10=>bnd (oPick r7.1 r10.1 (.bool false) r10.2) fun r11=>bnd (oUn Tryz.prog .not r11.1 r11.2) fun r12=>vIf r12.1 (oRes Tryz.prog [((.int .i64 6), none)] r12.2) (oRes Tryz.prog [((.int .i64 0), none)] r12.2)) (bnd (oBin Tryz.prog .eql 3 false true r3.1 (.int .i64 1) r4.2) fun r13=>vIf r13.1 (bnd (faO 2 r1.1 r13.2) fun r14=>bnd (ldC r14.1 r14.2) fun r15=>bnd (oBin Tryz.prog .geq 2 false true r15.1 (.int .i64 0) r15.2) fun r16=>bnd (oUn Tryz.prog .not r16.1 r16.2) fun r17=>vIf r17.1 (oRes Tryz.prog [((.int .i64 6), none)] r17.2) (oRes Tryz.prog [((.int .i64 0), none)] r17.2)) (bnd (oBin Tryz.prog .eql 3 false true r3.1 (.int .i64 2) r13.2) fun r18=>vIf r18.1 (bnd (faO 2 r1.1 r18.2) fun r19=>bnd (ldC r19.1 r19.2) fun r20=>bnd (oBin Tryz.prog .eql 2 false true r20.1 (.int .i64 0) r20.2) fun r21=>bnd (oUn Tryz.prog .not r21.1 r21.2) fun r22=>vIf r22.1 (oRes Tryz.prog [((.int .i64 6), none)] r22.2) (oRes Tryz.prog [((.int .i64 0), none)] r22.2)) (bnd (oUn Tryz.prog .not (.bool false) r18.2) fun r23=>vIf r23.1 (oRes Tryz.prog [((.int .i64 6), none)] r23.2) (oRes Tryz.prog [((.int .i64 0), none)] r23.2))))
theorem ref16_Check_om {x0 : Value} {W : AW} {r : Value × AW} (h : ref16_Check omS x0 W = some r) : omS (.func (.func 51) #[] #[]) [x0] W = some (gc W r) := om_of (nt := 28) (n := 1) (by kernel_rfl) (by kernel_rfl) rfl (Eq.trans (by kernel_rfl) h)
noncomputable def ref23_place_L1 (call : Eng.Callee) (R : Nat → Value) (W : AW) : Option LT := bnd (oBuiltin Tryz.prog .len #[64] 3 #[false] [(R 0)] W) fun r1=>bnd (oBin Tryz.prog .lss 3 false false (R 5) r1.1 r1.2) fun r2=>vIf r2.1 (bnd (ixS 1 (R 0) (R 5) r2.2) fun r3=>bnd (ldC r3.1 r3.2) fun r4=>bnd (oBin Tryz.prog .eql 51 false false r4.1 (R 1) r4.2) fun r5=>vIf r5.1 (some (X.ret, (puts R [(6,(R 5)),(7,(R 0)),(8,r1.1),(9,r2.1),(12,(R 0)),(13,(R 5)),(14,r3.1),(15,r4.1),(16,(R 1)),(17,r5.1),(18,(R 5)),(4,(R 5))]), r5.2)) (bnd (oBin Tryz.prog .add 3 false true (R 5) (.int .i64 1) r5.2) fun r6=>some (X.normal, (puts R [(6,(R 5)),(7,(R 0)),(8,r1.1),(9,r2.1),(12,(R 0)),(13,(R 5)),(14,r3.1),(15,r4.1),(16,(R 1)),(17,r5.1),(10,(R 5)),(11,r6.1),(5,r6.1)]), r6.2))) (some (X.exit 0, (puts R [(6,(R 5)),(7,(R 0)),(8,r1.1),(9,r2.1)]), r2.2))
noncomputable def ref23_place (call : Eng.Callee) (x0 x1 : Value) (W : AW) : Option (Value × AW) := bnd (loopO (ref23_place_L1 call) (puts (argGo 0 [x0, x1] PlanTab.blank) [(4,(.int .i64 0)),(5,(.int .i64 0))]) W) fun r7=>kExit 0 r7.1 (oRes Tryz.prog [((.int .i64 (-1)), none)] r7.2.2) (kRetX r7.1 (oRes Tryz.prog [((r7.2.1 4), none)] r7.2.2))
theorem ref23_place_om {x0 x1 : Value} {W : AW} {r : Value × AW} (h : ref23_place omS x0 x1 W = some r) : omS (.func (.func 52) #[] #[]) [x0, x1] W = some (gc W r) := om_of (nt := 19) (n := 2) (by kernel_rfl) (by kernel_rfl) rfl (Eq.trans (by kernel_rfl) h)
noncomputable def slices_IndexFuncapi_SeSeatapi_SeSeat_L1 (call : Eng.Callee) (R : Nat → Value) (W : AW) : Option LT := bnd (oBin Tryz.prog .lss 3 false false (R 8) (R 7) W) fun r2=>vIf r2.1 (bnd (ixS 5 (R 0) (R 8) r2.2) fun r3=>bnd (ldA 5 r3.1 r3.2) fun r4=>bnd (call (R 1) [r4.1] r4.2) fun r5=>vIf r5.1 (some (X.ret, (puts R [(9,r2.1),(10,(R 8)),(5,(R 8)),(11,(R 1)),(12,(R 0)),(13,(R 8)),(14,r3.1),(15,r4.1),(16,r5.1),(17,(R 8)),(4,(R 8))]), r5.2)) (bnd (oBin Tryz.prog .add 3 false true (R 8) (.int .i64 1) r5.2) fun r6=>some (X.normal, (puts R [(9,r2.1),(10,(R 8)),(5,(R 8)),(11,(R 1)),(12,(R 0)),(13,(R 8)),(14,r3.1),(15,r4.1),(16,r5.1),(18,r6.1),(8,r6.1)]), r6.2))) (some (X.exit 0, (rput R (some 9) r2.1), r2.2))
noncomputable def slices_IndexFuncapi_SeSeatapi_SeSeat (call : Eng.Callee) (x0 x1 : Value) (W : AW) : Option (Value × AW) := bnd (oBuiltin Tryz.prog .len #[25] 3 #[false] [x0] W) fun r1=>bnd (loopO (slices_IndexFuncapi_SeSeatapi_SeSeat_L1 call) (puts (argGo 0 [x0, x1] PlanTab.blank) [(4,(.int .i64 0)),(6,x0),(7,r1.1),(8,(.int .i64 0))]) r1.2) fun r7=>kExit 0 r7.1 (oRes Tryz.prog [((.int .i64 (-1)), none)] r7.2.2) (kRetX r7.1 (oRes Tryz.prog [((r7.2.1 4), none)] r7.2.2))
theorem slices_IndexFuncapi_SeSeatapi_SeSeat_om {x0 x1 : Value} {W : AW} {r : Value × AW} (h : slices_IndexFuncapi_SeSeatapi_SeSeat omS x0 x1 W = some r) : omS (.func (.func 79) #[] #[]) [x0, x1] W = some (gc W r) := om_of (nt := 19) (n := 2) (by kernel_rfl) (by kernel_rfl) rfl (Eq.trans (by kernel_rfl) h)
structure RpT where
  er : Int
  se : Int
  n : Int
  dl : Int
  t1 : Int
  t2 : Int
  t3 : Int
  t4 : Int
  pl : Int
structure EvT where
  id : Int
  th : Int
  ret : Bool
  op : OpT
  rp : RpT
structure HoT where
  id : Int
  th : Int
  fr : Int
  to : Int
  op : OpT
  rp : RpT
section
variable {W : AW} {b : Nat} {e : EvT} {h : HoT}
end
def flatAt {α : Type} (z : Nat) (f : α → List Value) (cs : List Value) (p : Nat) (e : α) : Prop := (cs.drop p).take z = f e
theorem flatAt_get {α : Type} {z : Nat} {f : α → List Value} {cs : List Value} {p : Nat} {e : α} (h : flatAt z f cs p e) {j : Nat} (hj : j < z) : cs[p + j]? = (f e)[j]? := by
  unfold flatAt at h
  rw [← h, List.getElem?_take, if_pos hj, List.getElem?_drop]
structure SeT where
  st : Int
  ow : Int
  dl : Int
  se : Int
  ep : Int
abbrev seC (x : SeT) : List Value := [.int .i64 x.st, .int .u32 x.ow, .int .i64 x.dl, .int .u64 x.se, .int .u64 x.ep]
abbrev seV (x : SeT) : Value := .agg #[.int .i64 x.st, .int .u32 x.ow, .int .i64 x.dl, .int .u64 x.se, .int .u64 x.ep]
theorem ldSe {b o : Nat} {cs : List Value} {x : Value} {W : AW} (h : W.get b = some (.cells cs)) (hv : cs[o]? = some x) : ldC (.pointer (some ⟨b, o, none⟩)) W = some (x, W) := ldC_ok (cellsAt_of h) hv
section
variable {W : AW} {b : Nat} {x : SeT}
theorem seB_st (h : W.get b = some (.cells (seC x))) : ldC (.pointer (some ⟨b, 0, none⟩)) W = some (.int .i64 x.st, W) := ldSe h rfl
theorem seB_ow (h : W.get b = some (.cells (seC x))) : ldC (.pointer (some ⟨b, 1, none⟩)) W = some (.int .u32 x.ow, W) := ldSe h rfl
theorem seB_dl (h : W.get b = some (.cells (seC x))) : ldC (.pointer (some ⟨b, 2, none⟩)) W = some (.int .i64 x.dl, W) := ldSe h rfl
end
theorem seBox (x : SeT) (W : AW) : oBox (seV x) W = some (.pointer (some ⟨W.next, 0, none⟩), W.add (.cells (seC x))) := oBox_agg _
def seE (x : SeT) : Int := if x.st = 1 then (if x.dl < 0 then 6 else 0) else if x.st = 0 then (if x.ow = 0 then (if x.dl = 0 then 0 else 6) else 6) else if x.st = 2 then (if x.dl = 0 then 0 else 6) else 6
theorem seCheck_ok (x : SeT) (W : AW) : omS (.func (.func 49) #[] #[]) [seV x] W = some (.int .i64 (seE x), W) := by
  refine om_drop rfl ?_ seats_Check_om
  unfold seats_Check
  have hg : (W.add (.cells (seC x))).get W.next = some (.cells (seC x)) := AW.get_add _ _
  have hle : Le W (W.add (.cells (seC x))) := (Le.refl _).add _
  simp only [SX, Nat.zero_add]
  generalize W.add (.cells (seC x)) = W1 at *
  unfold seE
  by_cases c1 : x.st = 1
  · have d1 := decide_eq_true c1
    rw [if_pos c1]
    by_cases c2 : x.dl < 0
    · have d2 := decide_eq_true c2
      simp only [SX, seB_dl hg, seB_st hg, d1, d2, if_pos c2, Ok_some]
      exact ⟨trivial, hle⟩
    · have d2 := decide_eq_false c2
      simp only [SX, seB_dl hg, seB_st hg, d1, d2, if_neg c2, Ok_some]
      exact ⟨trivial, hle⟩
  have d1 := decide_eq_false c1
  rw [if_neg c1]
  by_cases c0 : x.st = 0
  · have d0 := decide_eq_true c0
    rw [if_pos c0]
    by_cases c2 : x.ow = 0
    · have d2 := decide_eq_true c2
      rw [if_pos c2]
      by_cases c3 : x.dl = 0
      · have d3 := decide_eq_true c3
        simp only [SX, seB_dl hg, seB_st hg, d1, d0, seB_ow hg, d2, d3, if_pos c3, Ok_some]
        exact ⟨trivial, hle⟩
      · have d3 := decide_eq_false c3
        simp only [SX, seB_dl hg, seB_st hg, d1, d0, seB_ow hg, d2, d3, if_neg c3, Ok_some]
        exact ⟨trivial, hle⟩
    · have d2 := decide_eq_false c2
      rw [if_neg c2]
      simp only [SX, seB_dl hg, seB_st hg, d1, d0, seB_ow hg, d2, Ok_some]
      exact ⟨trivial, hle⟩
  have d0 := decide_eq_false c0
  rw [if_neg c0]
  by_cases c2 : x.st = 2
  · have d2 := decide_eq_true c2
    rw [if_pos c2]
    by_cases c3 : x.dl = 0
    · have d3 := decide_eq_true c3
      simp only [SX, seB_dl hg, seB_st hg, d1, d0, d2, d3, if_pos c3, Ok_some]
      exact ⟨trivial, hle⟩
    · have d3 := decide_eq_false c3
      simp only [SX, seB_dl hg, seB_st hg, d1, d0, d2, d3, if_neg c3, Ok_some]
      exact ⟨trivial, hle⟩
  · have d2 := decide_eq_false c2
    rw [if_neg c2]
    simp only [SX, seB_dl hg, seB_st hg, d1, d0, d2, Ok_some]
    exact ⟨trivial, hle⟩
theorem refSe_ok (x : SeT) (W : AW) : omS (.func (.func 51) #[] #[]) [seV x] W = some (.int .i64 (seE x), W) := by
  refine om_drop rfl ?_ ref16_Check_om
  unfold ref16_Check
  have hg : (W.add (.cells (seC x))).get W.next = some (.cells (seC x)) := AW.get_add _ _
  have hle : Le W (W.add (.cells (seC x))) := (Le.refl _).add _
  simp only [SX, Nat.zero_add]
  generalize W.add (.cells (seC x)) = W1 at *
  unfold seE
  by_cases c0 : x.st = 0
  · have d0 := decide_eq_true c0
    rw [if_neg (by omega), if_pos c0]
    by_cases c2 : x.ow = 0
    · have d2 := decide_eq_true c2
      rw [if_pos c2]
      by_cases c3 : x.dl = 0
      · have d3 := decide_eq_true c3
        simp only [SX, seB_dl hg, seB_st hg, d0, seB_ow hg, d2, d3, if_pos c3, Ok_some]
        exact ⟨trivial, hle⟩
      · have d3 := decide_eq_false c3
        simp only [SX, seB_dl hg, seB_st hg, d0, seB_ow hg, d2, d3, if_neg c3, Ok_some]
        exact ⟨trivial, hle⟩
    · have d2 := decide_eq_false c2
      rw [if_neg c2]
      simp only [SX, seB_dl hg, seB_st hg, d0, seB_ow hg, d2, Ok_some]
      exact ⟨trivial, hle⟩
  have d0 := decide_eq_false c0
  by_cases c1 : x.st = 1
  · have d1 := decide_eq_true c1
    rw [if_pos c1]
    by_cases c2 : x.dl < 0
    · have d2 : decide (0 ≤ x.dl) = false := decide_eq_false (by omega)
      simp only [SX, seB_dl hg, seB_st hg, d0, d1, d2, if_pos c2, Ok_some]
      exact ⟨trivial, hle⟩
    · have d2 : decide (0 ≤ x.dl) = true := decide_eq_true (by omega)
      simp only [SX, seB_dl hg, seB_st hg, d0, d1, d2, if_neg c2, Ok_some]
      exact ⟨trivial, hle⟩
  have d1 := decide_eq_false c1
  rw [if_neg c1, if_neg c0]
  by_cases c2 : x.st = 2
  · have d2 := decide_eq_true c2
    rw [if_pos c2]
    by_cases c3 : x.dl = 0
    · have d3 := decide_eq_true c3
      simp only [SX, seB_dl hg, seB_st hg, d1, d0, d2, d3, if_pos c3, Ok_some]
      exact ⟨trivial, hle⟩
    · have d3 := decide_eq_false c3
      simp only [SX, seB_dl hg, seB_st hg, d1, d0, d2, d3, if_neg c3, Ok_some]
      exact ⟨trivial, hle⟩
  · have d2 := decide_eq_false c2
    rw [if_neg c2]
    simp only [SX, seB_dl hg, seB_st hg, d1, d0, d2, Ok_some]
    exact ⟨trivial, hle⟩
theorem rd_row {α : Type} {W : AW} {z : Nat} {f : α → List Value} (hf : ∀ a, (f a).length = z) {v : Value} {l : List α} (h : Rd W z f v l) : Row W z (flatAt z f) v l := by
  obtain ⟨a, c, rfl, h⟩ := h
  refine ⟨a, c, rfl, ?_⟩
  rcases h with h | ⟨b, o, cs, h1, h2, h3, h4⟩
  · exact .inl h
  · refine .inr ⟨b, o, cs, h1, h2, h3, fun i hi => ?_⟩
    unfold flatAt
    have e0 : l.flatMap f = (l.take i).flatMap f ++ (f l[i] ++ (l.drop (i + 1)).flatMap f) := by
      rw [← List.flatMap_cons, ← List.drop_eq_getElem_cons hi, ← List.flatMap_append, List.take_append_drop]
    have e1 : ((l.take i).flatMap f).length = i * z := by rw [flatMap_len hf, List.length_take, Nat.min_eq_left (by omega)]
    have e2 : (((cs.drop o).take (l.length * z)).drop (i * z)).take z = f l[i] := by
      rw [h4, e0, ← e1, List.drop_left, ← hf l[i], List.take_left]
    have e3 : i * z + z ≤ l.length * z := by rw [← Nat.succ_mul]; exact Nat.mul_le_mul_right z hi
    rw [List.drop_take, List.drop_drop, List.take_take, Nat.min_eq_left (by omega)] at e2
    exact e2
theorem seC_len (x : SeT) : (seC x).length = 5 := rfl
def u32C (n : Int) : List Value := [.int .u32 n]
theorem u32C_len (n : Int) : (u32C n).length = 1 := rfl
abbrev SeR (W : AW) (v : Value) (l : List SeT) : Prop := Rd W 5 seC v l
abbrev OwR (W : AW) (v : Value) (l : List Int) : Prop := Rd W 1 u32C v l
theorem len25 : ((#[25] : Array TypeId)[0]?).bind Tryz.prog.underlying = some (.slice 103) := by kernel_rfl
theorem len197 : ((#[64] : Array TypeId)[0]?).bind Tryz.prog.underlying = some (.slice 51) := by kernel_rfl
theorem rd_len {α : Type} {z : Nat} {f : α → List Value} {W : AW} {v : Value} {l : List α} (h : Rd W z f v l) {ts : Array TypeId} {e : TypeId} (ht : (ts[0]?).bind Tryz.prog.underlying = some (.slice e)) (W' : AW) (ty : TypeId) (cf : Array Bool) : oBuiltin Tryz.prog .len ts ty cf [v] W' = some (.int .i64 (l.length : Int), W') := by
  obtain ⟨a, c, rfl, -⟩ := h
  exact len_slice ht _ _ _
theorem OwR.get {W : AW} {v : Value} {l : List Int} (h : OwR W v l) {i : Nat} (hi : i < l.length) : ∃ b o, (∀ W' k, ixS 1 v (.int k (i : Int)) W' = some (.pointer (some ⟨b, o, none⟩), W')) ∧ b < W.next ∧ ∀ W', W'.get b = W.get b → ldC (.pointer (some ⟨b, o, none⟩)) W' = some (.int .u32 l[i], W') := by
  obtain ⟨b, o, cs, h1, h2, h3, h4⟩ := (rd_row u32C_len h).elem hi
  exact ⟨b, o, h1, h2, fun W' hg => ldC_ok (by unfold cellsAt at h3 ⊢; rw [hg]; exact h3) ((flatAt_get h4 (j := 0) (by omega)).trans rfl)⟩
theorem SeR.get {W : AW} {v : Value} {l : List SeT} (h : SeR W v l) {i : Nat} (hi : i < l.length) : ∃ b o, (∀ W' k, ixS 5 v (.int k (i : Int)) W' = some (.pointer (some ⟨b, o, none⟩), W')) ∧ b < W.next ∧ ∀ W', W'.get b = W.get b → ldA 5 (.pointer (some ⟨b, o, none⟩)) W' = some (seV l[i], W') := by
  obtain ⟨b, o, cs, h1, h2, h3, h4⟩ := (rd_row seC_len h).elem hi
  refine ⟨b, o, h1, h2, fun W' hg => ?_⟩
  have hc : cellsAt W' b = some cs := by unfold cellsAt at h3 ⊢; rw [hg]; exact h3
  have e0 : (cs.drop o).take 5 = seC l[i] := h4
  have := ldA_ok (n := 5) (o := o) hc (by rw [e0]; rfl)
  rw [e0] at this
  exact this
section
variable {α : Type} {z : Nat} {f : α → List Value}
end
structure MdT where
  v : Ven
  now : Int
  st : List SeT
  qs : List (List Int)
abbrev ptV (b : Nat) : Value := .pointer (some ⟨b, 0, none⟩)
section
variable {W0 W W' : AW} {ob sb qb : Nat} {bq : Nat → Nat} {x x' : MdT} {sv : Value} {o : OpT} {s : Int}
end
def qlim (v : Ven) (k : Nat) : Int := ((v.secs[k]?).map (·.q)).getD 0
abbrev lst (x : MdT) (k : Nat) : List Int := x.qs.getD k []
section
variable {W0 W V : AW} {ob sb qb : Nat} {bq : Nat → Nat} {x x' : MdT} {sv : Value} {o : OpT} {s : Int}
end
theorem len105 : ((#[26] : Array TypeId)[0]?).bind Tryz.prog.underlying = some (.slice 64) := by kernel_rfl
theorem len22 : ((#[22] : Array TypeId)[0]?).bind Tryz.prog.underlying = some (.slice 63) := by kernel_rfl
section
variable {W : AW} {b ob : Nat} {sh ttl ses now seat sec ns nq : Int} {sv sq qq : Value} {o : OpT}
end
def owAt (W : AW) (cs : List Value) (p : Nat) (l : List Int) : Prop := ∃ u, cs[p]? = some u ∧ OwR W u l
abbrev QsR (W : AW) (v : Value) (qs : List (List Int)) : Prop := Row W 1 (owAt W) v qs
theorem QsR.mono {W W' : AW} {v : Value} {qs : List (List Int)} (h : QsR W v qs) (hle : Le W W') : QsR W' v qs :=
  Row.imp h hle fun cs p l ⟨u, h1, h2⟩ => ⟨u, h1, h2.keep hle⟩
theorem QsR.get {W : AW} {v : Value} {qs : List (List Int)} (h : QsR W v qs) {k : Nat} (hk : k < qs.length) : ∃ b o u, (∀ W' kk, ixS 1 v (.int kk (k : Int)) W' = some (.pointer (some ⟨b, o, none⟩), W')) ∧ b < W.next ∧ OwR W u qs[k] ∧ ∀ W', W'.get b = W.get b → ldC (.pointer (some ⟨b, o, none⟩)) W' = some (u, W') := by
  obtain ⟨b, o, cs, h1, h2, h3, u, h4, h5⟩ := h.elem hk
  exact ⟨b, o, u, h1, h2, h5, fun W' hg => ldC_ok (by unfold cellsAt at h3 ⊢; rw [hg]; exact h3) h4⟩
abbrev mdC (x : MdT) (sv sq qq : Value) : List Value := [.int .i64 x.v.sh, .int .i64 x.v.ttl, .int .i64 x.v.ses, sv, .int .i64 x.now, sq, qq]
abbrev mdV (x : MdT) (sv sq qq : Value) : Value := .agg #[.int .i64 x.v.sh, .int .i64 x.v.ttl, .int .i64 x.v.ses, sv, .int .i64 x.now, sq, qq]
theorem z4 : tZero Tryz.prog 4 = some (.bool false) := by kernel_rfl
section
variable {W0 W V : AW} {ob sb qb : Nat} {bq : Nat → Nat} {x x' : MdT} {sv : Value} {o : OpT} {s : Int}
end
def badQ (x : MdT) (k : Nat) : Int := if qlim x.v k < ((lst x k).length : Int) then 3 else if (lst x k).Nodup then 0 else 8
def qE (x : MdT) : Nat → Int
  | 0 => 0
  | k + 1 => if qE x k = 0 then badQ x k else qE x k
theorem qE_mono {x : MdT} {k n : Nat} (h : qE x k ≠ 0) (hn : k ≤ n) : qE x n = qE x k := by
  induction n with
  | zero => obtain rfl : k = 0 := by omega
            rfl
  | succ n ih =>
    by_cases e : k = n + 1
    · subst e; rfl
    · have := ih (by omega)
      show (if qE x n = 0 then badQ x n else qE x n) = _
      rw [if_neg (by rw [this]; exact h), this]
def seB (x : SeT) : Bool := !decide (seE x = 0)
def mdE (x : MdT) : Int := if (seatsE x.v).2 = 0 then (if x.now < 0 then 7 else if (x.st.length : Int) ≠ (seatsE x.v).1 then 6 else if x.qs.length ≠ x.v.secs.length then 6 else if x.st.any seB = true then 6 else qE x x.qs.length) else (seatsE x.v).2
theorem chk1_ok (y : SeT) (W : AW) : omS (.func (.func 48) #[] #[]) [seV y] W = some (.bool (seB y), W) := by
  refine om_drop rfl ?_ model_Check_1_om
  unfold model_Check_1 seB
  simp (maxDischargeDepth := 9) only [SX, MX, HX, Nat.reduceAdd, seCheck_ok]
theorem idxSe_ok {f v : Value} {p : SeT → Bool} {l : List SeT} {W : AW} (h : SeR W v l) (hl : l.length ≤ 10000) (hp : ∀ y, omS f [seV y] W = some (.bool (p y), W)) : omS (.func (.func 79) #[] #[]) [v, f] W = some (.int .i64 (idxI p l), W) := by
  refine om_drop rfl ?_ slices_IndexFuncapi_SeSeatapi_SeSeat_om
  unfold slices_IndexFuncapi_SeSeatapi_SeSeat
  simp only [SX, rd_len h len25]
  refine Ok_loop l.length (by omega) (fun k R W' => W' = W ∧ R 0 = v ∧ R 1 = f ∧ R 7 = .int .i64 (l.length : Int) ∧ R 8 = .int .i64 (k : Int) ∧ (l.take k).any p = false)
    (fun r => r.2.2 = W ∧ ((r.1 = .exit 0 ∧ idxI p l = -1) ∨ (r.1 = .ret ∧ r.2.1 4 = .int .i64 (idxI p l)))) ⟨rfl, rfl, rfl, rfl, rfl, rfl⟩ ?_ ?_ ?_
  · rintro k R W' hk ⟨rfl, h0, h1, h7, h8, ha⟩
    unfold slices_IndexFuncapi_SeSeatapi_SeSeat_L1
    obtain ⟨b, o, g1, -, g2⟩ := SeR.get h hk
    have e1 : ((k : Int) < (l.length : Int)) := by omega
    have e2 : (k : Int) + 1 = ((k + 1 : Nat) : Int) := by omega
    have ea := oBinAddT W' k 1
    simp only [SX, h0, h1, h7, h8, e1, g1, g2 _ rfl, hp]
    cases hx : p l[k]
    · simp only [SX, ea, Ok_some]
      exact .inl ⟨trivial, trivial, h0, h1, h7, by rw [← e2]; rfl, any_take hk hx ha⟩
    · simp only [SX, Ok_some]
      exact .inr ⟨by simp, trivial, .inr ⟨trivial, by rw [idxI_some hk hx ha]; rfl⟩⟩
  · rintro R W' ⟨rfl, h0, h1, h7, h8, ha⟩
    unfold slices_IndexFuncapi_SeSeatapi_SeSeat_L1
    have e1 : ¬ ((l.length : Int) < (l.length : Int)) := by omega
    rw [List.take_length] at ha
    simp only [SX, h7, h8, e1, Ok_some]
    exact ⟨by simp, trivial, .inl ⟨trivial, idxI_none ha⟩⟩
  · rintro ⟨y, R, W'⟩ ⟨hW, hq⟩
    simp only at hW hq
    subst hW
    rcases hq with ⟨rfl, hq⟩ | ⟨rfl, h4⟩
    · simp (maxDischargeDepth := 9) only [SX, MX, HX, hq]
    · simp (maxDischargeDepth := 9) only [SX, MX, HX, h4]
theorem hasSe_ok {W : AW} {v : Value} {l : List SeT} (h : SeR W v l) (hl : l.length ≤ 10000) : omS (.func (.func 47) #[] #[]) [v, .func (.func 48) #[] #[]] W = some (.bool (l.any seB), W) := by
  refine om_drop rfl ?_ slices_ContainsFuncapi_SeSeatapi_SeSeat_om
  unfold slices_ContainsFuncapi_SeSeatapi_SeSeat
  simp (maxDischargeDepth := 9) only [SX, MX, HX, idxSe_ok h hl (fun y => chk1_ok y W), idxI_pos]
theorem u322 : Tryz.prog.underlying 106 = some (.map 51 4) := by kernel_rfl
theorem u35 : Tryz.prog.underlying 51 = some (.int .u32) := by kernel_rfl
theorem mkm322 (W : AW) : oMkMap Tryz.prog 106 none W = some (.map (some W.next), W.add (.map [] 0)) := Eq.trans (by kernel_rfl) rfl
theorem met_ok {R : PlanTab.Fr} {U : AW} {r : Nat} {n : Nat} {qv v1 v46 v47 v48 : Value} {l : List Int} {K : LT → Option LT} {G : LT → Prop} (hq : OwR U qv l) (hn : l.length = n) (hn2 : n ≤ 10000) (hr : r = U.next)
    (r1 : R 1 = v1) (r46 : R 46 = v46) (r47 : R 47 = v47) (r48 : R 48 = v48) (r7 : R 7 = .map (some r)) (r64 : R 64 = qv) (r65 : R 65 = .int .i64 (n : Int)) (r66 : R 66 = .int .i64 0)
    (hK : ∀ R' V x, Le U V → ((x = .exit 3 ∧ l.Nodup ∧ R' 1 = v1 ∧ R' 46 = v46 ∧ R' 47 = v47 ∧ R' 48 = v48) ∨ (x = .ret ∧ ¬ l.Nodup ∧ R' 2 = .int .i64 8)) → Ok (K (x, R', V)) G) : Ok (bnd (loopO (model_Check_L1_L2 omS) R (U.add (.map [] 0))) K) G := by
  subst hr
  refine Ok_loop n (by omega) (fun k R V => Le U V ∧ R 1 = v1 ∧ R 46 = v46 ∧ R 47 = v47 ∧ R 48 = v48 ∧ R 7 = .map (some U.next) ∧ R 64 = qv ∧ R 65 = .int .i64 (n : Int) ∧ R 66 = .int .i64 (k : Int) ∧ (l.take k).Nodup ∧ ∃ c, MapU V U.next (fun z => if z ∈ l.take k then some (.bool true) else none) c)
    (fun r => Le U r.2.2 ∧ ((r.1 = .exit 3 ∧ l.Nodup ∧ r.2.1 1 = v1 ∧ r.2.1 46 = v46 ∧ r.2.1 47 = v47 ∧ r.2.1 48 = v48) ∨ (r.1 = .ret ∧ ¬ l.Nodup ∧ r.2.1 2 = .int .i64 8)))
    ⟨(Le.refl _).add _, r1, r46, r47, r48, r7, r64, r65, r66, by simp, 0, by simpa using mapU_new⟩ ?_ ?_ ?_
  · rintro k R V hk ⟨hle, r1, r46, r47, r48, r7, r64, r65, r66, hnd, c, hm⟩
    unfold model_Check_L1_L2
    have hkl : k < l.length := by omega
    have t1 : decide ((k : Int) < (n : Int)) = true := decide_eq_true (by omega)
    have t2 := fun W' => oBinAddT W' k 1
    have e3 : ((k + 1 : Nat) : Int) = (k : Int) + 1 := by omega
    obtain ⟨b, o, g1, g2, g3⟩ := OwR.get hq hkl
    have lk := g3 V (hle.get _ g2)
    have hg := mapU_get hm u322 u35 z4 l[k]
    have etk : l.take (k + 1) = l.take k ++ [l[k]] := List.take_succ_eq_append_getElem hkl
    by_cases c0 : l[k] ∈ l.take k
    · rw [if_pos c0] at hg
      simp only [SX, r7, r64, r65, r66, t1, g1, lk, hg, Option.getD_some, Ok_some]
      refine .inr ⟨by simp, hle, .inr ⟨trivial, fun hn => ?_, rfl⟩⟩
      have h1 : (l.take (k + 1)).Nodup := hn.sublist (List.take_sublist _ _)
      rw [etk, List.nodup_append] at h1
      exact h1.2.2 _ c0 _ (by simp) rfl
    · rw [if_neg c0] at hg
      obtain ⟨es, cc, k1, k2⟩ := mapU_set hm u322 u35 l[k] (.bool true)
      simp only [SX, r7, r64, r65, r66, t1, g1, lk, hg, Option.getD_none, k1, t2, Ok_some]
      refine .inl ⟨trivial, hle.put (Nat.le_refl _) _, r1, r46, r47, r48, r7, r64, r65, by rw [e3]; rfl, ?_, (if (if l[k] ∈ l.take k then some (Value.bool true) else none).isSome then c else c + 1), ?_⟩
      · rw [etk, List.nodup_append]
        refine ⟨hnd, by simp, fun a ha b hb => ?_⟩
        rw [List.mem_singleton] at hb
        subst hb
        exact fun e => c0 (e ▸ ha)
      · have e : (fun z => if z ∈ l.take (k + 1) then some (Value.bool true) else none) = fun z => if z = l[k] then some (Value.bool true) else (if z ∈ l.take k then some (.bool true) else none) := by
          funext z
          rw [etk]
          by_cases h1 : z = l[k]
          · rw [if_pos h1, if_pos (by rw [h1]; exact List.mem_append_right _ (List.mem_singleton_self _))]
          · rw [if_neg h1]
            simp only [List.mem_append, List.mem_singleton, h1, or_false]
        rw [e]
        exact k2
  · rintro R V ⟨hle, r1, r46, r47, r48, r7, r64, r65, r66, hnd, c, hm⟩
    unfold model_Check_L1_L2
    have t1 : decide ((n : Int) < (n : Int)) = false := decide_eq_false (by omega)
    rw [← hn, List.take_length] at hnd
    simp only [SX, r65, r66, t1, Ok_some]
    exact ⟨by simp, hle, .inl ⟨trivial, hnd, r1, r46, r47, r48⟩⟩
  · rintro ⟨e, R, V⟩ ⟨h1, h2⟩
    exact hK R V e h1 h2
theorem mdCheck_ok {W : AW} {x : MdT} {sv sq qq : Value} (hs : SecsC W sv x.v.secs) (hv : x.v.secs.length < 1000) (hse : SeR W sq x.st) (hq : QsR W qq x.qs) (hn : x.st.length ≤ 10000) (hqn : x.qs.length ≤ 10000) (hl : ∀ l ∈ x.qs, l.length ≤ 10000) :
    omS (.func (.func 19) #[] #[]) [mdV x sv sq qq] W = some (.int .i64 (mdE x), W) := by
  refine om_drop rfl ?_ model_Check_om
  unfold model_Check mdE
  obtain ⟨V, hV⟩ : ∃ V, V = W.add (.cells (mdC x sv sq qq)) := ⟨_, rfl⟩
  have hle : Le W V := by rw [hV]; exact (Le.refl W).add _
  have g1 : V.get W.next = some (.cells (mdC x sv sq qq)) := by rw [hV]; exact AW.get_add _ _
  have nV : V.next = W.next + 1 := by rw [hV]; rfl
  have l4 : ldA 4 (.pointer (some ⟨W.next, 0, none⟩)) V = some (venV x.v sv, V) := ldA_ok (cellsAt_of g1) rfl
  have l3 : ∀ U, Le V U → ldC (.pointer (some ⟨W.next, 3, none⟩)) U = some (sv, U) := fun U hU => ldC_ok (cellsAt_of ((hU.get _ (by omega)).trans g1)) rfl
  have ln : ldC (.pointer (some ⟨W.next, 4, none⟩)) V = some (.int .i64 x.now, V) := ldC_ok (cellsAt_of g1) rfl
  have l5 : ldC (.pointer (some ⟨W.next, 5, none⟩)) V = some (sq, V) := ldC_ok (cellsAt_of g1) rfl
  have l6 : ldC (.pointer (some ⟨W.next, 6, none⟩)) V = some (qq, V) := ldC_ok (cellsAt_of g1) rfl
  have hst := seats_ok (W := V) (hs.mono hle) hv
  simp only [SX]
  rw [← hV]
  clear hV
  simp only [SX, Nat.zero_add, l4, hst]
  by_cases c1 : (seatsE x.v).2 = 0
  case neg =>
    have d := decide_eq_false c1
    simp only [SX, d, if_neg c1, Ok_some]
    exact ⟨trivial, hle⟩
  have d1 := decide_eq_true c1
  rw [if_pos c1]
  by_cases c2 : x.now < 0
  · have d := decide_eq_true c2
    simp only [SX, d1, ln, d, if_pos c2, Ok_some]
    exact ⟨trivial, hle⟩
  have d2 := decide_eq_false c2
  rw [if_neg c2]
  have lq := Row.len hq len105
  have lse := rd_len hse len25
  by_cases c3 : (x.st.length : Int) ≠ (seatsE x.v).1
  · have d := decide_eq_false c3
    simp only [SX, d1, ln, d2, l5, lse, d, if_pos c3, Ok_some]
    exact ⟨trivial, hle⟩
  have d3 : decide ((x.st.length : Int) = (seatsE x.v).1) = true := decide_eq_true (Decidable.not_not.1 c3)
  rw [if_neg c3]
  by_cases c4 : x.qs.length ≠ x.v.secs.length
  · have d : decide ((x.qs.length : Int) = (x.v.secs.length : Int)) = false := decide_eq_false (by omega)
    simp only [SX, d1, Nat.zero_add, ln, d2, l5, lse, d3, l6, lq, l3 _ (Le.refl _), Row.len hs.1 len22, d, if_pos c4, Ok_some]
    exact ⟨trivial, hle⟩
  have d4 : decide ((x.qs.length : Int) = (x.v.secs.length : Int)) = true := decide_eq_true (by omega)
  rw [if_neg c4]
  by_cases c5 : x.st.any seB = true
  · simp only [SX, d1, Nat.zero_add, ln, d2, l5, lse, d3, l6, lq, l3 _ (Le.refl _), Row.len hs.1 len22, d4, hasSe_ok (hse.keep hle) hn, c5, if_true, Ok_some]
    exact ⟨trivial, hle⟩
  have c5' : x.st.any seB = false := Bool.eq_false_iff.2 c5
  rw [if_neg c5]
  simp only [SX, d1, Nat.zero_add, ln, d2, l5, lse, d3, l6, lq, l3 _ (Le.refl _), Row.len hs.1 len22, d4, hasSe_ok (hse.keep hle) hn, c5']
  refine Ok_loop x.qs.length (by omega) (fun k R U => Le V U ∧ R 1 = ptV W.next ∧ R 46 = qq ∧ R 47 = .int .i64 (x.qs.length : Int) ∧ R 48 = .int .i64 (k : Int) ∧ qE x k = 0)
    (fun r => Le V r.2.2 ∧ ((r.1 = .exit 1 ∧ qE x x.qs.length = 0) ∨ (r.1 = .ret ∧ r.2.1 2 = .int .i64 (qE x x.qs.length)))) ⟨Le.refl _, rfl, rfl, rfl, rfl, rfl⟩ ?_ ?_ ?_
  · rintro k R U hk ⟨hU, r1, r46, r47, r48, hz⟩
    unfold model_Check_L1
    have t1 : decide ((k : Int) < (x.qs.length : Int)) = true := decide_eq_true (by omega)
    have t2 := fun W' => oBinAddT W' k 1
    have e3 : ((k + 1 : Nat) : Int) = (k : Int) + 1 := by omega
    obtain ⟨b, i, u, p1, p2, p3, p4⟩ := hq.get hk
    have lu := p4 U ((hle.trans hU).get _ p2)
    have hks : k < x.v.secs.length := by omega
    obtain ⟨b', i', rv, s1, -, -, -, -, s5⟩ := Secs.get hs.1 hks
    have e0 : x.qs[k] = lst x k := by simp [lst, List.getElem?_eq_getElem hk]
    have eq0 : x.v.secs[k].q = qlim x.v k := by unfold qlim; rw [List.getElem?_eq_getElem hks]; rfl
    have s5' := s5 U (hle.trans hU)
    rw [eq0] at s5'
    rw [e0] at p3
    have ul := rd_len p3 len197
    have hstep : qE x (k + 1) = badQ x k := by
      show (if qE x k = 0 then badQ x k else qE x k) = _
      rw [if_pos hz]
    by_cases c6 : qlim x.v k < ((lst x k).length : Int)
    · have d := decide_eq_true c6
      simp only [SX, r1, r46, r47, r48, t1, p1, lu, ul, Nat.zero_add, l3 _ hU, s1, s5', d, Ok_some]
      have hb : badQ x k = 3 := if_pos c6
      refine .inr ⟨by simp, hU, .inr ⟨trivial, ?_⟩⟩
      rw [qE_mono (k := k + 1) (by rw [hstep, hb]; decide) (by omega), hstep, hb]
      rfl
    · have d := decide_eq_false c6
      simp only [SX, r1, r46, r47, r48, t1, p1, lu, ul, Nat.zero_add, l3 _ hU, s1, s5', d, mkm322]
      refine met_ok (U := U) (r := U.next) (n := (lst x k).length) (qv := u) (v1 := ptV W.next) (v46 := qq) (v47 := .int .i64 (x.qs.length : Int)) (v48 := .int .i64 (k : Int)) (p3.keep (hle.trans hU)) rfl (by rw [← e0]; exact hl _ (List.getElem_mem _)) rfl r1 r46 r47 r48 rfl rfl rfl rfl ?_
      intro R' V' e hV' hr
      rcases hr with ⟨rfl, hnd, q1, q46, q47, q48⟩ | ⟨rfl, hnd, q2⟩
      · have hb : badQ x k = 0 := by unfold badQ; rw [if_neg c6, if_pos hnd]
        simp only [SX, q48, t2, Ok_some]
        exact .inl ⟨trivial, hU.trans hV', q1, q46, q47, by rw [e3]; rfl, by rw [hstep, hb]⟩
      · have hb : badQ x k = 8 := by unfold badQ; rw [if_neg c6, if_neg hnd]
        simp only [SX, Ok_some]
        refine .inr ⟨by simp, hU.trans hV', .inr ⟨trivial, ?_⟩⟩
        rw [qE_mono (k := k + 1) (by rw [hstep, hb]; decide) (by omega), hstep, hb]
        exact q2
  · rintro R U ⟨hU, r1, r46, r47, r48, hz⟩
    unfold model_Check_L1
    have t1 : decide ((x.qs.length : Int) < (x.qs.length : Int)) = false := decide_eq_false (by omega)
    simp only [SX, r47, r48, t1, Ok_some]
    exact ⟨by simp, hU, .inl ⟨trivial, hz⟩⟩
  · rintro ⟨e, R, U⟩ ⟨hU, hr⟩
    rcases hr with ⟨rfl, hz⟩ | ⟨rfl, hz⟩
    · simp only [SX, hz, Ok_some]
      exact ⟨trivial, hle.trans hU⟩
    · simp only at hz
      simp only [SX, hz, Ok_some]
      exact ⟨trivial, hle.trans hU⟩
theorem place_lt {l : List Int} {k : Nat} (hk : k < l.length) : idxI (fun y => decide (l[k] = y)) l < (k : Int) ↔ l[k] ∈ l.take k := by
  have hp : (fun y => decide (l[k] = y)) l[k] = true := by simp
  have hf : l.findIdx (fun y => decide (l[k] = y)) < l.length := List.findIdx_lt_length.2 ⟨l[k], List.getElem_mem hk, hp⟩
  have e : idxI (fun y => decide (l[k] = y)) l = ((l.findIdx fun y => decide (l[k] = y) : Nat) : Int) := by
    unfold idxI
    rw [List.findIdx?_eq_some_iff_findIdx_eq.2 ⟨hf, rfl⟩]
  rw [e]
  constructor
  · intro h
    have h1 := List.findIdx_getElem (w := hf)
    have h2 : l[k] = l[l.findIdx fun y => decide (l[k] = y)] := of_decide_eq_true h1
    rw [List.mem_take_iff_getElem]
    exact ⟨_, by omega, h2.symm⟩
  · intro h
    rw [List.mem_take_iff_getElem] at h
    obtain ⟨j, hj, e2⟩ := h
    rcases Nat.lt_or_ge (l.findIdx fun y => decide (l[k] = y)) k with h | h
    · omega
    · have h3 := List.not_of_lt_findIdx (p := fun y => decide (l[k] = y)) (xs := l) (i := j) (by omega)
      exfalso
      exact of_decide_eq_false h3 e2.symm
theorem rPlace_ok {W : AW} {v : Value} {l : List Int} (h : OwR W v l) (hl : l.length ≤ 10000) (x : Int) : omS (.func (.func 52) #[] #[]) [v, .int .u32 x] W = some (.int .i64 (idxI (fun y => decide (x = y)) l), W) := by
  refine om_drop rfl ?_ ref23_place_om
  unfold ref23_place
  refine Ok_loop l.length (by omega) (fun k R W' => W' = W ∧ R 0 = v ∧ R 1 = .int .u32 x ∧ R 5 = .int .i64 (k : Int) ∧ (l.take k).any (fun y => decide (x = y)) = false)
    (fun r => r.2.2 = W ∧ ((r.1 = .exit 0 ∧ idxI (fun y => decide (x = y)) l = -1) ∨ (r.1 = .ret ∧ r.2.1 4 = .int .i64 (idxI (fun y => decide (x = y)) l)))) ⟨rfl, rfl, rfl, rfl, rfl⟩ ?_ ?_ ?_
  · rintro k R W' hk ⟨rfl, h0, h1, h5, ha⟩
    unfold ref23_place_L1
    obtain ⟨b, o, g1, -, g2⟩ := OwR.get h hk
    have e1 : ((k : Int) < (l.length : Int)) := by omega
    have e2 : (k : Int) + 1 = ((k + 1 : Nat) : Int) := by omega
    have ea := oBinAddT W' k 1
    have lv := rd_len h len197
    by_cases hx : x = l[k]
    · have d : decide (l[k] = x) = true := decide_eq_true hx.symm
      simp only [SX, h0, h1, h5, lv, e1, g1, g2 _ rfl, d, Ok_some]
      exact .inr ⟨by simp, trivial, .inr ⟨trivial, by rw [idxI_some hk (decide_eq_true hx) ha]; rfl⟩⟩
    · have d : decide (l[k] = x) = false := decide_eq_false fun e => hx e.symm
      simp only [SX, h0, h1, h5, lv, e1, g1, g2 _ rfl, d, ea, Ok_some]
      exact .inl ⟨trivial, trivial, h0, h1, by rw [← e2]; rfl, any_take hk (decide_eq_false hx) ha⟩
  · rintro R W' ⟨rfl, h0, h1, h5, ha⟩
    unfold ref23_place_L1
    have e1 : ¬ ((l.length : Int) < (l.length : Int)) := by omega
    rw [List.take_length] at ha
    simp only [SX, h0, h5, rd_len h len197, e1, Ok_some]
    exact ⟨by simp, trivial, .inl ⟨trivial, idxI_none ha⟩⟩
  · rintro ⟨y, R, W'⟩ ⟨hW, hq⟩
    simp only at hW hq
    subst hW
    rcases hq with ⟨rfl, hq⟩ | ⟨rfl, h4⟩
    · simp (maxDischargeDepth := 9) only [SX, MX, HX, hq]
    · simp (maxDischargeDepth := 9) only [SX, MX, HX, h4]
theorem rDup_ok {R : PlanTab.Fr} {U : AW} {qv v1 v6 : Value} {l : List Int} {K : LT → Option LT} {G : LT → Prop} (hq : OwR U qv l) (hn2 : l.length ≤ 10000)
    (r1 : R 1 = v1) (r6 : R 6 = v6) (r7 : R 7 = qv) (r8 : R 8 = .int .i64 0)
    (hK : ∀ R' x, ((x = .exit 4 ∧ l.Nodup ∧ R' 1 = v1 ∧ R' 6 = v6) ∨ (x = .ret ∧ ¬ l.Nodup ∧ R' 2 = .int .i64 8)) → Ok (K (x, R', U)) G) : Ok (bnd (loopO (ref23_Check_L2_L3 omS) R U) K) G := by
  refine Ok_loop l.length (by omega) (fun k R V => V = U ∧ R 1 = v1 ∧ R 6 = v6 ∧ R 7 = qv ∧ R 8 = .int .i64 (k : Int) ∧ (l.take k).Nodup)
    (fun r => r.2.2 = U ∧ ((r.1 = .exit 4 ∧ l.Nodup ∧ r.2.1 1 = v1 ∧ r.2.1 6 = v6) ∨ (r.1 = .ret ∧ ¬ l.Nodup ∧ r.2.1 2 = .int .i64 8)))
    ⟨rfl, r1, r6, r7, r8, by simp⟩ ?_ ?_ ?_
  · rintro k R V hk ⟨rfl, r1, r6, r7, r8, hnd⟩
    unfold ref23_Check_L2_L3
    have t1 : decide ((k : Int) < (l.length : Int)) = true := decide_eq_true (by omega)
    have t2 := fun W' => oBinAddT W' k 1
    have e3 : ((k + 1 : Nat) : Int) = (k : Int) + 1 := by omega
    obtain ⟨b, o, g1, g2, g3⟩ := OwR.get hq hk
    have lk := g3 V rfl
    have lv := rd_len hq len197
    have hp := rPlace_ok hq hn2 l[k]
    have etk : l.take (k + 1) = l.take k ++ [l[k]] := List.take_succ_eq_append_getElem hk
    by_cases c0 : l[k] ∈ l.take k
    · have d := decide_eq_true ((place_lt hk).2 c0)
      simp only [SX, r7, r8, lv, t1, g1, lk, hp, d, Ok_some]
      refine .inr ⟨by simp, trivial, .inr ⟨trivial, fun hn => ?_, rfl⟩⟩
      have h1 : (l.take (k + 1)).Nodup := hn.sublist (List.take_sublist _ _)
      rw [etk, List.nodup_append] at h1
      exact h1.2.2 _ c0 _ (by simp) rfl
    · have d := decide_eq_false fun e => c0 ((place_lt hk).1 e)
      simp only [SX, r7, r8, lv, t1, g1, lk, hp, d, t2, Ok_some]
      refine .inl ⟨trivial, trivial, r1, r6, r7, by rw [e3]; rfl, ?_⟩
      rw [etk, List.nodup_append]
      refine ⟨hnd, by simp, fun a ha b hb => ?_⟩
      rw [List.mem_singleton] at hb
      subst hb
      exact fun e => c0 (e ▸ ha)
  · rintro R V ⟨rfl, r1, r6, r7, r8, hnd⟩
    unfold ref23_Check_L2_L3
    have t1 : decide ((l.length : Int) < (l.length : Int)) = false := decide_eq_false (by omega)
    rw [List.take_length] at hnd
    simp only [SX, r7, r8, rd_len hq len197, t1, Ok_some]
    exact ⟨by simp, trivial, .inl ⟨trivial, hnd, r1, r6⟩⟩
  · rintro ⟨e, R, V⟩ ⟨h1, h2⟩
    simp only at h1 h2
    subst h1
    exact hK R e h2
theorem seB_not {y : SeT} : seB y = true ↔ seE y ≠ 0 := by unfold seB; simp
theorem rCheck2_ok {W : AW} {x : MdT} {sv sq qq : Value} (hs : SecsC W sv x.v.secs) (hv : x.v.secs.length < 1000) (hr : ∀ s ∈ x.v.secs, s.rows.length < 1000) (hse : SeR W sq x.st) (hq : QsR W qq x.qs) (hn : x.st.length ≤ 10000) (hqn : x.qs.length ≤ 10000) (hl : ∀ l ∈ x.qs, l.length ≤ 10000) :
    omS (.func (.func 22) #[] #[]) [mdV x sv sq qq] W = some (.int .i64 (mdE x), W) := by
  refine om_drop rfl ?_ ref23_Check_om
  unfold ref23_Check mdE
  obtain ⟨V, hV⟩ : ∃ V, V = W.add (.cells (mdC x sv sq qq)) := ⟨_, rfl⟩
  have hle : Le W V := by rw [hV]; exact (Le.refl W).add _
  have g1 : V.get W.next = some (.cells (mdC x sv sq qq)) := by rw [hV]; exact AW.get_add _ _
  have nV : V.next = W.next + 1 := by rw [hV]; rfl
  have l4 : ldA 4 (.pointer (some ⟨W.next, 0, none⟩)) V = some (venV x.v sv, V) := ldA_ok (cellsAt_of g1) rfl
  have l3 : ldC (.pointer (some ⟨W.next, 3, none⟩)) V = some (sv, V) := ldC_ok (cellsAt_of g1) rfl
  have ln : ldC (.pointer (some ⟨W.next, 4, none⟩)) V = some (.int .i64 x.now, V) := ldC_ok (cellsAt_of g1) rfl
  have l5 : ldC (.pointer (some ⟨W.next, 5, none⟩)) V = some (sq, V) := ldC_ok (cellsAt_of g1) rfl
  have l6 : ldC (.pointer (some ⟨W.next, 6, none⟩)) V = some (qq, V) := ldC_ok (cellsAt_of g1) rfl
  have hst := refSeats_ok (W := V) (hs.mono hle).1 hv hr
  simp only [SX]
  rw [← hV]
  clear hV
  simp only [SX, Nat.zero_add, l4, hst]
  by_cases c1 : (seatsE x.v).2 = 0
  case neg =>
    have d := decide_eq_false c1
    simp only [SX, d, if_neg c1, Ok_some]
    exact ⟨trivial, hle⟩
  have d1 := decide_eq_true c1
  rw [if_pos c1]
  by_cases c2 : x.now < 0
  · have d := decide_eq_true c2
    simp only [SX, d1, ln, d, if_pos c2, Ok_some]
    exact ⟨trivial, hle⟩
  have d2 := decide_eq_false c2
  rw [if_neg c2]
  have lq := Row.len hq len105
  have lse := rd_len hse len25
  by_cases c3 : (x.st.length : Int) ≠ (seatsE x.v).1
  · have d := decide_eq_false c3
    simp only [SX, d1, ln, d2, l5, lse, d, if_pos c3, Ok_some]
    exact ⟨trivial, hle⟩
  have d3 : decide ((x.st.length : Int) = (seatsE x.v).1) = true := decide_eq_true (Decidable.not_not.1 c3)
  rw [if_neg c3]
  by_cases c4 : x.qs.length ≠ x.v.secs.length
  · have d : decide ((x.qs.length : Int) = (x.v.secs.length : Int)) = false := decide_eq_false (by omega)
    simp only [SX, d1, Nat.zero_add, ln, d2, l5, lse, d3, l6, lq, l3, Row.len hs.1 len22, d, if_pos c4, Ok_some]
    exact ⟨trivial, hle⟩
  have d4 : decide ((x.qs.length : Int) = (x.v.secs.length : Int)) = true := decide_eq_true (by omega)
  rw [if_neg c4]
  simp only [SX, d1, Nat.zero_add, ln, d2, l5, lse, d3, l6, lq, l3, Row.len hs.1 len22, d4]
  have e5 : (seatsE x.v).1 = (x.st.length : Int) := by omega
  refine Ok_loop x.st.length (by omega) (fun k R U => U = V ∧ R 1 = ptV W.next ∧ R 3 = .int .i64 (x.st.length : Int) ∧ R 5 = .int .i64 (k : Int) ∧ (x.st.take k).any seB = false)
    (fun r => r.2.2 = V ∧ r.2.1 1 = ptV W.next ∧ ((r.1 = .exit 0 ∧ x.st.any seB = false) ∨ (r.1 = .ret ∧ x.st.any seB = true ∧ r.2.1 2 = .int .i64 6))) ⟨rfl, rfl, by rw [← e5]; rfl, rfl, rfl⟩ ?_ ?_ ?_
  · rintro k R U hk ⟨rfl, r1, r3, r5, ha⟩
    unfold ref23_Check_L1
    have t1 : decide ((k : Int) < (x.st.length : Int)) = true := decide_eq_true (by omega)
    have t2 := fun W' => oBinAddT W' k 1
    have e3 : ((k + 1 : Nat) : Int) = (k : Int) + 1 := by omega
    obtain ⟨b, o, p1, p2, p3⟩ := SeR.get (hse.keep hle) hk
    by_cases c6 : seE x.st[k] = 0
    · have d := decide_eq_true c6
      have hx : seB x.st[k] = false := by unfold seB; rw [d]; rfl
      simp only [SX, r1, r3, r5, t1, Nat.zero_add, l5, p1, p3 _ rfl, refSe_ok, d, t2, Ok_some]
      exact .inl ⟨trivial, trivial, r1, r3, by rw [e3]; rfl, any_take hk hx ha⟩
    · have d := decide_eq_false c6
      simp only [SX, r1, r3, r5, t1, Nat.zero_add, l5, p1, p3 _ rfl, refSe_ok, d, Ok_some]
      exact .inr ⟨by simp, trivial, r1, .inr ⟨trivial, List.any_eq_true.2 ⟨_, List.getElem_mem hk, seB_not.2 c6⟩, rfl⟩⟩
  · rintro R U ⟨rfl, r1, r3, r5, ha⟩
    unfold ref23_Check_L1
    have t1 : decide ((x.st.length : Int) < (x.st.length : Int)) = false := decide_eq_false (by omega)
    rw [List.take_length] at ha
    simp only [SX, r3, r5, t1, Ok_some]
    exact ⟨by simp, trivial, r1, .inl ⟨trivial, ha⟩⟩
  rintro ⟨e, R, U⟩ ⟨h1, h2, h3⟩
  simp only at h1 h2 h3
  subst h1
  rcases h3 with ⟨rfl, ha⟩ | ⟨rfl, ha, r2⟩
  case inr =>
    simp only [SX, r2, if_pos ha, Ok_some]
    exact ⟨trivial, hle⟩
  rw [if_neg (by rw [ha]; decide)]
  simp only [SX]
  refine Ok_loop x.qs.length (by omega) (fun k R W' => W' = U ∧ R 1 = ptV W.next ∧ R 6 = .int .i64 (k : Int) ∧ qE x k = 0)
    (fun r => r.2.2 = U ∧ ((r.1 = .exit 2 ∧ qE x x.qs.length = 0) ∨ (r.1 = .ret ∧ r.2.1 2 = .int .i64 (qE x x.qs.length)))) ⟨rfl, h2, rfl, rfl⟩ ?_ ?_ ?_
  · rintro k R U hk ⟨rfl, r1, r6, hz⟩
    unfold ref23_Check_L2
    have t1 : decide ((k : Int) < (x.qs.length : Int)) = true := decide_eq_true (by omega)
    have t2 := fun W' => oBinAddT W' k 1
    have e3 : ((k + 1 : Nat) : Int) = (k : Int) + 1 := by omega
    obtain ⟨b, i, u, p1, p2, p3, p4⟩ := hq.get hk
    have lu := p4 U (hle.get _ p2)
    have hks : k < x.v.secs.length := by omega
    obtain ⟨b', i', rv, s1, -, -, -, -, s5⟩ := Secs.get hs.1 hks
    have e0 : x.qs[k] = lst x k := by simp [lst, List.getElem?_eq_getElem hk]
    have eq0 : x.v.secs[k].q = qlim x.v k := by unfold qlim; rw [List.getElem?_eq_getElem hks]; rfl
    have s5' := s5 U hle
    rw [eq0] at s5'
    rw [e0] at p3
    have ul := rd_len p3 len197
    have hstep : qE x (k + 1) = badQ x k := by
      show (if qE x k = 0 then badQ x k else qE x k) = _
      rw [if_pos hz]
    by_cases c6 : qlim x.v k < ((lst x k).length : Int)
    · have d := decide_eq_true c6
      simp only [SX, r1, r6, t1, l6, lq, p1, lu, ul, Nat.zero_add, l3, s1, s5', d, Ok_some]
      have hb : badQ x k = 3 := if_pos c6
      refine .inr ⟨by simp, trivial, .inr ⟨trivial, ?_⟩⟩
      rw [qE_mono (k := k + 1) (by rw [hstep, hb]; decide) (by omega), hstep, hb]
      rfl
    · have d := decide_eq_false c6
      simp only [SX, r1, r6, t1, l6, lq, p1, lu, ul, Nat.zero_add, l3, s1, s5', d]
      refine rDup_ok (U := U) (qv := u) (v1 := ptV W.next) (v6 := .int .i64 (k : Int)) (l := lst x k) (p3.keep hle) (by rw [← e0]; exact hl _ (List.getElem_mem _)) r1 r6 rfl rfl ?_
      rintro R' y (⟨rfl, hnd, q1, q6⟩ | ⟨rfl, hnd, q2⟩)
      · simp only [SX, q6, t2, Ok_some]
        refine .inl ⟨trivial, trivial, q1, by rw [e3]; rfl, ?_⟩
        rw [hstep]
        unfold badQ
        rw [if_neg c6, if_pos hnd]
      · simp only [SX, Ok_some]
        have hb : badQ x k = 8 := by unfold badQ; rw [if_neg c6, if_neg hnd]
        refine .inr ⟨by simp, trivial, .inr ⟨trivial, ?_⟩⟩
        rw [qE_mono (k := k + 1) (by rw [hstep, hb]; decide) (by omega), hstep, hb]
        exact q2
  · rintro R W' ⟨rfl, r1, r6, hz⟩
    unfold ref23_Check_L2
    have t1 : decide ((x.qs.length : Int) < (x.qs.length : Int)) = false := decide_eq_false (by omega)
    simp only [SX, r1, r6, Nat.zero_add, l6, lq, t1, Ok_some]
    exact ⟨by simp, trivial, .inl ⟨trivial, hz⟩⟩
  · rintro ⟨y, R, W'⟩ ⟨hW, hq⟩
    simp only at hW hq
    subst hW
    rcases hq with ⟨rfl, hq⟩ | ⟨rfl, h4⟩
    · simp only [SX, hq, Ok_some]
      exact ⟨trivial, hle⟩
    · simp only [SX, h4, Ok_some]
      exact ⟨trivial, hle⟩
theorem wu1 : wnt undef false = false := Eq.trans rfl rfl
theorem wu2 : wnt undef true = false := Eq.trans rfl rfl
theorem ldR {b o : Nat} {cs : List Value} {x : Value} {W : AW} (h : W.get b = some (.cells cs)) (hv : cs[o]? = some x) : ldC (.pointer (some ⟨b, o, none⟩)) W = some (x, W) := ldC_ok (cellsAt_of h) hv
def opC (o : OpT) : List Value := [.int .i64 o.k, .int .u32 o.ow, .int .i64 o.un, .int .i64 o.se, .int .i64 o.sc, .int .i64 o.n, .int .u32 o.to, .int .u32 o.t1, .int .u32 o.t2, .int .u64 o.t3, .int .u64 o.t4, .int .i64 o.nw]
theorem opC_len (o : OpT) : (opC o).length = 12 := rfl
abbrev OpL (W : AW) (v : Value) (l : List OpT) : Prop := Row W 12 (flatAt 12 opC) v l
theorem OpL.get {W : AW} {v : Value} {l : List OpT} (h : OpL W v l) {i : Nat} (hi : i < l.length) :
    ∃ p, (∀ W' k, ixS 12 v (.int k (i : Int)) W' = some (p, W')) ∧ ∀ W', Le W W' → ldA 12 p W' = some (opV l[i], W') := by
  obtain ⟨b, o, cs, h1, h2, h3, h4⟩ := h.elem hi
  refine ⟨_, h1, fun W' hle => ?_⟩
  have e0 : (cs.drop o).take 12 = opC l[i] := h4
  have := ldA_ok (n := 12) (o := o) (W := W') (by rw [hle.cellsAt h2]; exact h3) (by rw [e0]; rfl)
  rw [e0] at this
  exact this
theorem OpL.mono {W W' : AW} {v : Value} {l : List OpT} (h : OpL W v l) (hle : Le W W') : OpL W' v l := Row.imp h hle fun _ _ _ h => h
def opsAt (W : AW) (cs : List Value) (p : Nat) (l : List OpT) : Prop := ∃ u, cs[p]? = some u ∧ OpL W u l
abbrev OqR (W : AW) (v : Value) (ll : List (List OpT)) : Prop := Row W 1 (opsAt W) v ll
theorem OqR.mono {W W' : AW} {v : Value} {ll : List (List OpT)} (h : OqR W v ll) (hle : Le W W') : OqR W' v ll :=
  Row.imp h hle fun cs p l ⟨u, h1, h2⟩ => ⟨u, h1, h2.mono hle⟩
theorem OqR.get {W : AW} {v : Value} {ll : List (List OpT)} (h : OqR W v ll) {k : Nat} (hk : k < ll.length) : ∃ p u, (∀ W' kk, ixS 1 v (.int kk (k : Int)) W' = some (p, W')) ∧ OpL W u ll[k] ∧ ∀ W', Le W W' → ldC p W' = some (u, W') := by
  obtain ⟨b, o, cs, h1, h2, h3, u, h4, h5⟩ := h.elem hk
  exact ⟨_, u, h1, h5, fun W' hle => ldC_ok (by rw [hle.cellsAt h2]; exact h3) h4⟩
theorem len29 : ((#[29] : Array TypeId)[0]?).bind Tryz.prog.underlying = some (.slice 57) := by kernel_rfl
theorem len57 : ((#[57] : Array TypeId)[0]?).bind Tryz.prog.underlying = some (.slice 56) := by kernel_rfl
abbrev wkC (x : MdT) (sv sq qq wv : Value) : List Value := [.int .i64 x.v.sh, .int .i64 x.v.ttl, .int .i64 x.v.ses, sv, .int .i64 x.now, sq, qq, wv]
abbrev wkV (x : MdT) (sv sq qq wv : Value) : Value := .agg #[.int .i64 x.v.sh, .int .i64 x.v.ttl, .int .i64 x.v.ses, sv, .int .i64 x.now, sq, qq, wv]
structure WkR (W : AW) (x : MdT) (ll : List (List OpT)) (sv sq qq wv : Value) : Prop where
  sec : SecsC W sv x.v.secs
  st : SeR W sq x.st
  qs : QsR W qq x.qs
  ops : OqR W wv ll
theorem WkR.mono {W W' : AW} {x : MdT} {ll : List (List OpT)} {sv sq qq wv : Value} (h : WkR W x ll sv sq qq wv) (hle : Le W W') : WkR W' x ll sv sq qq wv :=
  ⟨h.sec.mono hle, h.st.keep hle, h.qs.mono hle, h.ops.mono hle⟩
structure WBx (V : AW) (b : Nat) (x : MdT) (sv sq qq wv : Value) : Prop where
  g : V.get b = some (.cells (wkC x sv sq qq wv))
section
variable {W U V : AW} {b : Nat} {x : MdT} {ll : List (List OpT)} {sv sq qq wv : Value}
theorem wBox (x : MdT) (sv sq qq wv : Value) (W : AW) : ∃ V, oBox (wkV x sv sq qq wv) W = some (ptV W.next, V) ∧ Le W V ∧ V.next = W.next + 1 ∧ WBx V W.next x sv sq qq wv :=
  ⟨_, oBox_agg _, (Le.refl _).add _, rfl, ⟨AW.get_add _ _⟩⟩
theorem WBx.mono (h : WBx V b x sv sq qq wv) (hb : b < V.next) (hle : Le V U) : WBx U b x sv sq qq wv := ⟨(hle.get _ hb).trans h.g⟩
theorem WBx.all (h : WBx V b x sv sq qq wv) : ldA 8 (ptV b) V = some (wkV x sv sq qq wv, V) := ldA_ok (cellsAt_of h.g) rfl
theorem WBx.l4 (h : WBx V b x sv sq qq wv) : ldA 4 (ptV b) V = some (venV x.v sv, V) := ldA_ok (cellsAt_of h.g) rfl
theorem WBx.l7 (h : WBx V b x sv sq qq wv) : ldA 7 (ptV b) V = some (mdV x sv sq qq, V) := ldA_ok (cellsAt_of h.g) rfl
theorem WBx.c5 (h : WBx V b x sv sq qq wv) : ldC (.pointer (some ⟨b, 5, none⟩)) V = some (sq, V) := ldR h.g rfl
theorem WBx.c6 (h : WBx V b x sv sq qq wv) : ldC (.pointer (some ⟨b, 6, none⟩)) V = some (qq, V) := ldR h.g rfl
theorem WBx.c7 (h : WBx V b x sv sq qq wv) : ldC (.pointer (some ⟨b, 7, none⟩)) V = some (wv, V) := ldR h.g rfl
end
def many (ll : List (List OpT)) : Nat := (ll.map List.length).sum
theorem many_take {ll : List (List OpT)} {k : Nat} (hk : k < ll.length) : many (ll.take (k + 1)) = many (ll.take k) + ll[k].length := by
  unfold many
  rw [List.take_succ_eq_append_getElem hk, List.map_append, List.sum_append]
  simp
theorem many_le {ll : List (List OpT)} (h1 : ll.length ≤ 1000) (h2 : ∀ l ∈ ll, l.length ≤ 1000) (k : Nat) : many (ll.take k) ≤ 1000 * 1000 := by
  have key : ∀ l : List (List OpT), (∀ x ∈ l, x.length ≤ 1000) → many l ≤ 1000 * l.length := by
    intro l hl
    induction l with
    | nil => simp [many]
    | cons a l ih =>
      have ha := hl a (List.mem_cons_self ..)
      have := ih fun x hx => hl x (List.mem_cons_of_mem _ hx)
      have e : many (a :: l) = a.length + many l := rfl
      rw [e, List.length_cons]
      omega
  have := key (ll.take k) fun x hx => h2 x (List.mem_of_mem_take hx)
  have h3 : (ll.take k).length ≤ 1000 := by rw [List.length_take]; omega
  omega
theorem add1 (k : Nat) (W : AW) (h : k ≤ 1000000) : oBin Tryz.prog .add 3 false true (.int .i64 (k : Int)) (.int .i64 1) W = some (.int .i64 ((k + 1 : Nat) : Int), W) := by
  rw [oBin_add (by omega) (by omega)]
  congr 3
section
variable {W : AW} {x : MdT} {ll : List (List OpT)} {sv sq qq wv : Value}
theorem calls_ok {b : Nat} (hw : OqR W wv ll) (hb : WBx W b x sv sq qq wv) (h1 : ll.length ≤ 1000) (h2 : ∀ l ∈ ll, l.length ≤ 1000) : omS (.func (.func 20) #[] #[]) [ptV b] W = some (.int .i64 (many ll : Int), W) := by
  refine om_drop rfl ?_ bounds_calls_om
  unfold bounds_calls
  have c7 := hb.c7
  have ln := fun W' => Row.len hw len29 W' 3 #[false]
  simp only [SX, oNilCheck_ptr, Nat.zero_add, c7, ln]
  refine Ok_loop ll.length (by omega) (fun k R W' => W' = W ∧ R 9 = wv ∧ R 10 = .int .i64 (ll.length : Int) ∧ R 11 = .int .i64 (k : Int) ∧ ∃ z : Int, R 3 = .int .i64 z ∧ z = (many (ll.take k) : Int))
    (fun r => r.2.2 = W ∧ r.1 = .exit 0 ∧ r.2.1 3 = .int .i64 (many ll : Int)) ?_ ?_ ?_ ?_
  · exact ⟨rfl, rfl, rfl, rfl, 0, rfl, by simp [many]⟩
  · rintro k R W' hk ⟨rfl, f9, f10, f11, z, f3, rfl⟩
    unfold bounds_calls_L1
    have t1 : decide ((k : Int) < (ll.length : Int)) = true := decide_eq_true (by omega)
    obtain ⟨p, u, p1, p2, p3⟩ := hw.get hk
    have lu := fun W' => Row.len p2 len57 W' 3 #[false]
    have hm := many_le h1 h2 k
    have hl := h2 _ (List.getElem_mem hk)
    have ea := fun W' => oBinAddF W' (many (ll.take k) : Int) (ll[k].length : Int)
    have em : (many (ll.take (k + 1)) : Int) = (many (ll.take k) : Int) + (ll[k].length : Int) := by rw [many_take hk]; omega
    simp only [SX, f9, f10, f11, f3, t1, p1, p3 _ (.refl _), lu, ea, add1 k _ (by omega), Ok_some]
    exact .inl ⟨trivial, trivial, f9, f10, rfl, _, rfl, em.symm⟩
  · rintro R W' ⟨rfl, f9, f10, f11, z, f3, rfl⟩
    unfold bounds_calls_L1
    have t1 : decide ((ll.length : Int) < (ll.length : Int)) = false := decide_eq_false (by omega)
    rw [List.take_length] at f3
    simp only [SX, f10, f11, t1, Ok_some]
    exact ⟨by simp, trivial, trivial, f3⟩
  · rintro ⟨y, R, W'⟩ ⟨rfl, rfl, f3⟩
    simp only at f3
    simp only [SX, f3, Ok_some]
    exact ⟨trivial, .refl _⟩
theorem refCalls_ok (hw : OqR W wv ll) (h1 : ll.length ≤ 1000) (h2 : ∀ l ∈ ll, l.length ≤ 1000) : omS (.func (.func 23) #[] #[]) [wkV x sv sq qq wv] W = some (.int .i64 (many ll : Int), W) := by
  refine om_drop rfl ?_ ref33_calls_om
  unfold ref33_calls
  obtain ⟨V, bx, hle, nV, hb⟩ := wBox x sv sq qq wv W
  have c7 := hb.c7
  have hw' := hw.mono hle
  have ln := fun W' => Row.len hw len29 W' 3 #[false]
  simp only [SX, bx]
  refine Ok_loop ll.length (by omega) (fun k R W' => W' = V ∧ R 1 = ptV W.next ∧ R 4 = .int .i64 (k : Int) ∧ ∃ z : Int, R 3 = .int .i64 z ∧ z = (many (ll.take k) : Int))
    (fun r => r.2.2 = V ∧ r.1 = .exit 0 ∧ r.2.1 3 = .int .i64 (many ll : Int)) ?_ ?_ ?_ ?_
  · exact ⟨rfl, rfl, rfl, 0, rfl, by simp [many]⟩
  · rintro k R W' hk ⟨rfl, f1, f4, z, f3, rfl⟩
    unfold ref33_calls_L1
    have t1 : decide ((k : Int) < (ll.length : Int)) = true := decide_eq_true (by omega)
    obtain ⟨p, u, p1, p2, p3⟩ := hw'.get hk
    have lu := fun W' => Row.len p2 len57 W' 3 #[false]
    have hm := many_le h1 h2 k
    have hl := h2 _ (List.getElem_mem hk)
    have ea := fun W' => oBinAddF W' (many (ll.take k) : Int) (ll[k].length : Int)
    have em : (many (ll.take (k + 1)) : Int) = (many (ll.take k) : Int) + (ll[k].length : Int) := by rw [many_take hk]; omega
    simp only [SX, Nat.zero_add, f1, f4, f3, c7, ln, t1, p1, p3 _ (.refl _), lu, ea, add1 k _ (by omega), Ok_some]
    exact .inl ⟨trivial, trivial, f1, rfl, _, rfl, em.symm⟩
  · rintro R W' ⟨rfl, f1, f4, z, f3, rfl⟩
    unfold ref33_calls_L1
    have t1 : decide ((ll.length : Int) < (ll.length : Int)) = false := decide_eq_false (by omega)
    rw [List.take_length] at f3
    simp only [SX, Nat.zero_add, f1, f4, c7, ln, t1, Ok_some]
    exact ⟨by simp, trivial, trivial, f3⟩
  · rintro ⟨y, R, W'⟩ ⟨rfl, rfl, f3⟩
    simp only at f3
    simp only [SX, f3, Ok_some]
    exact ⟨trivial, hle⟩
end
theorem minc_ok (a b : Int) (W : AW) : oBuiltin Tryz.prog .min #[3, 3] 3 #[false, true] [.int .i64 a, .int .i64 b] W = some (.int .i64 (min a b), W) := by
  have e : oBuiltin Tryz.prog .min #[3, 3] 3 #[false, true] [.int .i64 a, .int .i64 b] W = (pureS Tryz.prog ([Value.int .i64 a, .int .i64 b].all plain) (builtin .min #[3, 3] 3 #[false, true] #[.int .i64 a, .int .i64 b])).map fun v => (v, W) := by
    unfold oBuiltin
    rfl
  rw [e]
  have e2 : builtin .min #[3, 3] 3 #[false, true] #[.int .i64 a, .int .i64 b] = (do pure (.value (← Builtin.min_ #[3, 3] 3 #[.int .i64 a, .int .i64 b]))) := rfl
  rw [e2]
  refine pureV ?_ rfl _ rfl
  unfold Builtin.min_
  simp only [List.foldlM_cons, List.foldlM_nil, pureRun_bind, Builtin.min2, pureRun_pure, Option.bind_some]
  congr 2
  by_cases h : b < a
  · rw [if_pos h]; omega
  · rw [if_neg h]; omega
theorem maxd_ok (a b : Int) (W : AW) : oBuiltin Tryz.prog .max #[3, 3] 3 #[false, true] [.int .i64 a, .int .i64 b] W = some (.int .i64 (max a b), W) := by
  have e : oBuiltin Tryz.prog .max #[3, 3] 3 #[false, true] [.int .i64 a, .int .i64 b] W = (pureS Tryz.prog ([Value.int .i64 a, .int .i64 b].all plain) (builtin .max #[3, 3] 3 #[false, true] #[.int .i64 a, .int .i64 b])).map fun v => (v, W) := by
    unfold oBuiltin
    rfl
  rw [e]
  have e2 : builtin .max #[3, 3] 3 #[false, true] #[.int .i64 a, .int .i64 b] = (do pure (.value (← Builtin.max_ #[3, 3] 3 #[.int .i64 a, .int .i64 b]))) := rfl
  rw [e2]
  refine pureV ?_ rfl _ rfl
  unfold Builtin.max_
  simp only [List.foldlM_cons, List.foldlM_nil, pureRun_bind, Builtin.max2, pureRun_pure, Option.bind_some]
  congr 2
  by_cases h : a < b
  · rw [if_pos h]; omega
  · rw [if_neg h]; omega
theorem al24 (W : AW) : oAlloc Tryz.prog 24 W = some (.pointer (some ⟨W.next, 0, none⟩), W.add (.cells [.int .i64 0, .int .i64 0, .int .i64 0, .slice none 0 0])) := Eq.trans (by kernel_rfl) rfl
def sumM (ll : List (List OpT)) : Nat := (ll.map fun l => min l.length 100).sum
theorem sumM_take {ll : List (List OpT)} {k : Nat} (hk : k < ll.length) : sumM (ll.take (k + 1)) = sumM (ll.take k) + min ll[k].length 100 := by
  unfold sumM
  rw [List.take_succ_eq_append_getElem hk, List.map_append, List.sum_append]
  simp
theorem sumM_le : ∀ (ll : List (List OpT)), sumM ll ≤ 100 * ll.length
  | [] => by simp [sumM]
  | a :: ll => by
    have e : sumM (a :: ll) = min a.length 100 + sumM ll := rfl
    have := sumM_le ll
    rw [e, List.length_cons]
    omega
theorem sumM_mem : ∀ {ll : List (List OpT)} {l : List OpT}, l ∈ ll → min l.length 100 ≤ sumM ll
  | a :: ll, l, h => by
    have e : sumM (a :: ll) = min a.length 100 + sumM ll := rfl
    rcases List.mem_cons.1 h with rfl | h
    · omega
    · have := sumM_mem h
      omega
structure FarB (x : MdT) (ll : List (List OpT)) : Prop where
  n1 : x.v.secs.length ≤ 10
  n2 : ∀ s ∈ x.v.secs, s.rows.length ≤ 20
  n3 : x.st.length ≤ 60
  n4 : x.qs.length ≤ 20
  n5 : ∀ l ∈ x.qs, l.length ≤ 20
  n6 : ll.length ≤ 10
  n7 : ∀ l ∈ ll, l.length ≤ 70
section
variable {W V : AW} {b c : Nat} {x : MdT} {ll : List (List OpT)} {sv sq qq wv v1 : Value} {v : Ven}
theorem farIn_ok {K : LT → Option LT} {Q : LT → Prop} {R0 : Nat → Value} {i : Nat} {z0 : Int} (hs : Secs V sv v.secs) (hi : i < v.secs.length) (n2 : v.secs[i].rows.length ≤ 20) (hz : 0 ≤ z0 ∧ z0 ≤ 2000 * i) (hi2 : i < 11) (c3 : ldC (.pointer (some ⟨c, 3, none⟩)) V = some (sv, V)) (r1 : R0 1 = v1) (r2 : R0 2 = ptV b) (r5 : R0 5 = ptV c) (r6 : R0 6 = .int .i64 z0) (r7 : R0 7 = .int .i64 0) (r8 : R0 8 = .int .i64 (i : Int)) (r9 : R0 9 = .int .i64 0)
    (hK : ∀ R z, R 1 = v1 → R 2 = ptV b → R 5 = ptV c → R 6 = .int .i64 z → 0 ≤ z ∧ z ≤ 2000 * ((i : Int) + 1) → R 7 = .int .i64 0 → R 8 = .int .i64 (i : Int) → Ok (K (.exit 2, R, V)) Q) : Ok (bnd (loopO (law33_far_L1_L2 omS) R0 V) K) Q := by
  obtain ⟨bb, o, rv, p1, p2, p3, p4, p5, -⟩ := hs.get hi
  refine Ok_loop v.secs[i].rows.length (by omega) (fun k R X => X = V ∧ R 1 = v1 ∧ R 2 = ptV b ∧ R 5 = ptV c ∧ (∃ z : Int, R 6 = .int .i64 z ∧ 0 ≤ z ∧ z ≤ 2000 * i + 100 * k) ∧ R 7 = .int .i64 0 ∧ R 8 = .int .i64 (i : Int) ∧ R 9 = .int .i64 (k : Int))
    (fun r => r.2.2 = V ∧ r.1 = .exit 2 ∧ r.2.1 1 = v1 ∧ r.2.1 2 = ptV b ∧ r.2.1 5 = ptV c ∧ (∃ z : Int, r.2.1 6 = .int .i64 z ∧ 0 ≤ z ∧ z ≤ 2000 * ((i : Int) + 1)) ∧ r.2.1 7 = .int .i64 0 ∧ r.2.1 8 = .int .i64 (i : Int)) ⟨rfl, r1, r2, r5, ⟨z0, r6, hz.1, by omega⟩, r7, r8, r9⟩ ?_ ?_ ?_
  · rintro k R W3 hk ⟨rfl, g1, g2, g5, ⟨y, g6, y1, y2⟩, g7, g8, g9⟩
    unfold law33_far_L1_L2
    have e2 : decide ((k : Int) < (v.secs[i].rows.length : Int)) = true := decide_eq_true (by omega)
    obtain ⟨p, q1, q2⟩ := p2.get hk
    have m1 := maxd_ok v.secs[i].rows[k] 0
    have m2 := minc_ok (max v.secs[i].rows[k] 0) 100
    obtain ⟨mm, hmm⟩ : ∃ mm, mm = min (max v.secs[i].rows[k] 0) 100 := ⟨_, rfl⟩
    have hm1 : 0 ≤ mm ∧ mm ≤ 100 := by omega
    rw [← hmm] at m2
    have ea := fun W' => oBinAddF W' y mm
    simp only [SX, g5, g6, g8, g9, Nat.zero_add, c3, p1, p5 _ (.refl _), p2.len len38, e2, q1, q2 _ (.refl _), m1, m2, ea, add1 k _ (by omega), Ok_some]
    exact .inl ⟨trivial, trivial, g1, g2, g5, ⟨_, rfl, by omega, by omega⟩, g7, g8, rfl⟩
  · rintro R W3 ⟨rfl, g1, g2, g5, ⟨y, g6, y1, y2⟩, g7, g8, g9⟩
    unfold law33_far_L1_L2
    have e2 : decide ((v.secs[i].rows.length : Int) < (v.secs[i].rows.length : Int)) = false := decide_eq_false (by omega)
    simp only [SX, g5, g6, g8, g9, Nat.zero_add, c3, p1, p5 _ (.refl _), p2.len len38, e2, Ok_some]
    exact ⟨by simp, trivial, trivial, g1, g2, g5, ⟨_, g6, by omega, by omega⟩, g7, g8⟩
  · rintro ⟨y, R, W3⟩ ⟨rfl, rfl, g1, g2, g5, ⟨z, g6, y1, y2⟩, g7, g8⟩
    exact hK R z g1 g2 g5 g6 ⟨y1, y2⟩ g7 g8
theorem farL1_ok {K : LT → Option (Value × AW)} {Q : Value × AW → Prop} {R0 : Nat → Value} (hs : Secs V sv v.secs) (c3 : ldC (.pointer (some ⟨c, 3, none⟩)) V = some (sv, V)) (r1 : R0 1 = v1) (r2 : R0 2 = ptV b) (r5 : R0 5 = ptV c) (r6 : R0 6 = .int .i64 0) (r7 : R0 7 = .int .i64 0) (r8 : R0 8 = .int .i64 0)
    (hK : ∀ R z, R 1 = v1 → R 2 = ptV b → R 5 = ptV c → R 6 = .int .i64 z → R 7 = .int .i64 0 → (∀ s ∈ v.secs.take 11, s.rows.length ≤ 20) → Ok (K (.exit 0, R, V)) Q) (hR : ∀ R, R 4 = .bool true → Ok (K (.ret, R, V)) Q) : Ok (bnd (loopO (law33_far_L1 omS) R0 V) K) Q := by
  refine Ok_loop (min v.secs.length 11) (by omega) (fun i R X => X = V ∧ R 1 = v1 ∧ R 2 = ptV b ∧ R 5 = ptV c ∧ (∃ z : Int, R 6 = .int .i64 z ∧ 0 ≤ z ∧ z ≤ 2000 * i) ∧ R 7 = .int .i64 0 ∧ R 8 = .int .i64 (i : Int) ∧ ∀ s ∈ v.secs.take i, s.rows.length ≤ 20)
    (fun r => r.2.2 = V ∧ ((r.1 = .exit 0 ∧ r.2.1 1 = v1 ∧ r.2.1 2 = ptV b ∧ r.2.1 5 = ptV c ∧ (∃ z : Int, r.2.1 6 = .int .i64 z) ∧ r.2.1 7 = .int .i64 0 ∧ ∀ s ∈ v.secs.take 11, s.rows.length ≤ 20) ∨ (r.1 = .ret ∧ r.2.1 4 = .bool true))) ⟨rfl, r1, r2, r5, ⟨0, r6, by omega, by omega⟩, r7, r8, by simp⟩ ?_ ?_ ?_
  · rintro i R W' hi ⟨rfl, g1, g2, g5, ⟨z, g6, z1, z2⟩, g7, g8, ha⟩
    have hi2 : i < v.secs.length := by omega
    unfold law33_far_L1
    obtain ⟨bb, o, rv, p1, p2, p3, p4, p5, -⟩ := hs.get hi2
    have e1 : decide ((i : Int) < (v.secs.length : Int)) = true := decide_eq_true (by omega)
    have e2 : decide ((i : Int) < 11) = true := decide_eq_true (by omega)
    cases d1 : decide ((100 : Int) < (v.secs[i].name.length : Int)) with
    | true =>
      simp only [SX, g5, g8, Nat.zero_add, Nat.add_zero, c3, hs.len len34, e1, e2, p1, p4 _ (.refl _), str_len len9, d1, Ok_some]
      exact .inr ⟨by simp, trivial, .inr ⟨trivial, rfl⟩⟩
    | false =>
    cases d2 : decide ((20 : Int) < (v.secs[i].rows.length : Int)) with
    | true =>
      simp only [SX, g5, g8, Nat.zero_add, Nat.add_zero, c3, hs.len len34, e1, e2, p1, p4 _ (.refl _), p5 _ (.refl _), p2.len len38, str_len len9, d1, d2, Ok_some]
      exact .inr ⟨by simp, trivial, .inr ⟨trivial, rfl⟩⟩
    | false =>
      have h20 : v.secs[i].rows.length ≤ 20 := by have := of_decide_eq_false d2; omega
      simp only [SX, g5, g8, Nat.zero_add, Nat.add_zero, c3, hs.len len34, e1, e2, p1, p4 _ (.refl _), p5 _ (.refl _), p2.len len38, str_len len9, d1, d2]
      refine farIn_ok (v1 := v1) (b := b) (c := c) (z0 := z) hs hi2 h20 ⟨z1, z2⟩ (by omega) c3 g1 g2 g5 g6 g7 g8 rfl fun R2 y q1 q2 q5 q6 q7 q8 q9 => ?_
      simp only [SX, q9, add1 i _ (by omega), Ok_some]
      refine .inl ⟨trivial, trivial, q1, q2, q5, ⟨y, q6, q7.1, by omega⟩, q8, rfl, fun s hs2 => ?_⟩
      rw [List.take_succ_eq_append_getElem hi2] at hs2
      rcases List.mem_append.1 hs2 with h | h
      · exact ha s h
      · rw [List.mem_singleton] at h
        rw [h]; exact h20
  · rintro R W' ⟨rfl, g1, g2, g5, ⟨z, g6, z1, z2⟩, g7, g8, ha⟩
    unfold law33_far_L1
    have ht : v.secs.take 11 = v.secs.take (min v.secs.length 11) := by
      rcases Nat.le_total v.secs.length 11 with h | h
      · rw [Nat.min_eq_left h, List.take_length, List.take_of_length_le h]
      · rw [Nat.min_eq_right h]
    rw [← ht] at ha
    cases e1 : decide (((min v.secs.length 11 : Nat) : Int) < (v.secs.length : Int)) with
    | true =>
      have e2 : decide (((min v.secs.length 11 : Nat) : Int) < 11) = false := decide_eq_false (by have := of_decide_eq_true e1; omega)
      simp only [SX, g5, g8, Nat.zero_add, c3, hs.len len34, e1, e2, Ok_some]
      exact ⟨by simp, trivial, .inl ⟨trivial, g1, g2, g5, ⟨z, g6⟩, g7, ha⟩⟩
    | false =>
      simp only [SX, g5, g8, Nat.zero_add, c3, hs.len len34, e1, Ok_some]
      exact ⟨by simp, trivial, .inl ⟨trivial, g1, g2, g5, ⟨z, g6⟩, g7, ha⟩⟩
  · rintro ⟨y, R, W3⟩ ⟨hW, h⟩
    simp only at hW h
    subst hW
    rcases h with ⟨rfl, g1, g2, g5, ⟨z, g6⟩, g7, ha⟩ | ⟨rfl, g4⟩
    · exact hK R z g1 g2 g5 g6 g7 ha
    · exact hR R g4
end
theorem row_one {α : Type} {z : Nat} {f : List Value → Nat → α → Prop} {W : AW} {v : Value} {l : List α} (h : Row W z f v l) : Eng.one v = true := by
  obtain ⟨a, c, rfl, -⟩ := h; rfl
theorem take_min {α : Type} (l : List α) (n : Nat) : l.take n = l.take (min l.length n) := by
  rcases Nat.le_total l.length n with h | h
  · rw [Nat.min_eq_left h, List.take_length, List.take_of_length_le h]
  · rw [Nat.min_eq_right h]
section
variable {W V : AW} {b c : Nat} {x : MdT} {ll : List (List OpT)} {sv sq qq wv v1 v6 : Value} {v : Ven}
theorem farL3_ok {K : LT → Option (Value × AW)} {Q : Value × AW → Prop} {R0 : Nat → Value} (hq : QsR V qq x.qs) (hb : WBx V b x sv sq qq wv) (r1 : R0 1 = v1) (r2 : R0 2 = ptV b) (r5 : R0 5 = ptV c) (r6 : R0 6 = v6) (r7 : R0 7 = .int .i64 0) (r10 : R0 10 = .int .i64 0)
    (hK : ∀ R, R 1 = v1 → R 2 = ptV b → R 5 = ptV c → R 6 = v6 → R 7 = .int .i64 0 → (∀ l ∈ x.qs.take 21, l.length ≤ 20) → Ok (K (.exit 4, R, V)) Q) (hR : ∀ R, R 4 = .bool true → Ok (K (.ret, R, V)) Q) : Ok (bnd (loopO (law33_far_L3 omS) R0 V) K) Q := by
  have c6 := hb.c6
  have ln := fun W' => Row.len hq len105 W' 3 #[false]
  refine Ok_loop (min x.qs.length 21) (by omega) (fun i R X => X = V ∧ R 1 = v1 ∧ R 2 = ptV b ∧ R 5 = ptV c ∧ R 6 = v6 ∧ R 7 = .int .i64 0 ∧ R 10 = .int .i64 (i : Int) ∧ ∀ l ∈ x.qs.take i, l.length ≤ 20)
    (fun r => r.2.2 = V ∧ ((r.1 = .exit 4 ∧ r.2.1 1 = v1 ∧ r.2.1 2 = ptV b ∧ r.2.1 5 = ptV c ∧ r.2.1 6 = v6 ∧ r.2.1 7 = .int .i64 0 ∧ ∀ l ∈ x.qs.take 21, l.length ≤ 20) ∨ (r.1 = .ret ∧ r.2.1 4 = .bool true))) ⟨rfl, r1, r2, r5, r6, r7, r10, by simp⟩ ?_ ?_ ?_
  · rintro i R W' hi ⟨rfl, g1, g2, g5, g6, g7, g10, ha⟩
    have hi2 : i < x.qs.length := by omega
    unfold law33_far_L3
    have e1 : decide ((i : Int) < (x.qs.length : Int)) = true := decide_eq_true (by omega)
    have e2 : decide ((i : Int) < 21) = true := decide_eq_true (by omega)
    obtain ⟨pb, po, u, p1, -, p2, p3⟩ := hq.get hi2
    have lu := rd_len p2 len197
    cases d1 : decide ((20 : Int) < (x.qs[i].length : Int)) with
    | true =>
      simp only [SX, g2, g10, Nat.zero_add, Nat.add_zero, c6, ln, e1, e2, p1, p3 _ rfl, lu, d1, Ok_some]
      exact .inr ⟨by simp, trivial, .inr ⟨trivial, rfl⟩⟩
    | false =>
      have h20 : x.qs[i].length ≤ 20 := by have := of_decide_eq_false d1; omega
      simp only [SX, g2, g10, Nat.zero_add, Nat.add_zero, c6, ln, e1, e2, p1, p3 _ rfl, lu, d1, add1 i _ (by omega), Ok_some]
      refine .inl ⟨trivial, trivial, g1, g2, g5, g6, g7, rfl, fun l hl => ?_⟩
      rw [List.take_succ_eq_append_getElem hi2] at hl
      rcases List.mem_append.1 hl with h | h
      · exact ha l h
      · rw [List.mem_singleton] at h
        rw [h]; exact h20
  · rintro R W' ⟨rfl, g1, g2, g5, g6, g7, g10, ha⟩
    unfold law33_far_L3
    rw [← take_min] at ha
    cases e1 : decide (((min x.qs.length 21 : Nat) : Int) < (x.qs.length : Int)) with
    | true =>
      have e2 : decide (((min x.qs.length 21 : Nat) : Int) < 21) = false := decide_eq_false (by have := of_decide_eq_true e1; omega)
      simp only [SX, g2, g10, Nat.zero_add, Nat.add_zero, c6, ln, e1, e2, Ok_some]
      exact ⟨by simp, trivial, .inl ⟨trivial, g1, g2, g5, g6, g7, ha⟩⟩
    | false =>
      simp only [SX, g2, g10, Nat.zero_add, Nat.add_zero, c6, ln, e1, Ok_some]
      exact ⟨by simp, trivial, .inl ⟨trivial, g1, g2, g5, g6, g7, ha⟩⟩
  · rintro ⟨y, R, W3⟩ ⟨hW, h⟩
    simp only at hW h
    subst hW
    rcases h with ⟨rfl, g1, g2, g5, g6, g7, ha⟩ | ⟨rfl, g4⟩
    · exact hK R g1 g2 g5 g6 g7 ha
    · exact hR R g4
theorem farL4_ok {K : LT → Option (Value × AW)} {Q : Value × AW → Prop} {R0 : Nat → Value} (hw : OqR V wv ll) (hb : WBx V b x sv sq qq wv) (r1 : R0 1 = v1) (r2 : R0 2 = ptV b) (r5 : R0 5 = ptV c) (r6 : R0 6 = v6) (r7 : R0 7 = .int .i64 0) (r11 : R0 11 = .int .i64 0)
    (hK : ∀ R, R 1 = v1 → R 2 = ptV b → R 5 = ptV c → R 6 = v6 → R 7 = .int .i64 (sumM (ll.take 11) : Int) → Ok (K (.exit 6, R, V)) Q) : Ok (bnd (loopO (law33_far_L4 omS) R0 V) K) Q := by
  have c7 := hb.c7
  have ln := fun W' => Row.len hw len29 W' 3 #[false]
  refine Ok_loop (min ll.length 11) (by omega) (fun i R X => X = V ∧ R 1 = v1 ∧ R 2 = ptV b ∧ R 5 = ptV c ∧ R 6 = v6 ∧ (∃ z : Int, R 7 = .int .i64 z ∧ z = (sumM (ll.take i) : Int)) ∧ R 11 = .int .i64 (i : Int))
    (fun r => r.2.2 = V ∧ r.1 = .exit 6 ∧ r.2.1 1 = v1 ∧ r.2.1 2 = ptV b ∧ r.2.1 5 = ptV c ∧ r.2.1 6 = v6 ∧ r.2.1 7 = .int .i64 (sumM (ll.take 11) : Int)) ⟨rfl, r1, r2, r5, r6, ⟨0, r7, by simp [sumM]⟩, r11⟩ ?_ ?_ ?_
  · rintro i R W' hi ⟨rfl, g1, g2, g5, g6, ⟨z, g7, rfl⟩, g11⟩
    have hi2 : i < ll.length := by omega
    unfold law33_far_L4
    have e1 : decide ((i : Int) < (ll.length : Int)) = true := decide_eq_true (by omega)
    have e2 : decide ((i : Int) < 11) = true := decide_eq_true (by omega)
    obtain ⟨p, u, p1, p2, p3⟩ := hw.get hi2
    have lu := fun W' => Row.len p2 len57 W' 3 #[false]
    have m1 := minc_ok (ll[i].length : Int) 100
    have hm := sumM_le (ll.take i)
    rw [List.length_take] at hm
    have ea := fun W' => oBinAddF W' (sumM (ll.take i) : Int) (min (ll[i].length : Int) 100)
    simp only [SX, g2, g7, g11, Nat.zero_add, c7, ln, e1, e2, p1, p3 _ (.refl _), lu, m1, ea, add1 i _ (by omega), Ok_some]
    exact .inl ⟨trivial, trivial, g1, g2, g5, g6, ⟨_, rfl, by rw [sumM_take hi2]; omega⟩, rfl⟩
  · rintro R W' ⟨rfl, g1, g2, g5, g6, ⟨z, g7, rfl⟩, g11⟩
    unfold law33_far_L4
    rw [← take_min] at g7
    cases e1 : decide (((min ll.length 11 : Nat) : Int) < (ll.length : Int)) with
    | true =>
      have e2 : decide (((min ll.length 11 : Nat) : Int) < 11) = false := decide_eq_false (by have := of_decide_eq_true e1; omega)
      simp only [SX, g2, g11, Nat.zero_add, c7, ln, e1, e2, Ok_some]
      exact ⟨by simp, trivial, trivial, g1, g2, g5, g6, g7⟩
    | false =>
      simp only [SX, g2, g11, Nat.zero_add, c7, ln, e1, Ok_some]
      exact ⟨by simp, trivial, trivial, g1, g2, g5, g6, g7⟩
  · rintro ⟨y, R, W3⟩ ⟨rfl, rfl, g1, g2, g5, g6, g7⟩
    exact hK R g1 g2 g5 g6 g7
theorem far_ok {lim : Int} (h : WkR W x ll sv sq qq wv) : ∃ c : Bool, omS (.func (.func 5) #[] #[]) [wkV x sv sq qq wv, .int .i64 lim] W = some (.bool c, W) ∧ (c = false → FarB x ll) := by
  have main : Ok (law33_far omS (wkV x sv sq qq wv) (.int .i64 lim) W) fun r => ∃ c : Bool, r.1 = .bool c ∧ Le W r.2 ∧ (c = false → FarB x ll) := by
    unfold law33_far
    obtain ⟨V0, bx, hle0, nV0, hb0⟩ := wBox x sv sq qq wv W
    obtain ⟨V, hV⟩ : ∃ V, V = V0.add (.cells [.int .i64 x.v.sh, .int .i64 x.v.ttl, .int .i64 x.v.ses, sv]) := ⟨_, rfl⟩
    have hle1 : Le V0 V := by rw [hV]; exact (Le.refl _).add _
    have hle := hle0.trans hle1
    have hb := hb0.mono (by omega) hle1
    have g1 : V.get V0.next = some (.cells [.int .i64 x.v.sh, .int .i64 x.v.ttl, .int .i64 x.v.ses, sv]) := by rw [hV]; exact AW.get_add _ _
    have c3 : ldC (.pointer (some ⟨V0.next, 3, none⟩)) V = some (sv, V) := ldR g1 rfl
    have hw := h.mono hle
    have st : stV 4 (.pointer (some ⟨V0.next, 0, none⟩)) (venV x.v sv) (V0.add (.cells [.int .i64 0, .int .i64 0, .int .i64 0, .slice none 0 0])) = some (undef, V) := by
      rw [stV_agg, rwCells_new, Option.bind_some, if_pos ⟨rfl, by simp, by simp [one_int, row_one h.sec.1]⟩, hV]
      exact congrArg some (congrArg (Prod.mk undef) (put_add_cells _ _ _))
    simp only [SX, bx, Nat.zero_add, hb0.l4, al24, st]
    refine farL1_ok (v1 := .int .i64 lim) (b := W.next) (c := V0.next) hw.sec.1 c3 rfl rfl rfl rfl rfl rfl (fun R z q1 q2 q5 q6 q7 ha => ?_) (fun R q4 => ?_)
    · simp only [SX]
      refine farL3_ok (v1 := .int .i64 lim) (v6 := .int .i64 z) (c := V0.next) hw.qs hb q1 q2 q5 q6 q7 rfl (fun R w1 w2 w5 w6 w7 hqs => ?_) (fun R q4 => ?_)
      · simp only [SX]
        refine farL4_ok (v1 := .int .i64 lim) (v6 := .int .i64 z) (c := V0.next) hw.ops hb w1 w2 w5 w6 w7 rfl fun R k1 k2 k5 k6 k7 => ?_
        have l1 := hw.sec.1.len len34
        have l2 := rd_len hw.st len25
        have l3 := hw.qs.len len105
        have l4 := hw.ops.len len29
        simp only [SX, k1, k2, k5, k6, k7, Nat.zero_add, c3, l1]
        cases d1 : decide ((10 : Int) < (x.v.secs.length : Int)) with
        | true =>
          simp only [SX, wu2, Ok_some]
          exact ⟨true, rfl, hle, fun e => by cases e⟩
        | false =>
        cases d2 : decide ((40 : Int) < z) with
        | true =>
          simp only [SX, d2, wu2, Ok_some]
          exact ⟨true, rfl, hle, fun e => by cases e⟩
        | false =>
        cases d3 : decide ((60 : Int) < (x.st.length : Int)) with
        | true =>
          simp only [SX, d2, d3, hb.c5, l2, wu2, Ok_some]
          exact ⟨true, rfl, hle, fun e => by cases e⟩
        | false =>
        cases d4 : decide ((20 : Int) < (x.qs.length : Int)) with
        | true =>
          simp only [SX, d2, d3, d4, hb.c5, hb.c6, l2, l3, wu2, Ok_some]
          exact ⟨true, rfl, hle, fun e => by cases e⟩
        | false =>
        cases d5 : decide ((10 : Int) < (ll.length : Int)) with
        | true =>
          simp only [SX, d2, d3, d4, d5, hb.c5, hb.c6, hb.c7, l2, l3, l4, wu2, Ok_some]
          exact ⟨true, rfl, hle, fun e => by cases e⟩
        | false =>
        have fin : decide ((70 : Int) < (sumM (ll.take 11) : Int)) = false → FarB x ll := fun d8 => by
          have e1 := of_decide_eq_false d1
          have e4 := of_decide_eq_false d4
          have e3 := of_decide_eq_false d3
          have e5 := of_decide_eq_false d5
          have e8 := of_decide_eq_false d8
          rw [List.take_of_length_le (by omega)] at ha hqs e8
          exact ⟨by omega, ha, by omega, by omega, hqs, by omega, fun l hl => by have := sumM_mem hl; omega⟩
        cases d6 : decide (lim < (sumM (ll.take 11) : Int)) with
        | true =>
          cases d7 : decide ((sumM (ll.take 11) : Int) ≤ 60) with
          | true =>
            simp only [SX, d2, d3, d4, d5, d6, d7, hb.c5, hb.c6, hb.c7, l2, l3, l4, Ok_some]
            exact ⟨true, rfl, hle, fun e => by cases e⟩
          | false =>
            simp only [SX, d2, d3, d4, d5, d6, d7, hb.c5, hb.c6, hb.c7, l2, l3, l4, Ok_some]
            exact ⟨_, rfl, hle, fin⟩
        | false =>
          simp only [SX, d2, d3, d4, d5, d6, hb.c5, hb.c6, hb.c7, l2, l3, l4, Ok_some]
          exact ⟨_, rfl, hle, fin⟩
      · simp only [SX, q4, Ok_some]
        exact ⟨true, rfl, hle, fun e => by cases e⟩
    · simp only [SX, q4, Ok_some]
      exact ⟨true, rfl, hle, fun e => by cases e⟩
  obtain ⟨⟨q, W'⟩, h1, c, h2, h3, h4⟩ := main
  simp only at h2
  subst h2
  exact ⟨c, om_drop rfl ⟨_, h1, rfl, h3⟩ law33_far_om, h4⟩
end
def opE (o : OpT) : Int := chkE o.k o.ow o.un o.se o.sc o.n o.to o.t1 o.t2 o.t3 o.t4 o.nw
def lE : List OpT → Int
  | [] => 0
  | o :: l => if opE o = 0 then lE l else opE o
def wE : Nat → List (List OpT) → Int × Int
  | _, [] => (0, 0)
  | k, l :: ll => if lE l = 0 then wE (k + 1) ll else ((k : Int) + 1, lE l)
theorem lE_zero : ∀ {l : List OpT}, (∀ o ∈ l, opE o = 0) → lE l = 0
  | [], _ => rfl
  | o :: l, h => (if_pos (h o (List.mem_cons_self ..))).trans (lE_zero fun x hx => h x (List.mem_cons_of_mem _ hx))
theorem lE_at : ∀ {l : List OpT} {k : Nat} (hk : k < l.length), (∀ o ∈ l.take k, opE o = 0) → opE l[k] ≠ 0 → lE l = opE l[k]
  | o :: l, 0, _, _, h => if_neg h
  | o :: l, k + 1, hk, ha, h => (if_pos (ha o (by simp))).trans (lE_at (Nat.lt_of_succ_lt_succ hk) (fun x hx => ha x (by rw [List.take_succ_cons]; exact List.mem_cons_of_mem _ hx)) h)
theorem wE_zero : ∀ {ll : List (List OpT)} {n : Nat}, (∀ l ∈ ll, lE l = 0) → wE n ll = (0, 0)
  | [], _, _ => rfl
  | l :: ll, n, h => (if_pos (h l (List.mem_cons_self ..))).trans (wE_zero fun x hx => h x (List.mem_cons_of_mem _ hx))
theorem wE_at : ∀ {ll : List (List OpT)} {k n : Nat} (hk : k < ll.length), (∀ l ∈ ll.take k, lE l = 0) → lE ll[k] ≠ 0 → wE n ll = ((n : Int) + (k : Int) + 1, lE ll[k])
  | l :: ll, 0, n, _, _, h => (if_neg h).trans (by simp)
  | l :: ll, k + 1, n, hk, ha, h => (if_pos (ha l (by simp))).trans ((wE_at (Nat.lt_of_succ_lt_succ hk) (fun x hx => ha x (by rw [List.take_succ_cons]; exact List.mem_cons_of_mem _ hx)) h).trans (by
      simp only [List.getElem_cons_succ, Prod.mk.injEq, and_true]; omega))
def wkE (x : MdT) (ll : List (List OpT)) : Int × Int := if mdE x = 0 then (if ll.length < 1 ∨ 8 < ll.length then (0, 7) else if 60 < many ll then (0, 3) else wE 0 ll) else (0, mdE x)
theorem all_snoc {α : Type} {l : List α} {k : Nat} {p : α → Prop} (hk : k < l.length) (ha : ∀ o ∈ l.take k, p o) (h : p l[k]) : ∀ o ∈ l.take (k + 1), p o := fun o ho => by
  rw [List.take_succ_eq_append_getElem hk] at ho
  rcases List.mem_append.1 ho with h1 | h1
  · exact ha o h1
  · rw [List.mem_singleton] at h1
    rw [h1]; exact h
theorem al56 (W : AW) : oAlloc Tryz.prog 56 W = some (.pointer (some ⟨W.next, 0, none⟩), W.add (.cells [.int .i64 0, .int .u32 0, .int .i64 0, .int .i64 0, .int .i64 0, .int .i64 0, .int .u32 0, .int .u32 0, .int .u32 0, .int .u64 0, .int .u64 0, .int .i64 0])) := Eq.trans (by kernel_rfl) rfl
theorem opSlot (o : OpT) (W : AW) : ∃ V, stV 12 (.pointer (some ⟨W.next, 0, none⟩)) (opV o) (W.add (.cells [.int .i64 0, .int .u32 0, .int .i64 0, .int .i64 0, .int .i64 0, .int .i64 0, .int .u32 0, .int .u32 0, .int .u32 0, .int .u64 0, .int .u64 0, .int .i64 0])) = some (undef, V) ∧ Le W V ∧ ldA 12 (.pointer (some ⟨W.next, 0, none⟩)) V = some (opV o, V) := by
  refine ⟨W.add (.cells (opC o)), ?_, (Le.refl W).add _, ldA_ok (cellsAt_of (AW.get_add _ _)) rfl⟩
  show stV 12 _ (.agg #[.int .i64 o.k, .int .u32 o.ow, .int .i64 o.un, .int .i64 o.se, .int .i64 o.sc, .int .i64 o.n, .int .u32 o.to, .int .u32 o.t1, .int .u32 o.t2, .int .u64 o.t3, .int .u64 o.t4, .int .i64 o.nw]) _ = _
  rw [stV_agg, rwCells_new, Option.bind_some, if_pos ⟨rfl, by simp, by simp [one_int]⟩]
  exact congrArg some (congrArg (Prod.mk undef) (put_add_cells _ _ _))
section
variable {W V : AW} {b : Nat} {x : MdT} {ll : List (List OpT)} {sv sq qq wv : Value}
theorem chkOp_ok (o : OpT) (h : GW W) : omS (.func (.func 21) #[] #[]) [opV o] W = some (.int .i64 (opE o), W) := planCheck_ok _ _ _ _ _ _ _ _ _ _ _ _ h
theorem rChkOp_ok (o : OpT) (W : AW) : omS (.func (.func 24) #[] #[]) [opV o] W = some (.int .i64 (opE o), W) := refCheck_ok _ _ _ _ _ _ _ _ _ _ _ _ W
theorem inner_ok {K : LT → Option LT} {Q : LT → Prop} {R0 : Nat → Value} {U : AW} {u v31 v32 v33 : Value} {l : List OpT} {i : Nat} (hG : GW V) (hl : OpL V u l) (h2 : l.length ≤ 1000) (hi : i ≤ 1000) (hU : Le V U) (r1 : R0 4 = .int .i64 (i : Int)) (r31 : R0 31 = v31) (r32 : R0 32 = v32) (r33 : R0 33 = v33) (r38 : R0 38 = u) (r39 : R0 39 = .int .i64 (l.length : Int)) (r40 : R0 40 = .int .i64 0)
    (hK : ∀ R U, Le V U → R 31 = v31 → R 32 = v32 → R 33 = v33 → lE l = 0 → Ok (K (.exit 3, R, U)) Q) (hR : ∀ R U, Le V U → R 2 = .int .i64 ((i : Int) + 1) → R 3 = .int .i64 (lE l) → lE l ≠ 0 → Ok (K (.ret, R, U)) Q) : Ok (bnd (loopO (bounds_Check_L1_L2 omS) R0 U) K) Q := by
  refine Ok_loop l.length (by omega) (fun k R X => Le V X ∧ R 4 = .int .i64 (i : Int) ∧ R 31 = v31 ∧ R 32 = v32 ∧ R 33 = v33 ∧ R 38 = u ∧ R 39 = .int .i64 (l.length : Int) ∧ R 40 = .int .i64 (k : Int) ∧ ∀ o ∈ l.take k, opE o = 0)
    (fun r => Le V r.2.2 ∧ ((r.1 = .exit 3 ∧ r.2.1 31 = v31 ∧ r.2.1 32 = v32 ∧ r.2.1 33 = v33 ∧ lE l = 0) ∨ (r.1 = .ret ∧ r.2.1 2 = .int .i64 ((i : Int) + 1) ∧ r.2.1 3 = .int .i64 (lE l) ∧ lE l ≠ 0))) ⟨hU, r1, r31, r32, r33, r38, r39, r40, by simp⟩ ?_ ?_ ?_
  · rintro k R X hk ⟨hX, f4, f31, f32, f33, f38, f39, f40, ha⟩
    unfold bounds_Check_L1_L2
    have e1 : decide ((k : Int) < (l.length : Int)) = true := decide_eq_true (by omega)
    obtain ⟨p, p1, p2⟩ := hl.get hk
    obtain ⟨Y, s1, s2, s3⟩ := opSlot l[k] X
    have hc := chkOp_ok l[k] (hG.mono (hX.trans s2))
    by_cases c : opE l[k] = 0
    · have d := decide_eq_true c
      simp only [SX, f38, f39, f40, e1, p1, p2 _ hX, al56, s1, s3, hc, d, add1 k _ (by omega), Ok_some]
      exact .inl ⟨trivial, hX.trans s2, f4, f31, f32, f33, f38, f39, rfl, all_snoc hk ha c⟩
    · have d := decide_eq_false c
      have ea := fun W' => oBinAddT W' i 1
      have el := lE_at hk ha c
      simp only [SX, f4, f38, f39, f40, e1, p1, p2 _ hX, al56, s1, s3, hc, d, ea, Ok_some]
      exact .inr ⟨by simp, hX.trans s2, .inr ⟨trivial, rfl, by rw [el]; rfl, by rw [el]; exact c⟩⟩
  · rintro R X ⟨hX, f4, f31, f32, f33, f38, f39, f40, ha⟩
    unfold bounds_Check_L1_L2
    have e1 : decide ((l.length : Int) < (l.length : Int)) = false := decide_eq_false (by omega)
    rw [List.take_length] at ha
    simp only [SX, f39, f40, e1, Ok_some]
    exact ⟨by simp, hX, .inl ⟨trivial, f31, f32, f33, lE_zero ha⟩⟩
  · rintro ⟨y, R, X⟩ ⟨hX, h⟩
    rcases h with ⟨h1, a, b, c, d⟩ | ⟨h1, a, b, c⟩
    · simp only at h1; subst h1; exact hK R X hX a b c d
    · simp only at h1; subst h1; exact hR R X hX a b c
theorem bCheck_ok (hG : GW W) (h : WkR W x ll sv sq qq wv) (hF : FarB x ll) : omS (.func (.func 7) #[] #[]) [wkV x sv sq qq wv] W = some (.tuple #[.int .i64 (wkE x ll).1, .int .i64 (wkE x ll).2], W) := by
  refine om_drop rfl ?_ bounds_Check_om
  unfold bounds_Check wkE
  obtain ⟨V, bx, hle, nV, hb⟩ := wBox x sv sq qq wv W
  have hw := h.mono hle
  have hG' := hG.mono hle
  obtain ⟨n1, n2, n3, n4, n5, n6, n7⟩ := hF
  have q1 := mdCheck_ok hw.sec (by omega) hw.st hw.qs (by omega) (by omega) fun l hl => by have := n5 l hl; omega
  have c7 := hb.c7
  have ln := fun W' => Row.len hw.ops len29 W' 3 #[false]
  by_cases c0 : mdE x = 0
  case neg =>
    have d := decide_eq_false c0
    simp only [SX, bx, Nat.zero_add, hb.l7, q1, d, if_neg c0, Ok_some]
    exact ⟨trivial, hle⟩
  have d0 := decide_eq_true c0
  rw [if_pos c0]
  by_cases c1 : ll.length < 1
  · have d := decide_eq_true (show (ll.length : Int) < 1 by omega)
    simp only [SX, bx, Nat.zero_add, hb.l7, q1, d0, c7, ln, d, if_pos (Or.inl c1 : ll.length < 1 ∨ 8 < ll.length), Ok_some]
    exact ⟨trivial, hle⟩
  have d1 := decide_eq_false (show ¬ (ll.length : Int) < 1 by omega)
  by_cases c2 : 8 < ll.length
  · have d := decide_eq_true (show (8 : Int) < (ll.length : Int) by omega)
    simp only [SX, bx, Nat.zero_add, hb.l7, q1, d0, c7, ln, d1, d, if_pos (Or.inr c2 : ll.length < 1 ∨ 8 < ll.length), Ok_some]
    exact ⟨trivial, hle⟩
  have d2 := decide_eq_false (show ¬ (8 : Int) < (ll.length : Int) by omega)
  rw [if_neg (show ¬ (ll.length < 1 ∨ 8 < ll.length) by omega)]
  have q2 := calls_ok hw.ops hb (by omega) fun l hl => by have := n7 l hl; omega
  by_cases c3 : 60 < many ll
  · have d := decide_eq_true (show (60 : Int) < (many ll : Int) by omega)
    simp only [SX, bx, Nat.zero_add, hb.l7, q1, d0, c7, ln, d1, d2, q2, d, if_pos c3, Ok_some]
    exact ⟨trivial, hle⟩
  have d3 := decide_eq_false (show ¬ (60 : Int) < (many ll : Int) by omega)
  rw [if_neg c3]
  simp only [SX, bx, Nat.zero_add, hb.l7, q1, d0, c7, ln, d1, d2, q2, d3]
  refine Ok_loop ll.length (by omega) (fun i R X => Le V X ∧ R 31 = wv ∧ R 32 = .int .i64 (ll.length : Int) ∧ R 33 = .int .i64 (i : Int) ∧ ∀ l ∈ ll.take i, lE l = 0)
    (fun r => Le V r.2.2 ∧ ((r.1 = .exit 1 ∧ ∀ l ∈ ll, lE l = 0) ∨ (r.1 = .ret ∧ r.2.1 2 = .int .i64 (wE 0 ll).1 ∧ r.2.1 3 = .int .i64 (wE 0 ll).2))) ⟨.refl _, rfl, rfl, rfl, by simp⟩ ?_ ?_ ?_
  · rintro i R X hi ⟨hX, f31, f32, f33, ha⟩
    unfold bounds_Check_L1
    have e1 : decide ((i : Int) < (ll.length : Int)) = true := decide_eq_true (by omega)
    obtain ⟨p, u, p1, p2, p3⟩ := hw.ops.get hi
    have lu := fun W' => Row.len p2 len57 W' 3 #[false]
    have hl := n7 _ (List.getElem_mem hi)
    simp only [SX, f31, f32, f33, e1, p1, p3 _ hX, lu]
    refine inner_ok (v31 := wv) (v32 := .int .i64 (ll.length : Int)) (v33 := .int .i64 (i : Int)) (i := i) hG' p2 (by omega) (by omega) hX ?_ ?_ ?_ ?_ ?_ ?_ ?_ (fun R2 Y hY a b c d => ?_) (fun R2 Y hY a b c => ?_)
    · rfl
    · exact f31
    · exact f32
    · exact f33
    · rfl
    · rfl
    · rfl
    · simp only [SX, c, add1 i _ (by omega), Ok_some]
      exact .inl ⟨trivial, hY, a, b, rfl, all_snoc hi ha d⟩
    · have ew := wE_at (n := 0) hi ha c
      simp only [SX, Ok_some]
      exact .inr ⟨by simp, hY, .inr ⟨trivial, by rw [ew, a]; simp, by rw [ew, b]⟩⟩
  · rintro R X ⟨hX, f31, f32, f33, ha⟩
    unfold bounds_Check_L1
    have e1 : decide ((ll.length : Int) < (ll.length : Int)) = false := decide_eq_false (by omega)
    rw [List.take_length] at ha
    simp only [SX, f32, f33, e1, Ok_some]
    exact ⟨by simp, hX, .inl ⟨trivial, ha⟩⟩
  · rintro ⟨y, R, X⟩ ⟨hX, hh⟩
    rcases hh with ⟨h1, a⟩ | ⟨h1, a, b⟩
    · simp only at h1; subst h1
      simp only [SX, wE_zero a, Ok_some]
      exact ⟨trivial, hle.trans hX⟩
    · simp only at h1 a b; subst h1
      simp only [SX, a, b, Ok_some]
      exact ⟨trivial, hle.trans hX⟩
end
section
variable {W V : AW} {b : Nat} {x : MdT} {ll : List (List OpT)} {sv sq qq wv v1 : Value}
theorem rInner_ok {K : LT → Option LT} {Q : LT → Prop} {R0 : Nat → Value} {i : Nat} (hw : OqR V wv ll) (hb : WBx V b x sv sq qq wv) (hi : i < ll.length) (h1 : ll.length ≤ 10) (h2 : ll[i].length ≤ 1000) (r1 : R0 1 = ptV b) (r5 : R0 5 = .int .i64 (i : Int)) (r6 : R0 6 = .int .i64 0)
    (hK : ∀ R, R 1 = ptV b → R 5 = .int .i64 (i : Int) → lE ll[i] = 0 → Ok (K (.exit 2, R, V)) Q) (hR : ∀ R, R 2 = .int .i64 ((i : Int) + 1) → R 3 = .int .i64 (lE ll[i]) → lE ll[i] ≠ 0 → Ok (K (.ret, R, V)) Q) : Ok (bnd (loopO (ref33_Check_L1_L2 omS) R0 V) K) Q := by
  obtain ⟨p, u, p1, p2, p3⟩ := hw.get hi
  have lu := fun W' => Row.len p2 len57 W' 3 #[false]
  have c7 := hb.c7
  refine Ok_loop ll[i].length (by omega) (fun k R X => X = V ∧ R 1 = ptV b ∧ R 5 = .int .i64 (i : Int) ∧ R 6 = .int .i64 (k : Int) ∧ ∀ o ∈ ll[i].take k, opE o = 0)
    (fun r => r.2.2 = V ∧ ((r.1 = .exit 2 ∧ r.2.1 1 = ptV b ∧ r.2.1 5 = .int .i64 (i : Int) ∧ lE ll[i] = 0) ∨ (r.1 = .ret ∧ r.2.1 2 = .int .i64 ((i : Int) + 1) ∧ r.2.1 3 = .int .i64 (lE ll[i]) ∧ lE ll[i] ≠ 0))) ⟨rfl, r1, r5, r6, by simp⟩ ?_ ?_ ?_
  · rintro k R X hk ⟨rfl, f1, f5, f6, ha⟩
    unfold ref33_Check_L1_L2
    have e1 : decide ((k : Int) < (ll[i].length : Int)) = true := decide_eq_true (by omega)
    obtain ⟨q, q1, q2⟩ := p2.get hk
    have hc := rChkOp_ok ll[i][k] X
    by_cases c : opE ll[i][k] = 0
    · have d := decide_eq_true c
      simp only [SX, f1, f5, f6, Nat.zero_add, c7, p1, p3 _ (.refl _), lu, e1, q1, q2 _ (.refl _), hc, d, add1 k _ (by omega), Ok_some]
      exact .inl ⟨trivial, trivial, f1, f5, rfl, all_snoc hk ha c⟩
    · have d := decide_eq_false c
      have ea := fun W' => oBinAddT W' i 1
      have el := lE_at hk ha c
      simp only [SX, f1, f5, f6, Nat.zero_add, c7, p1, p3 _ (.refl _), lu, e1, q1, q2 _ (.refl _), hc, d, ea, Ok_some]
      exact .inr ⟨by simp, trivial, .inr ⟨trivial, rfl, by rw [el]; rfl, by rw [el]; exact c⟩⟩
  · rintro R X ⟨rfl, f1, f5, f6, ha⟩
    unfold ref33_Check_L1_L2
    have e1 : decide ((ll[i].length : Int) < (ll[i].length : Int)) = false := decide_eq_false (by omega)
    rw [List.take_length] at ha
    simp only [SX, f1, f5, f6, Nat.zero_add, c7, p1, p3 _ (.refl _), lu, e1, Ok_some]
    exact ⟨by simp, trivial, .inl ⟨trivial, f1, f5, lE_zero ha⟩⟩
  · rintro ⟨y, R, X⟩ ⟨hX, h⟩
    simp only at hX h
    subst hX
    rcases h with ⟨rfl, a, b, c⟩ | ⟨rfl, a, b, c⟩
    · exact hK R a b c
    · exact hR R a b c
theorem rJ1_ok {JR : Nat → Value} (e : Int) (hw : OqR V wv ll) (hb : WBx V b x sv sq qq wv) (hF : FarB x ll) (r1 : JR 1 = ptV b) :
    Ok (ref33_Check_J1 omS JR (.int .i64 e) V) fun r => r.1 = .tuple #[.int .i64 (if e = 0 then (wE 0 ll).1 else 0), .int .i64 (if e = 0 then (wE 0 ll).2 else e)] ∧ Le V r.2 := by
  unfold ref33_Check_J1
  by_cases c : e = 0
  case neg =>
    have d := decide_eq_false c
    simp only [SX, d, if_neg c, Ok_some]
    exact ⟨trivial, .refl _⟩
  have d := decide_eq_true c
  have c7 := hb.c7
  have ln := fun W' => Row.len hw len29 W' 3 #[false]
  have n6 := hF.n6
  simp only [SX, d, if_pos c]
  refine Ok_loop ll.length (by omega) (fun i R X => X = V ∧ R 1 = ptV b ∧ R 5 = .int .i64 (i : Int) ∧ ∀ l ∈ ll.take i, lE l = 0)
    (fun r => r.2.2 = V ∧ ((r.1 = .exit 0 ∧ ∀ l ∈ ll, lE l = 0) ∨ (r.1 = .ret ∧ r.2.1 2 = .int .i64 (wE 0 ll).1 ∧ r.2.1 3 = .int .i64 (wE 0 ll).2))) ⟨rfl, r1, rfl, by simp⟩ ?_ ?_ ?_
  · rintro i R X hi ⟨rfl, f1, f5, ha⟩
    unfold ref33_Check_L1
    have e1 : decide ((i : Int) < (ll.length : Int)) = true := decide_eq_true (by omega)
    have hl := hF.n7 _ (List.getElem_mem hi)
    simp only [SX, f1, f5, Nat.zero_add, c7, ln, e1]
    refine rInner_ok (b := b) (i := i) hw hb hi (by omega) (by omega) ?_ ?_ ?_ (fun R2 a b c => ?_) (fun R2 a b c => ?_)
    · exact f1
    · exact f5
    · rfl
    · simp only [SX, b, add1 i _ (by omega), Ok_some]
      exact .inl ⟨trivial, trivial, a, rfl, all_snoc hi ha c⟩
    · have ew := wE_at (n := 0) hi ha c
      simp only [SX, Ok_some]
      exact .inr ⟨by simp, trivial, .inr ⟨trivial, by rw [ew, a]; simp, by rw [ew, b]⟩⟩
  · rintro R X ⟨rfl, f1, f5, ha⟩
    unfold ref33_Check_L1
    have e1 : decide ((ll.length : Int) < (ll.length : Int)) = false := decide_eq_false (by omega)
    rw [List.take_length] at ha
    simp only [SX, f1, f5, Nat.zero_add, c7, ln, e1, Ok_some]
    exact ⟨by simp, trivial, .inl ⟨trivial, ha⟩⟩
  · rintro ⟨y, R, X⟩ ⟨hX, hh⟩
    simp only at hX hh
    subst hX
    rcases hh with ⟨rfl, a⟩ | ⟨rfl, a, b⟩
    · simp only [SX, wE_zero a, Ok_some]
      exact ⟨trivial, .refl _⟩
    · simp only [SX, a, b, Ok_some]
      exact ⟨trivial, .refl _⟩
theorem rJ2_ok {JR : Nat → Value} (e : Int) (h : WkR V x ll sv sq qq wv) (hb : WBx V b x sv sq qq wv) (hF : FarB x ll) (r1 : JR 1 = ptV b) :
    Ok (ref33_Check_J2 omS JR (ptV b) (.int .i64 e) V) fun r => r.1 = .tuple #[.int .i64 (if e = 0 then (if 60 < many ll then 0 else (wE 0 ll).1) else 0), .int .i64 (if e = 0 then (if 60 < many ll then 3 else (wE 0 ll).2) else e)] ∧ Le V r.2 := by
  unfold ref33_Check_J2
  have q2 := refCalls_ok (x := x) (sv := sv) (sq := sq) (qq := qq) h.ops (by have := hF.n6; omega) fun l hl => by have := hF.n7 l hl; omega
  by_cases c : e = 0
  case neg =>
    have d := decide_eq_false c
    have := rJ1_ok (V := V) (JR := puts JR [(24, .int .i64 e), (25, .bool false), (26, .bool false), (27, undef), (28, undef), (29, undef), (30, .bool false)]) e h.ops hb hF r1
    simp only [if_neg c] at this
    simp only [SX, d, if_neg c]
    exact this
  have d := decide_eq_true c
  by_cases c3 : 60 < many ll
  · have d3 := decide_eq_true (show (60 : Int) < (many ll : Int) by omega)
    simp only [SX, d, hb.all, q2, d3, if_pos c, if_pos c3]
    refine Ok.mono (rJ1_ok 3 h.ops hb hF ?_) fun r hr => hr
    exact r1
  · have d3 := decide_eq_false (show ¬ (60 : Int) < (many ll : Int) by omega)
    simp only [SX, d, hb.all, q2, d3, if_pos c, if_neg c3]
    have := fun JR' h' => rJ1_ok (V := V) (JR := JR') e h.ops hb hF h'
    simp only [if_pos c] at this
    refine this _ ?_
    exact r1
theorem rCheck33_ok (h : WkR W x ll sv sq qq wv) (hF : FarB x ll) : omS (.func (.func 8) #[] #[]) [wkV x sv sq qq wv] W = some (.tuple #[.int .i64 (wkE x ll).1, .int .i64 (wkE x ll).2], W) := by
  refine om_drop rfl ?_ ref33_Check_om
  unfold ref33_Check wkE
  obtain ⟨V, bx, hle, nV, hb⟩ := wBox x sv sq qq wv W
  have hw := h.mono hle
  have q1 := rCheck2_ok hw.sec (by have := hF.n1; omega) (fun s hs => by have := hF.n2 s hs; omega) hw.st hw.qs (by have := hF.n3; omega) (by have := hF.n4; omega) fun l hl => by have := hF.n5 l hl; omega
  have c7 := hb.c7
  have ln := fun W' => Row.len hw.ops len29 W' 3 #[false]
  have J := fun JR e r1 => rJ2_ok (V := V) (JR := JR) e hw hb hF r1
  by_cases c0 : mdE x = 0
  case neg =>
    have d := decide_eq_false c0
    simp only [SX, bx, Nat.zero_add, hb.l7, q1, d, wu1, if_neg c0]
    have := fun JR r1 => J JR (mdE x) r1
    simp only [if_neg c0] at this
    exact (this _ rfl).mono fun r hr => ⟨hr.1, hle.trans hr.2⟩
  have d0 := decide_eq_true c0
  rw [if_pos c0]
  by_cases c1 : ll.length < 1
  · have d := decide_eq_true (show (ll.length : Int) < 1 by omega)
    simp only [SX, bx, Nat.zero_add, hb.l7, q1, d0, c7, ln, d, if_pos (Or.inl c1 : ll.length < 1 ∨ 8 < ll.length)]
    exact (J _ 7 rfl).mono fun r hr => ⟨hr.1, hle.trans hr.2⟩
  have d1 := decide_eq_false (show ¬ (ll.length : Int) < 1 by omega)
  by_cases c2 : 8 < ll.length
  · have d := decide_eq_true (show (8 : Int) < (ll.length : Int) by omega)
    simp only [SX, bx, Nat.zero_add, hb.l7, q1, d0, c7, ln, d1, d, if_pos (Or.inr c2 : ll.length < 1 ∨ 8 < ll.length)]
    exact (J _ 7 rfl).mono fun r hr => ⟨hr.1, hle.trans hr.2⟩
  have d2 := decide_eq_false (show ¬ (8 : Int) < (ll.length : Int) by omega)
  rw [if_neg (show ¬ (ll.length < 1 ∨ 8 < ll.length) by omega)]
  simp only [SX, bx, Nat.zero_add, hb.l7, q1, d0, c7, ln, d1, d2]
  have := fun JR r1 => J JR (mdE x) r1
  simp only [if_pos c0] at this
  refine (this _ rfl).mono fun r hr => ⟨hr.1.trans ?_, hle.trans hr.2⟩
  by_cases c3 : 60 < many ll
  · simp only [if_pos c3]
  · simp only [if_neg c3]
end
def sumJ (l : List Int) : Int := l.foldr (· + ·) 0
theorem sumJ_app (l : List Int) (n : Int) : sumJ (l ++ [n]) = sumJ l + n := by
  induction l with
  | nil => simp [sumJ]
  | cons a l ih => simp only [sumJ, List.cons_append, List.foldr_cons] at ih ⊢; omega
theorem sumJ_le {l : List Int} {m : Int} (h : ∀ a ∈ l, 0 ≤ a ∧ a ≤ m) (hm : 0 ≤ m) : 0 ≤ sumJ l ∧ sumJ l ≤ m * l.length := by
  induction l with
  | nil => simp [sumJ]
  | cons a l ih =>
    have ha := h a (List.mem_cons_self ..)
    have := ih fun x hx => h x (List.mem_cons_of_mem _ hx)
    have e : sumJ (a :: l) = a + sumJ l := rfl
    have e2 : m * ((a :: l).length : Int) = m * (l.length : Int) + m := by
      rw [List.length_cons, Int.natCast_succ, Int.mul_add, Int.mul_one]
    rw [e, e2]
    omega
theorem sumJ_take {α : Type} (f : α → Int) {l : List α} {k : Nat} (hk : k < l.length) : sumJ ((l.take (k + 1)).map f) = sumJ ((l.take k).map f) + f l[k] := by
  rw [List.take_succ_eq_append_getElem hk, List.map_append, List.map_singleton, sumJ_app]
def stpN (v : Ven) (o : OpT) : Int := (stepsE v o).1
def lN (v : Ven) (l : List OpT) : Int := sumJ (l.map (stpN v))
def totE (v : Ven) (ll : List (List OpT)) : Int := sumJ (ll.map (lN v))
theorem stpN_le (v : Ven) (o : OpT) : 0 ≤ stpN v o ∧ stpN v o ≤ 49 := by
  unfold stpN stepsE
  have := locksE_len v o
  split
  · simp only; omega
  · simp
theorem lN_le (v : Ven) {l : List OpT} (h : l.length ≤ 70) : 0 ≤ lN v l ∧ lN v l ≤ 3430 := by
  have := sumJ_le (l := l.map (stpN v)) (m := 49) (fun a ha => by obtain ⟨o, -, rfl⟩ := List.mem_map.1 ha; exact stpN_le v o) (by omega)
  rw [List.length_map] at this
  unfold lN
  omega
theorem totE_le (v : Ven) {ll : List (List OpT)} (h : ∀ l ∈ ll, l.length ≤ 70) (h1 : ll.length ≤ 10) : 0 ≤ totE v ll ∧ totE v ll ≤ 34300 := by
  have := sumJ_le (l := ll.map (lN v)) (m := 3430) (fun a ha => by obtain ⟨l, hl, rfl⟩ := List.mem_map.1 ha; exact lN_le v (h l hl)) (by omega)
  rw [List.length_map] at this
  unfold totE
  omega
theorem lN_take (v : Ven) {l : List OpT} {k : Nat} (hk : k < l.length) : lN v (l.take (k + 1)) = lN v (l.take k) + stpN v l[k] := sumJ_take _ hk
theorem totE_take (v : Ven) {ll : List (List OpT)} {k : Nat} (hk : k < ll.length) : totE v (ll.take (k + 1)) = totE v (ll.take k) + lN v ll[k] := sumJ_take _ hk
theorem refSteps_ok {v : Ven} {o : OpT} {sv : Value} {W : AW} (hs : Secs W sv v.secs) (hv : v.secs.length < 1000) (hr : ∀ s ∈ v.secs, s.rows.length < 1000) : omS (.func (.func 26) #[] #[]) [venV v sv, opV o] W = some (.tuple #[.int .i64 (stepsE v o).1, .int .i64 (stepsE v o).2], W) := by
  refine om_drop rfl ?_ ref22_Steps_om
  unfold ref22_Steps stepsE
  obtain ⟨W1, hB, hle, hn, c4, c0, c3⟩ := venBox v sv W
  obtain ⟨W2, b2, n2, l2, k12, k0⟩ := opBox o W1
  have l02 := hle.trans l2
  obtain ⟨u, W3, q1, q2, q3⟩ := refAll_ok (o := o) (hs.mono l02) hv hr
  simp only [SX, hB, b2, c4 _ l2, k12 _ (.refl _), q1, q3.len len77, Ok_some]
  refine ⟨?_, l02.trans q2⟩
  unfold allE
  by_cases he : (locksE v o).2 = 0
  · rw [if_pos he, if_pos he, allL_len, he]
    congr 3
  · rw [if_neg he, if_neg he]; rfl
section
variable {W V : AW} {b : Nat} {x : MdT} {ll : List (List OpT)} {sv sq qq wv v1 v13 v14 v15 : Value}
theorem totIn_ok {K : LT → Option LT} {Q : LT → Prop} {R0 : Nat → Value} {U : AW} {u : Value} {l : List OpT} {z0 : Int} (hG : GW V) (hs : SecsC V sv x.v.secs) (hv : x.v.secs.length < 1000) (hb : WBx V b x sv sq qq wv) (hbV : b < V.next) (hl : OpL V u l) (h2 : l.length ≤ 70) (hz : 0 ≤ z0 ∧ z0 ≤ 1000000) (hU : Le V U)
    (r0 : R0 0 = ptV b) (r3 : R0 3 = .int .i64 z0) (r13 : R0 13 = v13) (r14 : R0 14 = v14) (r15 : R0 15 = v15) (r19 : R0 19 = u) (r20 : R0 20 = .int .i64 (l.length : Int)) (r21 : R0 21 = .int .i64 0)
    (hK : ∀ R U, Le V U → R 0 = ptV b → R 3 = .int .i64 (z0 + lN x.v l) → R 13 = v13 → R 14 = v14 → R 15 = v15 → Ok (K (.exit 2, R, U)) Q) : Ok (bnd (loopO (bounds_total_L1_L2 omS) R0 U) K) Q := by
  refine Ok_loop l.length (by omega) (fun k R X => Le V X ∧ R 0 = ptV b ∧ (∃ z, R 3 = .int .i64 z ∧ z = z0 + lN x.v (l.take k)) ∧ R 13 = v13 ∧ R 14 = v14 ∧ R 15 = v15 ∧ R 19 = u ∧ R 20 = .int .i64 (l.length : Int) ∧ R 21 = .int .i64 (k : Int))
    (fun r => Le V r.2.2 ∧ r.1 = .exit 2 ∧ r.2.1 0 = ptV b ∧ r.2.1 3 = .int .i64 (z0 + lN x.v l) ∧ r.2.1 13 = v13 ∧ r.2.1 14 = v14 ∧ r.2.1 15 = v15) ⟨hU, r0, ⟨z0, r3, by simp [lN, sumJ]⟩, r13, r14, r15, r19, r20, r21⟩ ?_ ?_ ?_
  · rintro k R X hk ⟨hX, f0, ⟨z, f3, rfl⟩, f13, f14, f15, f19, f20, f21⟩
    unfold bounds_total_L1_L2
    have e1 : decide ((k : Int) < (l.length : Int)) = true := decide_eq_true (by omega)
    obtain ⟨p, p1, p2⟩ := hl.get hk
    obtain ⟨Y, s1, s2, s3⟩ := opSlot l[k] X
    have hY := hX.trans s2
    have l4 := (hb.mono hbV hY).l4
    have q := planSteps_ok (o := l[k]) (hs.mono hY) hv (hG.mono hY)
    have b1 := lN_le x.v (l := l.take k) (by rw [List.length_take]; omega)
    have b2 := stpN_le x.v l[k]
    have ea := fun W' => oBin_add (P := Tryz.prog) (W := W') (t := 3) (c := false) (d := false) (a := z0 + lN x.v (l.take k)) (b := (stepsE x.v l[k]).1) (by unfold stpN at b2; omega) (by unfold stpN at b2; omega)
    simp only [SX, oNilCheck_ptr, Nat.zero_add, f0, f3, f19, f20, f21, e1, p1, p2 _ hX, al56, s1, s3, l4, q, ea, add1 k _ (by omega), Ok_some]
    refine .inl ⟨trivial, hY, f0, ⟨_, rfl, ?_⟩, f13, f14, f15, f19, f20, rfl⟩
    rw [lN_take x.v hk]
    unfold stpN
    omega
  · rintro R X ⟨hX, f0, ⟨z, f3, rfl⟩, f13, f14, f15, f19, f20, f21⟩
    unfold bounds_total_L1_L2
    have e1 : decide ((l.length : Int) < (l.length : Int)) = false := decide_eq_false (by omega)
    rw [List.take_length] at f3
    simp only [SX, f20, f21, e1, Ok_some]
    exact ⟨by simp, hX, trivial, f0, f3, f13, f14, f15⟩
  · rintro ⟨y, R, X⟩ ⟨hX, rfl, a, b, c, d, e⟩
    exact hK R X hX a b c d e
theorem total_ok (hG : GW W) (h : WkR W x ll sv sq qq wv) (hF : FarB x ll) (hb : WBx W b x sv sq qq wv) (hbW : b < W.next) : omS (.func (.func 25) #[] #[]) [ptV b] W = some (.int .i64 (totE x.v ll), W) := by
  refine om_drop rfl ?_ bounds_total_om
  unfold bounds_total
  have c7 := hb.c7
  have ln := fun W' => Row.len h.ops len29 W' 3 #[false]
  obtain ⟨n1, n2, n3, n4, n5, n6, n7⟩ := hF
  simp only [SX, oNilCheck_ptr, Nat.zero_add, c7, ln]
  refine Ok_loop ll.length (by omega) (fun i R X => Le W X ∧ R 0 = ptV b ∧ (∃ z, R 3 = .int .i64 z ∧ z = totE x.v (ll.take i)) ∧ R 13 = wv ∧ R 14 = .int .i64 (ll.length : Int) ∧ R 15 = .int .i64 (i : Int))
    (fun r => Le W r.2.2 ∧ r.1 = .exit 0 ∧ r.2.1 3 = .int .i64 (totE x.v ll)) ?_ ?_ ?_ ?_
  · exact ⟨.refl _, rfl, ⟨0, rfl, by simp [totE, sumJ]⟩, rfl, rfl, rfl⟩
  · rintro i R X hi ⟨hX, f0, ⟨z, f3, rfl⟩, f13, f14, f15⟩
    unfold bounds_total_L1
    have e1 : decide ((i : Int) < (ll.length : Int)) = true := decide_eq_true (by omega)
    obtain ⟨p, u, p1, p2, p3⟩ := h.ops.get hi
    have lu := fun W' => Row.len p2 len57 W' 3 #[false]
    have hl := n7 _ (List.getElem_mem hi)
    have bz := totE_le x.v (ll := ll.take i) (fun l hl => n7 l (List.mem_of_mem_take hl)) (by rw [List.length_take]; omega)
    simp only [SX, f13, f14, f15, e1, p1, p3 _ hX, lu]
    refine totIn_ok (b := b) (z0 := totE x.v (ll.take i)) (v13 := wv) (v14 := .int .i64 (ll.length : Int)) (v15 := .int .i64 (i : Int)) hG h.sec (by omega) hb hbW p2 hl (by omega) hX ?_ ?_ ?_ ?_ ?_ ?_ ?_ ?_ (fun R2 Y hY a b c d e => ?_)
    · exact f0
    · exact f3
    · exact f13
    · exact f14
    · exact f15
    · rfl
    · rfl
    · rfl
    · simp only [SX, e, add1 i _ (by omega), Ok_some]
      exact .inl ⟨trivial, hY, a, ⟨_, b, (totE_take x.v hi).symm⟩, c, d, rfl⟩
  · rintro R X ⟨hX, f0, ⟨z, f3, rfl⟩, f13, f14, f15⟩
    unfold bounds_total_L1
    have e1 : decide ((ll.length : Int) < (ll.length : Int)) = false := decide_eq_false (by omega)
    rw [List.take_length] at f3
    simp only [SX, f14, f15, e1, Ok_some]
    exact ⟨by simp, hX, trivial, f3⟩
  · rintro ⟨y, R, X⟩ ⟨hX, rfl, a⟩
    simp only at a hX
    simp only [SX, a, Ok_some]
    exact ⟨trivial, hX⟩
def ttE (x : MdT) (ll : List (List OpT)) : Int × Int := if (wkE x ll).2 = 0 then (totE x.v ll, 0) else (0, (wkE x ll).2)
theorem bTotal_ok (hG : GW W) (h : WkR W x ll sv sq qq wv) (hF : FarB x ll) : omS (.func (.func 9) #[] #[]) [wkV x sv sq qq wv] W = some (.tuple #[.int .i64 (ttE x ll).1, .int .i64 (ttE x ll).2], W) := by
  refine om_drop rfl ?_ bounds_Total_om
  unfold bounds_Total ttE
  obtain ⟨V, bx, hle, nV, hb⟩ := wBox x sv sq qq wv W
  have q1 := bCheck_ok (hG.mono hle) (h.mono hle) hF
  have q2 := total_ok (hG.mono hle) (h.mono hle) hF hb (by omega)
  by_cases c : (wkE x ll).2 = 0
  · have d := decide_eq_true c
    simp only [SX, bx, hb.all, q1, d, q2, if_pos c, Ok_some]
    exact ⟨trivial, hle⟩
  · have d := decide_eq_false c
    simp only [SX, bx, hb.all, q1, d, if_neg c, Ok_some]
    exact ⟨trivial, hle⟩
theorem rTotIn_ok {K : LT → Option LT} {Q : LT → Prop} {R0 : Nat → Value} {i : Nat} {z0 : Int} (h : WkR V x ll sv sq qq wv) (hF : FarB x ll) (hb : WBx V b x sv sq qq wv) (hi : i < ll.length) (hz : 0 ≤ z0 ∧ z0 ≤ 1000000)
    (r1 : R0 1 = ptV b) (r6 : R0 6 = .int .i64 z0) (r7 : R0 7 = .int .i64 (i : Int)) (r8 : R0 8 = .int .i64 0)
    (hK : ∀ R, R 1 = ptV b → R 6 = .int .i64 (z0 + lN x.v ll[i]) → R 7 = .int .i64 (i : Int) → Ok (K (.exit 2, R, V)) Q) : Ok (bnd (loopO (ref33_Total_L1_L2 omS) R0 V) K) Q := by
  obtain ⟨p, u, p1, p2, p3⟩ := h.ops.get hi
  have lu := fun W' => Row.len p2 len57 W' 3 #[false]
  have c7 := hb.c7
  obtain ⟨n1, n2, n3, n4, n5, n6, n7⟩ := hF
  have hl := n7 _ (List.getElem_mem hi)
  refine Ok_loop ll[i].length (by omega) (fun k R X => X = V ∧ R 1 = ptV b ∧ (∃ z, R 6 = .int .i64 z ∧ z = z0 + lN x.v (ll[i].take k)) ∧ R 7 = .int .i64 (i : Int) ∧ R 8 = .int .i64 (k : Int))
    (fun r => r.2.2 = V ∧ r.1 = .exit 2 ∧ r.2.1 1 = ptV b ∧ r.2.1 6 = .int .i64 (z0 + lN x.v ll[i]) ∧ r.2.1 7 = .int .i64 (i : Int)) ⟨rfl, r1, ⟨z0, r6, by simp [lN, sumJ]⟩, r7, r8⟩ ?_ ?_ ?_
  · rintro k R X hk ⟨rfl, f1, ⟨z, f6, rfl⟩, f7, f8⟩
    unfold ref33_Total_L1_L2
    have e1 : decide ((k : Int) < (ll[i].length : Int)) = true := decide_eq_true (by omega)
    obtain ⟨q, q1, q2⟩ := p2.get hk
    have hq := refSteps_ok (W := X) (o := ll[i][k]) h.sec.1 (by omega) (fun s hs => by have := n2 s hs; omega)
    have b1 := lN_le x.v (l := ll[i].take k) (by rw [List.length_take]; omega)
    have b2 := stpN_le x.v ll[i][k]
    have ea := fun W' => oBin_add (P := Tryz.prog) (W := W') (t := 3) (c := false) (d := false) (a := z0 + lN x.v (ll[i].take k)) (b := (stepsE x.v ll[i][k]).1) (by unfold stpN at b2; omega) (by unfold stpN at b2; omega)
    simp only [SX, Nat.zero_add, f1, f6, f7, f8, c7, hb.l4, p1, p3 _ (.refl _), lu, e1, q1, q2 _ (.refl _), hq, ea, add1 k _ (by omega), Ok_some]
    refine .inl ⟨trivial, trivial, f1, ⟨_, rfl, ?_⟩, f7, rfl⟩
    rw [lN_take x.v hk]
    unfold stpN
    omega
  · rintro R X ⟨rfl, f1, ⟨z, f6, rfl⟩, f7, f8⟩
    unfold ref33_Total_L1_L2
    have e1 : decide ((ll[i].length : Int) < (ll[i].length : Int)) = false := decide_eq_false (by omega)
    rw [List.take_length] at f6
    simp only [SX, Nat.zero_add, f1, f7, f8, c7, p1, p3 _ (.refl _), lu, e1, Ok_some]
    exact ⟨by simp, trivial, trivial, f1, f6, f7⟩
  · rintro ⟨y, R, X⟩ ⟨rfl, rfl, a, b, c⟩
    exact hK R a b c
theorem rTotal_ok (h : WkR W x ll sv sq qq wv) (hF : FarB x ll) : omS (.func (.func 10) #[] #[]) [wkV x sv sq qq wv] W = some (.tuple #[.int .i64 (ttE x ll).1, .int .i64 (ttE x ll).2], W) := by
  refine om_drop rfl ?_ ref33_Total_om
  unfold ref33_Total ttE
  obtain ⟨V, bx, hle, nV, hb⟩ := wBox x sv sq qq wv W
  have hw := h.mono hle
  have q1 := rCheck33_ok hw hF
  have c7 := hb.c7
  have ln := fun W' => Row.len hw.ops len29 W' 3 #[false]
  by_cases c : (wkE x ll).2 = 0
  case neg =>
    have d := decide_eq_false c
    simp only [SX, bx, hb.all, q1, d, if_neg c, Ok_some]
    exact ⟨trivial, hle⟩
  have d := decide_eq_true c
  have n6 := hF.n6
  simp only [SX, bx, hb.all, q1, d, if_pos c]
  refine Ok_loop ll.length (by omega) (fun i R X => X = V ∧ R 1 = ptV W.next ∧ (∃ z, R 6 = .int .i64 z ∧ z = totE x.v (ll.take i)) ∧ R 7 = .int .i64 (i : Int))
    (fun r => r.2.2 = V ∧ r.1 = .exit 0 ∧ r.2.1 6 = .int .i64 (totE x.v ll)) ?_ ?_ ?_ ?_
  · exact ⟨rfl, rfl, ⟨0, rfl, by simp [totE, sumJ]⟩, rfl⟩
  · rintro i R X hi ⟨rfl, f1, ⟨z, f6, rfl⟩, f7⟩
    unfold ref33_Total_L1
    have e1 : decide ((i : Int) < (ll.length : Int)) = true := decide_eq_true (by omega)
    have bz := totE_le x.v (ll := ll.take i) (fun l hl => hF.n7 l (List.mem_of_mem_take hl)) (by rw [List.length_take]; omega)
    simp only [SX, Nat.zero_add, f1, f7, c7, ln, e1]
    refine rTotIn_ok (b := W.next) (i := i) (z0 := totE x.v (ll.take i)) hw hF hb hi (by omega) ?_ ?_ ?_ ?_ (fun R2 a b c => ?_)
    · exact f1
    · exact f6
    · exact f7
    · rfl
    · simp only [SX, c, add1 i _ (by omega), Ok_some]
      exact .inl ⟨trivial, trivial, a, ⟨_, b, (totE_take x.v hi).symm⟩, rfl⟩
  · rintro R X ⟨rfl, f1, ⟨z, f6, rfl⟩, f7⟩
    unfold ref33_Total_L1
    have e1 : decide ((ll.length : Int) < (ll.length : Int)) = false := decide_eq_false (by omega)
    rw [List.take_length] at f6
    simp only [SX, Nat.zero_add, f1, f7, c7, ln, e1, Ok_some]
    exact ⟨by simp, trivial, trivial, f6⟩
  · rintro ⟨y, R, X⟩ ⟨rfl, rfl, a⟩
    simp only at a
    simp only [SX, a, Ok_some]
    exact ⟨trivial, hle⟩
def mostE (v : Ven) (n : Int) : Int × Int := if (venE v).2 = 0 then (if n < 0 ∨ 60 < n then (0, 7) else (n * (1 + 2 * (v.sh + (v.secs.length : Int))), 0)) else (0, (venE v).2)
theorem most_bd {v : Ven} {n : Int} (he : (venE v).2 = 0) (h1 : ¬ n < 0) (h2 : ¬ 60 < n) (hv : v.secs.length < 1000) : (1 ≤ v.sh ∧ v.sh ≤ 16) ∧ 0 ≤ n * (1 + 2 * (v.sh + (v.secs.length : Int))) ∧ n * (1 + 2 * (v.sh + (v.secs.length : Int))) < 1000000 := by
  have hb := headBad_sh (venE_good he).2.1
  refine ⟨hb, Int.mul_nonneg (by omega) (by omega), ?_⟩
  have h3 : n * (1 + 2 * (v.sh + (v.secs.length : Int))) ≤ 60 * (1 + 2 * (v.sh + (v.secs.length : Int))) := Int.mul_le_mul_of_nonneg_right (by omega) (by omega)
  omega
theorem bMost_ok {v : Ven} {n : Int} (hs : SecsC W sv v.secs) (hv : v.secs.length < 1000) : omS (.func (.func 11) #[] #[]) [venV v sv, .int .i64 n] W = some (.tuple #[.int .i64 (mostE v n).1, .int .i64 (mostE v n).2], W) := by
  refine om_drop rfl ?_ bounds_Most_om
  unfold bounds_Most mostE
  obtain ⟨W1, hB, hle, hn, c4, c0, c3⟩ := venBox v sv W
  have q := venCheck_ok (hs.mono hle) hv
  by_cases c : (venE v).2 = 0
  case neg =>
    have d := decide_eq_false c
    simp only [SX, hB, c4 _ (.refl _), q, d, if_neg c, Ok_some]
    exact ⟨trivial, hle⟩
  have d := decide_eq_true c
  rw [if_pos c]
  by_cases c1 : n < 0
  · have d1 := decide_eq_true c1
    simp only [SX, hB, c4 _ (.refl _), q, d, d1, if_pos (Or.inl c1 : n < 0 ∨ 60 < n), Ok_some]
    exact ⟨trivial, hle⟩
  have d1 := decide_eq_false c1
  by_cases c2 : 60 < n
  · have d2 := decide_eq_true c2
    simp only [SX, hB, c4 _ (.refl _), q, d, d1, d2, if_pos (Or.inr c2 : n < 0 ∨ 60 < n), Ok_some]
    exact ⟨trivial, hle⟩
  have d2 := decide_eq_false c2
  obtain ⟨⟨s1, s2⟩, m1, m2⟩ := most_bd c c1 c2 hv
  have e1 := fun W' => oBinAddF W' v.sh (v.secs.length : Int)
  have e2 := fun W' => oBin_mul (P := Tryz.prog) (W := W') (t := 3) (c := true) (d := false) (a := 2) (b := v.sh + (v.secs.length : Int)) (by omega) (by omega)
  have e3 := fun W' => oBin_add (P := Tryz.prog) (W := W') (t := 3) (c := true) (d := false) (a := 1) (b := 2 * (v.sh + (v.secs.length : Int))) (by omega) (by omega)
  have e4 := fun W' => oBin_mul (P := Tryz.prog) (W := W') (t := 3) (c := false) (d := false) (a := n) (b := 1 + 2 * (v.sh + (v.secs.length : Int))) (by omega) (by omega)
  simp only [SX, hB, Nat.zero_add, c4 _ (.refl _), c0 _ (.refl _), c3 _ (.refl _), q, d, d1, d2, hs.1.len len34, e1, e2, e3, e4, if_neg (show ¬ (n < 0 ∨ 60 < n) by omega), Ok_some]
  exact ⟨trivial, hle⟩
theorem rMost_ok {v : Ven} {n : Int} (hs : SecsC W sv v.secs) (hv : v.secs.length < 1000) (hr : ∀ s ∈ v.secs, s.rows.length < 1000) : omS (.func (.func 12) #[] #[]) [venV v sv, .int .i64 n] W = some (.tuple #[.int .i64 (mostE v n).1, .int .i64 (mostE v n).2], W) := by
  refine om_drop rfl ?_ ref33_Most_om
  unfold ref33_Most mostE
  obtain ⟨W1, hB, hle, hn, c4, c0, c3⟩ := venBox v sv W
  have h70 : decide ((7 : Int) = 0) = false := rfl
  have q := refVen_ok (hs.mono hle).1 hv hr
  by_cases c : (venE v).2 = 0
  case neg =>
    have d := decide_eq_false c
    unfold ref33_Most_J1
    simp only [SX, hB, c4 _ (.refl _), q, d, wu1, if_neg c, Ok_some]
    exact ⟨trivial, hle⟩
  have d := decide_eq_true c
  rw [if_pos c]
  by_cases c1 : n < 0
  · have d1 := decide_eq_true c1
    unfold ref33_Most_J1
    simp only [SX, hB, c4 _ (.refl _), q, d, d1, h70, if_pos (Or.inl c1 : n < 0 ∨ 60 < n), Ok_some]
    exact ⟨trivial, hle⟩
  have d1 := decide_eq_false c1
  by_cases c2 : 60 < n
  · have d2 := decide_eq_true c2
    unfold ref33_Most_J1
    simp only [SX, hB, c4 _ (.refl _), q, d, d1, d2, h70, if_pos (Or.inr c2 : n < 0 ∨ 60 < n), Ok_some]
    exact ⟨trivial, hle⟩
  have d2 := decide_eq_false c2
  obtain ⟨⟨s1, s2⟩, m1, m2⟩ := most_bd c c1 c2 hv
  have e1 := fun W' => oBinAddF W' v.sh (v.secs.length : Int)
  have e2 := fun W' => oBin_mul (P := Tryz.prog) (W := W') (t := 3) (c := true) (d := false) (a := 2) (b := v.sh + (v.secs.length : Int)) (by omega) (by omega)
  have e3 := fun W' => oBin_add (P := Tryz.prog) (W := W') (t := 3) (c := true) (d := false) (a := 1) (b := 2 * (v.sh + (v.secs.length : Int))) (by omega) (by omega)
  have e4 := fun W' => oBin_mul (P := Tryz.prog) (W := W') (t := 3) (c := false) (d := false) (a := n) (b := 1 + 2 * (v.sh + (v.secs.length : Int))) (by omega) (by omega)
  unfold ref33_Most_J1
  simp only [SX, hB, Nat.zero_add, c4 _ (.refl _), c0 _ (.refl _), c3 _ (.refl _), q, d, d1, d2, hs.1.len len34, e1, e2, e3, e4, if_neg (show ¬ (n < 0 ∨ 60 < n) by omega), Ok_some]
  exact ⟨trivial, hle⟩
end
theorem bd28 (a b c : Int) (sv : Value) (W : AW) : oBuild Tryz.prog 28 [(0, .agg #[.int .i64 a, .int .i64 b, .int .i64 c, sv])] W = some (.agg #[.int .i64 a, .int .i64 b, .int .i64 c, sv, .int .i64 0, .slice none 0 0, .slice none 0 0], W) := Eq.trans (by kernel_rfl) rfl
theorem bd31 (a b c d : Int) (sv u t : Value) (W : AW) : oBuild Tryz.prog 31 [(0, .agg #[.int .i64 a, .int .i64 b, .int .i64 c, sv, .int .i64 d, u, t])] W = some (.agg #[.int .i64 a, .int .i64 b, .int .i64 c, sv, .int .i64 d, u, t, .slice none 0 0], W) := Eq.trans (by kernel_rfl) rfl
section
variable {W : AW} {x : MdT} {ll : List (List OpT)} {sv sq qq wv sv2 : Value} {v : Ven} {n : Int}
theorem turns_om (hG : GW W) (h : WkR W x ll sv sq qq wv) (hs : SecsC W sv2 v.secs) : omS (.func (.func 3) #[] #[]) [wkV x sv sq qq wv, venV v sv2, .int .i64 n] W = some (.bool true, W) := by
  refine om_drop rfl ?_ law33_BoundsTurns_om
  unfold law33_BoundsTurns
  obtain ⟨V1, bx, hle1, nV1, hb1⟩ := wBox x sv sq qq wv W
  obtain ⟨V, hB, hle2, hn, c4, c0, c3⟩ := venBox v sv2 V1
  have hle := hle1.trans hle2
  have hb := hb1.mono (by omega) hle2
  have hG' := hG.mono hle
  have hw := h.mono hle
  have hs' := hs.mono hle
  have sh := shown_ok hG'
  obtain ⟨f1, q1, k1⟩ := far_ok (lim := 20) hw
  cases f1 with
  | true =>
    simp only [SX, bx, hB, hb.all, q1, sh, Ok_some]
    exact ⟨trivial, hle⟩
  | false =>
  have hw2 : WkR V ⟨v, 0, [], []⟩ [] sv2 (.slice none 0 0) (.slice none 0 0) (.slice none 0 0) := ⟨hs', ⟨none, 0, rfl, .inl rfl⟩, ⟨none, 0, rfl, .inl rfl⟩, ⟨none, 0, rfl, .inl rfl⟩⟩
  obtain ⟨f2, q2, k2⟩ := far_ok (lim := 0) hw2
  cases f2 with
  | true =>
    simp only [SX, bx, hB, hb.all, q1, c4 _ (.refl _), bd28, bd31, q2, sh, Ok_some]
    exact ⟨trivial, hle⟩
  | false =>
  have hF := k1 rfl
  have hF2 := k2 rfl
  have n1 := hF2.n1
  have n2 := hF2.n2
  simp only at n1 n2
  have a1 := bCheck_ok hG' hw hF
  have a2 := rCheck33_ok hw hF
  have a3 := bTotal_ok hG' hw hF
  have a4 := rTotal_ok hw hF
  have a5 := bMost_ok (n := n) hs' (by omega)
  have a6 := rMost_ok (n := n) hs' (by omega) fun s hs => by have := n2 s hs; omega
  have eqi : ∀ z : Int, decide (z = z) = true := fun z => decide_eq_true rfl
  simp only [SX, bx, hB, hb.all, q1, c4 _ (.refl _), bd28, bd31, q2, a1, a2, a3, a4, a5, a6, sh, Ok_some]
  exact ⟨trivial, hle⟩
end
end Go.Proofs.YthjakbhkmpdblaaGreatDoor
namespace Go.Proofs.YthjakbhkmpdblaaGreatDoor
open Go Go.Eng Go.RowKit
theorem row_rd {α : Type} {W : AW} {z : Nat} {f : α → List Value} {v : Value} {l : List α} (h : Row W z (flatAt z f) v l) : Rd W z f v l := by
  obtain ⟨a, c, rfl, h⟩ := h
  refine ⟨a, c, rfl, ?_⟩
  rcases h with h | ⟨b, o, cs, h1, h2, h3, h4⟩
  · exact .inl h
  · refine .inr ⟨b, o, cs, h1, h2, h3, ?_⟩
    clear h3 h1 h2
    induction l generalizing o with
    | nil => simp
    | cons x l ih =>
      have e0 := h4 0 (by simp)
      rw [Nat.zero_mul, Nat.add_zero] at e0
      unfold flatAt at e0
      rw [List.getElem_cons_zero] at e0
      rw [List.length_cons, Nat.succ_mul, Nat.add_comm, List.take_add, e0, List.drop_drop, List.flatMap_cons, ih (o + z) fun i hi => ?_]
      have := h4 (i + 1) (by simp; omega)
      rw [List.getElem_cons_succ, Nat.succ_mul] at this
      rw [show o + z + i * z = o + (i * z + z) by omega]
      exact this
theorem vs_none (l c : Nat) : vs1 (.slice none l c) (.slice none l c) = true := by simp [vs1]
theorem addr_of {W : AW} {n : Nat} {t e : TypeId} {v : Value} (h : DR Tryz.prog W (n + 1) t [v]) (ht : Tryz.prog.underlying t = some (.slice e)) : ∃ a l c, v = .slice a l c ∧ (a = none ∨ ∃ b, a = some ⟨b, 0, none⟩) := by
  obtain ⟨a, len, cap, e1, -, -, h3, -⟩ := h.sliceA ht
  injection e1 with e1
  exact ⟨a, len, cap, e1, h3⟩
theorem vs_of {v : Value} (h : ∃ a l c, v = .slice a l c ∧ (a = none ∨ ∃ b, a = some ⟨b, 0, none⟩)) : vs1 v v = true ∧ Eng.one v = true := by
  obtain ⟨a, l, c, rfl, rfl | ⟨b, rfl⟩⟩ := h
  · exact ⟨vs_none _ _, rfl⟩
  · exact ⟨vs1_slice _ _ _ _, rfl⟩
theorem sec_of {W : AW} {n : Nat} {c : List Value} (h : DR Tryz.prog W (n + 3) 63 c) : ∃ s : Sec, ∀ pre post, SecAt W (pre ++ (c ++ post)) pre.length s := by
  obtain ⟨c1, c2, rfl, h1, h2⟩ := (h.struct Tryz.underlying63).cons
  obtain ⟨c3, c4, rfl, h3, h4⟩ := h2.cons
  obtain ⟨c5, c6, rfl, h5, h6⟩ := h4.cons
  obtain rfl := h6.nil
  obtain ⟨s, rfl, _⟩ := h1.str Tryz.underlying9
  obtain ⟨rv, zs, rfl, hz, _⟩ := h3.ints Tryz.underlying40 Tryz.underlying3 (by kernel_rfl)
  obtain ⟨q, rfl⟩ := h5.int Tryz.underlying3
  refine ⟨⟨s.data.toList, zs, q⟩, fun pre post => ⟨?_, ?_, rv, ?_, hz, vs_of (addr_of h3 Tryz.underlying40)⟩⟩
  · rw [List.getElem?_append_right (by omega), bytesL_back]; simp
  · rw [List.getElem?_append_right (by omega), Nat.add_sub_cancel_left]; rfl
  · rw [List.getElem?_append_right (by omega), Nat.add_sub_cancel_left]; rfl
theorem ven_of {W : AW} {n : Nat} {c : List Value} (h : DR Tryz.prog W (n + 5) 24 c) : ∃ (v : Ven) (sv : Value), c = [.int .i64 v.sh, .int .i64 v.ttl, .int .i64 v.ses, sv] ∧ SecsC W sv v.secs := by
  obtain ⟨c1, c2, rfl, h1, h2⟩ := (h.struct Tryz.underlying24).cons
  obtain ⟨c3, c4, rfl, h3, h4⟩ := h2.cons
  obtain ⟨c5, c6, rfl, h5, h6⟩ := h4.cons
  obtain ⟨c7, c8, rfl, h7, h8⟩ := h6.cons
  obtain rfl := h8.nil
  obtain ⟨a, rfl⟩ := h1.int Tryz.underlying3
  obtain ⟨b, rfl⟩ := h3.int Tryz.underlying2
  obtain ⟨d, rfl⟩ := h5.int Tryz.underlying2
  obtain ⟨sv, l, rfl, r1, a', c', r2, r3, r4, r5⟩ := h7.row Tryz.underlying22 (at_ := SecAt W) (fun c _ hc => sec_of hc)
  exact ⟨⟨a, b, d, l⟩, sv, rfl, r1, a', c', r2, .inl ⟨r3, r4⟩, r5⟩
theorem tk_of {W : AW} {n : Nat} {c : List Value} (h : DR Tryz.prog W (n + 2) 54 c) : ∃ a b d e : Int, c = [.int .u32 a, .int .u32 b, .int .u64 d, .int .u64 e] := by
  obtain ⟨c1, c2, rfl, h1, h2⟩ := (h.struct Tryz.underlying54).cons
  obtain ⟨c3, c4, rfl, h3, h4⟩ := h2.cons
  obtain ⟨c5, c6, rfl, h5, h6⟩ := h4.cons
  obtain ⟨c7, c8, rfl, h7, h8⟩ := h6.cons
  obtain rfl := h8.nil
  obtain ⟨a, rfl⟩ := h1.int Tryz.underlying51
  obtain ⟨b, rfl⟩ := h3.int Tryz.underlying51
  obtain ⟨d, rfl⟩ := h5.int Tryz.underlying52
  obtain ⟨e, rfl⟩ := h7.int Tryz.underlying52
  exact ⟨a, b, d, e, rfl⟩
theorem dr_i64 {W : AW} {n : Nat} {t : TypeId} {cs : List Value} (h : DR Tryz.prog W (n + 1) t cs) (ht : Tryz.prog.underlying t = some (.int .i64)) : ∃ m, cs = [.int .i64 m] ∧ m < 9223372036854775808 := by
  unfold DR at h
  rw [ht] at h
  obtain ⟨m, h1, -, h3⟩ := h
  have : IntKind.i64.max = 9223372036854775807 := rfl
  exact ⟨m, h1, by omega⟩
theorem op_of {W : AW} {n : Nat} {c : List Value} (h : DR Tryz.prog W (n + 3) 56 c) : ∃ o : OpT, c = (opV o).cells.toList ∧ o.nw < 9223372036854775808 := by
  obtain ⟨c1, r1, rfl, h1, h⟩ := (h.struct Tryz.underlying56).cons
  obtain ⟨c2, r2, rfl, h2, h⟩ := h.cons
  obtain ⟨c3, r3, rfl, h3, h⟩ := h.cons
  obtain ⟨c4, r4, rfl, h4, h⟩ := h.cons
  obtain ⟨c5, r5, rfl, h5, h⟩ := h.cons
  obtain ⟨c6, r6, rfl, h6, h⟩ := h.cons
  obtain ⟨c7, r7, rfl, h7, h⟩ := h.cons
  obtain ⟨c8, r8, rfl, h8, h⟩ := h.cons
  obtain ⟨c9, r9, rfl, h9, h⟩ := h.cons
  obtain rfl := h.nil
  obtain ⟨x1, rfl⟩ := h1.int Tryz.underlying3
  obtain ⟨x2, rfl⟩ := h2.int Tryz.underlying51
  obtain ⟨x3, rfl⟩ := h3.int Tryz.underlying2
  obtain ⟨x4, rfl⟩ := h4.int Tryz.underlying3
  obtain ⟨x5, rfl⟩ := h5.int Tryz.underlying3
  obtain ⟨x6, rfl⟩ := h6.int Tryz.underlying3
  obtain ⟨x7, rfl⟩ := h7.int Tryz.underlying51
  obtain ⟨a, b, d, e, rfl⟩ := tk_of h8
  obtain ⟨x9, rfl, hb9⟩ := dr_i64 h9 Tryz.underlying2
  exact ⟨⟨x1, x2, x3, x4, x5, x6, x7, a, b, d, e, x9⟩, rfl, hb9⟩

theorem op12_of {W : AW} {n : Nat} {c : List Value} (h : DR Tryz.prog W (n + 3) 56 c) : ∃ o : OpT, c = opC o := by
  obtain ⟨o, h1, -⟩ := op_of h
  exact ⟨o, h1⟩
theorem seat_of {W : AW} {n : Nat} {c : List Value} (h : DR Tryz.prog W (n + 2) 103 c) : ∃ x : SeT, c = seC x := by
  obtain ⟨c1, r1, rfl, h1, h⟩ := (h.struct Tryz.underlying103).cons
  obtain ⟨c2, r2, rfl, h2, h⟩ := h.cons
  obtain ⟨c3, r3, rfl, h3, h⟩ := h.cons
  obtain ⟨c4, r4, rfl, h4, h⟩ := h.cons
  obtain ⟨c5, r5, rfl, h5, h⟩ := h.cons
  obtain rfl := h.nil
  obtain ⟨x1, rfl⟩ := h1.int Tryz.underlying3
  obtain ⟨x2, rfl⟩ := h2.int Tryz.underlying51
  obtain ⟨x3, rfl⟩ := h3.int Tryz.underlying2
  obtain ⟨x4, rfl⟩ := h4.int Tryz.underlying52
  obtain ⟨x5, rfl⟩ := h5.int Tryz.underlying52
  exact ⟨⟨x1, x2, x3, x4, x5⟩, rfl⟩
theorem flat_in {α : Type} {z : Nat} {f : α → List Value} (hf : ∀ a, (f a).length = z) (a : α) (pre post : List Value) : flatAt z f (pre ++ (f a ++ post)) pre.length a := by
  unfold flatAt
  rw [List.drop_left, ← hf a, List.take_left]
theorem work_of {W : AW} {n : Nat} {c : List Value} (h : DR Tryz.prog W (n + 8) 31 c) : ∃ (x : MdT) (ll : List (List OpT)) (sv sq qq wv : Value), c = wkC x sv sq qq wv ∧ WkR W x ll sv sq qq wv := by
  obtain ⟨c1, r1, rfl, h1, h⟩ := (h.struct Tryz.underlying31).cons
  obtain ⟨c2, r2, rfl, h2, h⟩ := h.cons
  obtain rfl := h.nil
  obtain ⟨d1, s1, rfl, k1, k⟩ := (h1.struct Tryz.underlying28).cons
  obtain ⟨d2, s2, rfl, k2, k⟩ := k.cons
  obtain ⟨d3, s3, rfl, k3, k⟩ := k.cons
  obtain ⟨d4, s4, rfl, k4, k⟩ := k.cons
  obtain rfl := k.nil
  obtain ⟨v, sv, rfl, hs⟩ := ven_of (n := n + 1) k1
  obtain ⟨now, rfl⟩ := k2.int Tryz.underlying2
  obtain ⟨sq, st, rfl, hst, -⟩ := DR.row (n := n + 5) k3 Tryz.underlying25 (at_ := flatAt 5 seC) (fun c _ hc => by
    obtain ⟨x, rfl⟩ := seat_of (n := n + 3) hc
    exact ⟨x, fun pre post => flat_in seC_len x pre post⟩)
  obtain ⟨qq, qs, rfl, hqs, -⟩ := DR.row (n := n + 5) k4 Tryz.underlying26 (at_ := owAt W) (fun c _ hc => by
    obtain ⟨u, l, rfl, hl, -⟩ := DR.row (n := n + 4) hc Tryz.underlying64 (at_ := flatAt 1 u32C) (fun c _ hc => by
      obtain ⟨m, rfl⟩ := hc.int Tryz.underlying51
      exact ⟨m, fun pre post => flat_in u32C_len m pre post⟩)
    exact ⟨l, fun pre post => ⟨u, by rw [List.getElem?_append_right (by omega)]; simp, row_rd hl⟩⟩)
  obtain ⟨wv, ll, rfl, hw, -⟩ := DR.row (n := n + 6) h2 Tryz.underlying29 (at_ := opsAt W) (fun c _ hc => by
    obtain ⟨u, l, rfl, hl, -⟩ := DR.row (n := n + 5) hc Tryz.underlying57 (at_ := flatAt 12 opC) (fun c _ hc => by
      obtain ⟨o, rfl⟩ := op12_of (n := n + 2) hc
      exact ⟨o, fun pre post => flat_in opC_len o pre post⟩)
    exact ⟨l, fun pre post => ⟨u, by rw [List.getElem?_append_right (by omega)]; simp, hl⟩⟩)
  exact ⟨⟨v, now, st, qs⟩, ll, sv, sq, qq, wv, rfl, ⟨hs, row_rd hst, hqs, hw⟩⟩
section
variable {H : Type} {enc : TypeId × Value → H} {w : World} {σ : Inj} {W : AW} {v0 : Value} {d : DataW H} {p : List MemPlace} {r : Reach} {b0 : Nat}
theorem agg_of {t : TypeId} {fs : Array Field} (ht : Tryz.prog.underlying t = some (.struct fs)) (hv : Value.okWide Tryz.prog w r b0 t v0) : ∃ cs, v0 = .agg cs := by
  unfold Value.okWide at hv
  rw [ht] at hv
  obtain ⟨cs, h, _⟩ := hv
  exact ⟨cs, h⟩
theorem sim31 : simT Tryz.prog 8 31 = true := by kernel_rfl
theorem sim24 : simT Tryz.prog 8 24 = true := by kernel_rfl
theorem openWork (ho : Opened σ W w) (hv : Value.okWide Tryz.prog w r b0 31 v0) (h : DataW.Trod enc Tryz.prog w 0 (fun _ => true) true 31 v0 d p) :
    ∃ (σ2 : Inj) (W2 : AW) (x : MdT) (ll : List (List OpT)) (sv sq qq wv : Value), Opened σ2 W2 w ∧ Sub σ σ2 ∧ Le W W2 ∧ VR σ2 (wkV x sv sq qq wv) v0 ∧ WkR W2 x ll sv sq qq wv := by
  obtain ⟨cs, rfl⟩ := agg_of Tryz.underlying31 hv
  obtain ⟨m, hm⟩ := h
  obtain ⟨σ2, W2, cs2, o2, s2, l2, r2, a2⟩ := opens_trod sim31 hm σ W ho
  obtain ⟨x, ll, sv, sq, qq, wv, rfl, hw⟩ := work_of (n := 0) a2
  exact ⟨σ2, W2, x, ll, sv, sq, qq, wv, o2, s2, l2, .agg' (a := #[.int .i64 x.v.sh, .int .i64 x.v.ttl, .int .i64 x.v.ses, sv, .int .i64 x.now, sq, qq, wv]) r2, hw⟩
theorem openVen (ho : Opened σ W w) (hv : Value.okWide Tryz.prog w r b0 24 v0) (h : DataW.Trod enc Tryz.prog w 0 (fun _ => true) true 24 v0 d p) :
    ∃ (σ2 : Inj) (W2 : AW) (v : Ven) (sv : Value), Opened σ2 W2 w ∧ Sub σ σ2 ∧ Le W W2 ∧ VR σ2 (venV v sv) v0 ∧ SecsC W2 sv v.secs := by
  obtain ⟨cs, rfl⟩ := agg_of Tryz.underlying24 hv
  obtain ⟨m, hm⟩ := h
  obtain ⟨σ2, W2, cs2, o2, s2, l2, r2, a2⟩ := opens_trod sim24 hm σ W ho
  obtain ⟨v, sv, rfl, hs⟩ := ven_of (n := 3) a2
  exact ⟨σ2, W2, v, sv, o2, s2, l2, .agg' (a := #[.int .i64 v.sh, .int .i64 v.ttl, .int .i64 v.ses, sv]) r2, hs⟩
end
theorem openG {w : World} (hl : LaidG globW w.heap) : Opened (σG globW) (WG globW 1) w := ⟨rel_G rfl hl, allRo_G, 0, _, rfl⟩
theorem gw_W : GW (WG globW 1) := globW_G rfl (fun x hx => by
  have h2 : x = (0, usesV) := by simpa [globW] using hx
  rw [h2]; rfl)
theorem gw_le {W : AW} (h : Le (WG globW 1) W) : GW W := gw_W.mono h
theorem kidsT : Kids Tryz.prog (· < Tryz.prog.types.size) := kids_rows (by kernel_rfl) (by kernel_rfl)
theorem fullT : ∀ t e, t < Tryz.prog.types.size → Tryz.prog.underlying t = some (.slice e) → 0 < Tryz.prog.cellsOf e := slices_full_of Tryz.prog (by kernel_rfl)
theorem open_calls (hok : CalleeOK Tryz.prog PlanTab.ng omS) {w : World} {σ : Inj} {W : AW} (ho : Opened σ W w) (hs : Sub (σG globW) σ) {i : Nat} {args args' : List Value} (hr : LR σ args args') (h : omS (.func (.func i) #[] #[]) args W = some (.bool true, W)) :
    Calls Tryz.prog i args'.toArray w fun e w' => e = .returned (.bool true) ∧ Quiet w w' := by
  have hG : Glob σ [0] := fun g hg => by
    obtain ⟨e, he⟩ := (glob_G (gs := globW) (ng := [0]) rfl) g hg
    exact ⟨e, hs _ _ he⟩
  exact om_calls hok ho.rel hG ho.ro hr rfl h
end Go.Proofs.YthjakbhkmpdblaaGreatDoor
