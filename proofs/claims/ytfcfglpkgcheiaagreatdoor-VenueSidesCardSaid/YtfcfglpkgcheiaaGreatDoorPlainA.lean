/- Contracts of functions, and their laws. -/
import Derived.Test.YtfcfglpkgcheiaaGreatDoorSDec
import Derived.Test.YtfcfglpkgcheiaaGreatDoorOpnA
import Derived.KernelRfl
/- What small functions answer. -/
namespace Go.Proofs.YtfcfglpkgcheiaaGreatDoor
open Go Go.Eng
set_option linter.unusedVariables false
set_option linter.unusedSimpArgs false
theorem lenI : ((#[26] : Array TypeId)[0]?).bind Tryz.prog.underlying = some (.slice 3) := by kernel_rfl
theorem lenS : ((#[22] : Array TypeId)[0]?).bind Tryz.prog.underlying = some (.slice 28) := by kernel_rfl
def outB (n lo hi : Int) : Bool := decide (n < lo) || decide (hi < n)
theorem outsideint_ok (n lo hi : Int) (W : AW) : omS (.func (.func 33) #[] #[]) [.int .i64 n, .int .i64 lo, .int .i64 hi] W = some (.bool (outB n lo hi), W) := by
  have h : venue_outsideint omS (.int .i64 n) (.int .i64 lo) (.int .i64 hi) W = some (.bool (outB n lo hi), W) := by
    unfold venue_outsideint outB
    by_cases h : n < lo <;> simp only [SX, h, Bool.true_or, Bool.false_or]
  rw [venue_outsideint_om h, gc_bool (.refl _)]
theorem outsideint64_ok (n lo hi : Int) (W : AW) : omS (.func (.func 34) #[] #[]) [.int .i64 n, .int .i64 lo, .int .i64 hi] W = some (.bool (outB n lo hi), W) := by
  have h : venue_outsideint64 omS (.int .i64 n) (.int .i64 lo) (.int .i64 hi) W = some (.bool (outB n lo hi), W) := by
    unfold venue_outsideint64 outB
    by_cases h : n < lo <;> simp only [SX, h, Bool.true_or, Bool.false_or]
  rw [venue_outsideint64_om h, gc_bool (.refl _)]
def inB (n lo hi : Int) : Bool := decide (lo ≤ n) && decide (n ≤ hi)
theorem inB_not (n lo hi : Int) : inB n lo hi = !outB n lo hi := by
  unfold inB outB
  rw [Bool.eq_iff_iff]; simp
theorem within_ok (n lo hi : Int) (W : AW) : omS (.func (.func 36) #[] #[]) [.int .i64 n, .int .i64 lo, .int .i64 hi] W = some (.bool (inB n lo hi), W) := by
  have h : ref15_within omS (.int .i64 n) (.int .i64 lo) (.int .i64 hi) W = some (.bool (inB n lo hi), W) := by
    unfold ref15_within inB
    by_cases h : lo ≤ n <;> simp only [SX, h, Bool.true_and, Bool.false_and]
  rw [ref15_within_om h, gc_bool (.refl _)]
theorem Ints_ok {a b : Value} {la lb : List Int} {W : AW} (ha : Ints W a la) (hb : Ints W b lb) (hl : la.length < 900000) : omS (.func (.func 30) #[] #[]) [a, b] W = some (.bool (decide (la = lb)), W) := by
  refine om_drop rfl ?_ ref15_Ints_om
  unfold ref15_Ints
  simp only [SX, ha.len lenI, hb.len lenI]
  by_cases hlen : la.length = lb.length
  · have e : ((la.length : Int) = (lb.length : Int)) := by omega
    simp only [SX, e]
    refine Ok_loop la.length (by omega) (fun k R W' => W' = W ∧ R 0 = a ∧ R 1 = b ∧ R 5 = .int .i64 (k : Int) ∧ la.take k = lb.take k)
        (fun r => r.2.2 = W ∧ ((r.1 = .exit 0 ∧ la = lb) ∨ (r.1 = .ret ∧ r.2.1 4 = .bool false ∧ la ≠ lb))) ⟨rfl, rfl, rfl, rfl, rfl⟩ ?_ ?_ ?_
    · rintro k R W' hk ⟨rfl, h0, h1, h5, ht⟩
      unfold ref15_Ints_L1
      obtain ⟨p, p1, p2⟩ := ha.get hk
      obtain ⟨q, q1, q2⟩ := hb.get (i := k) (by omega)
      have e1 : ((k : Int) < (la.length : Int)) := by omega
      simp only [SX, h0, h1, h5, ha.len lenI, e1, p1, p2 _ (.refl _), q1, q2 _ (.refl _)]
      by_cases hx : la[k] = lb[k]'(by omega)
      · have e2 : (k : Int) + 1 = ((k + 1 : Nat) : Int) := by omega
        simp only [SX, hx, oBin_add (show -9223372036854775808 ≤ (k : Int) + 1 by omega) (show (k : Int) + 1 < 9223372036854775808 by omega), Ok_some]
        refine .inl ⟨trivial, trivial, h0, h1, by rw [← e2]; rfl, ?_⟩
        rw [List.take_succ_eq_append_getElem hk, List.take_succ_eq_append_getElem (by omega), ht, hx]
      · simp only [SX, hx, decide_false, Ok_some]
        refine .inr ⟨by simp, trivial, .inr ⟨trivial, rfl, fun e => hx (by simp only [e])⟩⟩
    · rintro R W' ⟨rfl, h0, h1, h5, ht⟩
      unfold ref15_Ints_L1
      have e1 : ¬ ((la.length : Int) < (la.length : Int)) := by omega
      simp only [SX, h0, h1, h5, ha.len lenI, e1, Ok_some]
      refine ⟨by simp, trivial, .inl ⟨trivial, ?_⟩⟩
      rw [List.take_length] at ht
      rw [ht, hlen, List.take_length]
    · rintro ⟨x, R, W'⟩ ⟨hW, h⟩
      simp only at hW h
      subst hW
      rcases h with ⟨rfl, h⟩ | ⟨rfl, h4, h⟩
      · simp only [SX, Ok_some, h]
        exact ⟨trivial, .refl _⟩
      · simp only [SX, Ok_some, h4, h]
        exact ⟨trivial, .refl _⟩
  · have e : ¬ ((la.length : Int) = (lb.length : Int)) := by omega
    have e2 : la ≠ lb := fun h => hlen (by rw [h])
    simp only [SX, e, e2, Ok_some]
    exact ⟨trivial, .refl _⟩
end Go.Proofs.YtfcfglpkgcheiaaGreatDoor
/- Names. -/
namespace Go.Proofs.YtfcfglpkgcheiaaGreatDoor
open Go Go.Eng
set_option linter.unusedVariables false
set_option linter.unusedSimpArgs false
set_option maxRecDepth 100000
theorem un9 : Tryz.prog.underlying 9 = some .string := by kernel_rfl
theorem len9 : ((#[9] : Array TypeId)[0]?).bind Tryz.prog.underlying = some .string := by kernel_rfl
def setL (l : List UInt8) : List Value := (List.range 256).map fun i => .bool (l.any fun c => c.toNat == i)
theorem setL_len (l : List UInt8) : (setL l).length = 256 := by simp [setL]
theorem setL_get (l : List UInt8) {i : Nat} (h : i < 256) : (setL l)[i]? = some (.bool (l.any fun c => c.toNat == i)) := by simp [setL, h]
theorem setL_one (l : List UInt8) : (setL l).all one = true := by
  unfold setL
  rw [List.all_map, List.all_eq_true]
  intro x _
  rfl
theorem setL_plain (l : List UInt8) : (plain (.tuple #[.agg (setL l).toArray, .bool true]) && !isU (.tuple #[.agg (setL l).toArray, .bool true])) = true := by
  have h : plain1 (.agg (setL l).toArray) = true := by
    show (setL l).toArray.toList.all scalar = true
    unfold setL
    rw [List.toList_toArray, List.all_map, List.all_eq_true]
    intro x _
    rfl
  have h2 : plain (.tuple #[.agg (setL l).toArray, .bool true]) = true := by
    show (plain1 (.agg (setL l).toArray) && (plain1 (.bool true) && true)) = true
    rw [h]; rfl
  rw [h2]; rfl
theorem setL_set (l : List UInt8) (c : UInt8) : (setL l).set c.toNat (.bool true) = setL (l ++ [c]) := by
  apply List.ext_getElem?
  intro i
  by_cases hi : i < 256
  · rw [List.getElem?_set, setL_get _ hi, setL_get _ hi, setL_len]
    by_cases hc : c.toNat = i
    · rw [if_pos hc, if_pos (by omega)]
      simp [hc]
    · rw [if_neg hc]
      have : (c.toNat == i) = false := by simpa using hc
      simp [this]
  · rw [List.getElem?_eq_none (by rw [List.length_set, setL_len]; omega), List.getElem?_eq_none (by rw [setL_len]; omega)]
theorem al156 (W : AW) : oAlloc Tryz.prog 115 W = some (.pointer (some ⟨W.next, 0, none⟩), W.add (.cells (setL []))) := Eq.trans (by kernel_rfl) rfl
theorem oL156 (x : Value) (W : AW) : oLoad Tryz.prog 115 x W = ldA 256 x W := by kernel_rfl
theorem setHas_ok {b : Nat} {l : List UInt8} {W : AW} (hb : cellsAt W b = some (setL l)) (c : UInt8) : omS (.func (.func 103) #[] #[]) [.pointer (some ⟨b, 0, none⟩), .int .u8 (c.toNat : Int)] W = some (.bool (l.any fun x => x == c), W) := by
  refine om_drop rfl ?_ strings_asciiSet_contains_om
  unfold strings_asciiSet_contains
  have hc : c.toNat < 256 := c.toNat_lt
  simp only [SX, oNilCheck_ptr, ixA_ok hc, ldC_eq, hb, Option.bind_some, Nat.mul_one, Nat.zero_add, setL_get l hc, Option.map_some, Ok_some]
  refine ⟨?_, .refl _⟩
  congr 2
  funext x
  rw [Bool.eq_iff_iff]; simp [UInt8.toNat_inj]
theorem mkSet_ok {l : List UInt8} (hl : l.length < 1000) (ha : ∀ c ∈ l, c.toNat < 128) (W : AW) : omS (.func (.func 87) #[] #[]) [.string (bytesL l)] W = some (.tuple #[.agg (setL l).toArray, .bool true], W) := by
  refine om_drop (setL_plain l) ?_ strings_makeASCIISet_om
  unfold strings_makeASCIISet
  simp only [SX, al156]
  refine Ok_loop l.length (by omega) (fun k R W' => R 0 = .string (bytesL l) ∧ R 2 = .pointer (some ⟨W.next, 0, none⟩) ∧ R 4 = .int .i64 (k : Int) ∧ rwCells W' W.next = some (setL (l.take k)) ∧ Le W W')
        (fun r => r.1 = .exit 0 ∧ r.2.1 2 = .pointer (some ⟨W.next, 0, none⟩) ∧ rwCells r.2.2 W.next = some (setL l) ∧ Le W r.2.2) ⟨rfl, rfl, rfl, rwCells_new, (Le.refl _).add _⟩ ?_ ?_ ?_
  · rintro k R W' hk ⟨h0, h2, h4, hb, hle⟩
    unfold strings_makeASCIISet_L1
    have hc : l[k].toNat < 128 := ha _ (List.getElem_mem hk)
    have e1 : ((k : Int) < (l.length : Int)) := by omega
    have e2 : ¬ (128 : Int) ≤ (l[k].toNat : Int) := by omega
    simp only [SX, h0, h2, h4, str_len len9, e1, str_index un9 hk, e2, ixA_ok (show l[k].toNat < 256 by omega), stV_bool, hb, Option.bind_some, Nat.mul_one, Nat.zero_add, setL_len, show l[k].toNat < 256 by omega, if_true, setL_set,
      oBin_add (show -9223372036854775808 ≤ (k : Int) + 1 by omega) (show (k : Int) + 1 < 9223372036854775808 by omega), Ok_some]
    have e2 : (k : Int) + 1 = ((k + 1 : Nat) : Int) := by omega
    refine .inl ⟨trivial, h0, h2, by rw [← e2]; rfl, ?_, hle.put (Nat.le_refl _) _⟩
    rw [rwCells_put, ← List.take_append_getElem hk]
  · rintro R W' ⟨h0, h2, h4, hb, hle⟩
    unfold strings_makeASCIISet_L1
    have e1 : ¬ ((l.length : Int) < (l.length : Int)) := by omega
    simp only [SX, h0, h2, h4, str_len len9, e1, Ok_some]
    rw [List.take_length] at hb
    exact ⟨by simp, trivial, h2, hb, hle⟩
  · rintro ⟨x, R, W'⟩ ⟨rfl, h2, hb, hle⟩
    simp only at h2 hb hle
    have h1 := stV_all hb (setL_one l)
    rw [setL_len] at h1
    have h3 := ldA_all (rwCells_cellsAt hb) (setL_len l)
    have h4 := ldA_all (W := W'.put W.next (.cells (setL l))) (cellsAt_put _) (setL_len l)
    simp only [SX, h2, h3, h1, oRes_L1n, oL156, h4, Option.bind_some, Ok_some]
    exact ⟨trivial, hle.put (Nat.le_refl _) _⟩
def rtrim (p : UInt8 → Bool) (l : List UInt8) : List UInt8 := (l.reverse.dropWhile p).reverse
theorem drop_all {p : UInt8 → Bool} : ∀ {l : List UInt8} {k : Nat}, (∀ c ∈ l.take k, p c = true) → (l.drop k).dropWhile p = l.dropWhile p
  | l, 0, _ => by simp
  | [], k + 1, _ => by simp
  | c :: l, k + 1, h => by
    have hc : p c = true := h c (by simp)
    rw [List.drop_succ_cons, List.dropWhile_cons, if_pos hc]
    exact drop_all fun d hd => h d (by simp [hd])
abbrev inS (S : List UInt8) (c : UInt8) : Bool := S.any fun x => x == c
theorem trimL_ok {b : Nat} {S l : List UInt8} {W : AW} (hb : cellsAt W b = some (setL S)) (hl : l.length < 1000) : omS (.func (.func 88) #[] #[]) [.string (bytesL l), .pointer (some ⟨b, 0, none⟩)] W = some (.string (bytesL (l.dropWhile (inS S))), W) := by
  refine om_drop rfl ?_ strings_trimLeftASCII_om
  unfold strings_trimLeftASCII
  simp only [SX]
  refine Ok_loop l.length (by omega) (fun k R W' => W' = W ∧ R 0 = .string (bytesL (l.drop k)) ∧ R 1 = .pointer (some ⟨b, 0, none⟩) ∧ ∀ c ∈ l.take k, inS S c = true)
        (fun r => r.2.2 = W ∧ r.1 = .exit 0 ∧ r.2.1 0 = .string (bytesL (l.dropWhile (inS S)))) ⟨rfl, rfl, rfl, by simp⟩ ?_ ?_ ?_
  · rintro k R W' hk ⟨rfl, h0, h1, ha⟩
    unfold strings_trimLeftASCII_L1
    have hd : l.drop k = l[k] :: l.drop (k + 1) := List.drop_eq_getElem_cons hk
    have e1 : (0 : Int) < ((l.drop k).length : Int) := by rw [List.length_drop]; omega
    have e0 : oIndex Tryz.prog 9 (.string (bytesL (l.drop k))) (.int .i64 0) W' = some (.int .u8 (l[k].toNat : Int), W') := by
      have := str_index (P := Tryz.prog) (W := W') (k := .i64) un9 (l := l.drop k) (i := 0) (by rw [List.length_drop]; omega)
      simpa using this
    have e3 : oSlice Tryz.prog 9 (.string (bytesL (l.drop k))) (some (.int .i64 1)) none none W' = some (.string (bytesL (l.drop (k + 1))), W') := by
      have := str_from (P := Tryz.prog) (W := W') (k := .i64) un9 (l := l.drop k) (a := 1) (by rw [List.length_drop]; omega)
      rw [List.drop_drop] at this
      exact this
    simp only [SX, h0, h1, str_len len9, e1, e0, setHas_ok hb, e3]
    cases hp : inS S l[k]
    · simp only [SX, show (S.any fun x => x == l[k]) = false from hp, Ok_some]
      refine .inr ⟨by simp, trivial, trivial, ?_⟩
      show R 0 = _
      rw [h0, ← drop_all ha, hd, List.dropWhile_cons, hp]; rfl
    · simp only [SX, show (S.any fun x => x == l[k]) = true from hp, Ok_some]
      refine .inl ⟨trivial, trivial, rfl, h1, ?_⟩
      rw [← List.take_append_getElem hk]
      intro c hc
      rcases List.mem_append.1 hc with h | h
      · exact ha c h
      · rw [List.mem_singleton.1 h]; exact hp
  · rintro R W' ⟨rfl, h0, h1, ha⟩
    unfold strings_trimLeftASCII_L1
    rw [List.drop_length] at h0
    have e1 : ¬ (0 : Int) < (([] : List UInt8).length : Int) := by simp
    simp only [SX, h0, h1, str_len len9, e1, Ok_some]
    refine ⟨by simp, trivial, trivial, ?_⟩
    show R 0 = _
    rw [h0, ← drop_all ha, List.drop_length]; rfl
  · rintro ⟨x, R, W'⟩ ⟨hW, hx, h0⟩
    simp only at hW hx h0
    subst hW hx
    simp only [SX, Ok_some, h0]
    exact ⟨trivial, .refl _⟩
theorem rtrim_take {p : UInt8 → Bool} {l : List UInt8} {n : Nat} (h : ∀ c ∈ l.drop n, p c = true) : rtrim p (l.take n) = rtrim p l := by
  unfold rtrim
  have h2 : l.reverse = (l.drop n).reverse ++ (l.take n).reverse := by rw [← List.reverse_append, List.take_append_drop]
  have h3 := drop_all (p := p) (l := l.reverse) (k := (l.drop n).reverse.length) (by
    rw [h2, List.take_left]
    intro c hc
    exact h c (List.mem_reverse.1 hc))
  rw [← h3, h2, List.drop_left]
theorem trimR_ok {b : Nat} {S l : List UInt8} {W : AW} (hb : cellsAt W b = some (setL S)) (hl : l.length < 1000) : omS (.func (.func 89) #[] #[]) [.string (bytesL l), .pointer (some ⟨b, 0, none⟩)] W = some (.string (bytesL (rtrim (inS S) l)), W) := by
  refine om_drop rfl ?_ strings_trimRightASCII_om
  unfold strings_trimRightASCII
  simp only [SX]
  refine Ok_loop l.length (by omega) (fun k R W' => W' = W ∧ R 0 = .string (bytesL (l.take (l.length - k))) ∧ R 1 = .pointer (some ⟨b, 0, none⟩) ∧ ∀ c ∈ l.drop (l.length - k), inS S c = true)
        (fun r => r.2.2 = W ∧ r.1 = .exit 0 ∧ r.2.1 0 = .string (bytesL (rtrim (inS S) l))) ⟨rfl, by simp; rfl, rfl, by simp⟩ ?_ ?_ ?_
  · rintro k R W' hk ⟨rfl, h0, h1, ha⟩
    unfold strings_trimRightASCII_L1
    obtain ⟨m, hm⟩ : ∃ m, l.length - k = m + 1 := ⟨l.length - k - 1, by omega⟩
    have hm2 : l.length - (k + 1) = m := by omega
    have hml : m < l.length := by omega
    rw [hm] at h0 ha
    have hlen : (l.take (m + 1)).length = m + 1 := by rw [List.length_take]; omega
    have e1 : (0 : Int) < (((m + 1 : Nat) : Int)) := by omega
    have e2 : ((m + 1 : Nat) : Int) - 1 = (m : Int) := by omega
    have e0 : oIndex Tryz.prog 9 (.string (bytesL (l.take (m + 1)))) (.int .i64 (m : Int)) W' = some (.int .u8 (l[m].toNat : Int), W') := by
      have := str_index (P := Tryz.prog) (W := W') (k := .i64) un9 (l := l.take (m + 1)) (i := m) (by rw [List.length_take]; omega)
      simpa using this
    have e3 : oSlice Tryz.prog 9 (.string (bytesL (l.take (m + 1)))) none (some (.int .i64 (m : Int))) none W' = some (.string (bytesL (l.take m)), W') := by
      have := str_to (P := Tryz.prog) (W := W') (k := .i64) un9 (l := l.take (m + 1)) (a := m) (by rw [List.length_take]; omega)
      rw [List.take_take, Nat.min_eq_left (by omega)] at this
      exact this
    have es := oBin_sub (P := Tryz.prog) (W := W') (t := 3) (c := false) (d := true) (a := ((m + 1 : Nat) : Int)) (b := 1) (by omega) (by omega)
    rw [e2] at es
    simp only [SX, h0, h1, str_len len9, hlen, e1, es, e0, setHas_ok hb, e3]
    cases hp : inS S l[m]
    · simp only [SX, show (S.any fun x => x == l[m]) = false from hp, Ok_some]
      refine .inr ⟨by simp, trivial, trivial, ?_⟩
      show R 0 = _
      rw [h0, ← rtrim_take ha, ← List.take_append_getElem hml]
      unfold rtrim
      rw [List.reverse_append, List.reverse_singleton, List.singleton_append, List.dropWhile_cons, hp]
      simp
    · simp only [SX, show (S.any fun x => x == l[m]) = true from hp, Ok_some]
      refine .inl ⟨trivial, trivial, by rw [hm2]; rfl, h1, ?_⟩
      rw [hm2, List.drop_eq_getElem_cons hml]
      intro c hc
      rcases List.mem_cons.1 hc with h | h
      · rw [h]; exact hp
      · exact ha c h
  · rintro R W' ⟨rfl, h0, h1, ha⟩
    unfold strings_trimRightASCII_L1
    rw [Nat.sub_self, List.take_zero] at h0
    rw [Nat.sub_self, List.drop_zero] at ha
    have e1 : ¬ (0 : Int) < (([] : List UInt8).length : Int) := by simp
    simp only [SX, h0, h1, str_len len9, e1, Ok_some]
    refine ⟨by simp, trivial, trivial, ?_⟩
    show R 0 = _
    rw [h0, ← rtrim_take (n := 0) (by simpa using ha)]; rfl
  · rintro ⟨x, R, W'⟩ ⟨hW, hx, h0⟩
    simp only at hW hx h0
    subst hW hx
    simp only [SX, Ok_some, h0]
    exact ⟨trivial, .refl _⟩
theorem dropW_nil {p : UInt8 → Bool} : ∀ {l : List UInt8}, l.dropWhile p = [] ↔ ∀ c ∈ l, p c = true
  | [] => by simp
  | c :: l => by
    rw [List.dropWhile_cons]
    cases hp : p c
    · simp [hp]
    · simp [hp, dropW_nil]
theorem trim_nil {p : UInt8 → Bool} {l : List UInt8} : (((rtrim p l).dropWhile p) == []) = l.all p := by
  rw [Bool.eq_iff_iff, beq_iff_eq, dropW_nil, List.all_eq_true]
  unfold rtrim
  constructor
  · intro h
    have h2 : l.reverse.dropWhile p = [] := by
      cases hd : l.reverse.dropWhile p with
      | nil => rfl
      | cons x xs =>
        have := List.head_dropWhile_not (p := p) (l := l.reverse) (by rw [hd]; simp)
        rw [hd] at h
        have h3 := h x (by simp)
        simp only [hd, List.head_cons] at this
        rw [h3] at this; cases this
    rw [dropW_nil] at h2
    exact fun c hc => h2 c (List.mem_reverse.2 hc)
  · intro h c hc
    exact h c (by
      have := List.mem_reverse.1 hc
      have := (List.dropWhile_sublist p).subset this
      exact List.mem_reverse.1 this)
def charsN : List Nat := [97, 98, 99, 100, 101, 102, 103, 104, 105, 106, 107, 108, 109, 110, 111, 112, 113, 114, 115, 116, 117, 118, 119, 120, 121, 122, 48, 49, 50, 51, 52, 53, 54, 55, 56, 57, 45]
def charsL : List UInt8 := charsN.map UInt8.ofNat
theorem charsL_in : ∀ n, n < 256 → inS charsL (UInt8.ofNat n) = nameC (UInt8.ofNat n) := by decide +kernel
theorem charsL_name (c : UInt8) : inS charsL c = nameC c := by
  have := charsL_in c.toNat c.toNat_lt
  rwa [UInt8.ofNat_toNat] at this
theorem trim_ok {l : List UInt8} (hl : l.length < 1000) (h0 : l ≠ []) (W : AW) : omS (.func (.func 64) #[] #[]) [.string (bytesL l), strV charsN] W = some (.string (bytesL ((rtrim (inS charsL) l).dropWhile (inS charsL))), W) := by
  refine om_drop rfl ?_ strings_Trim_om
  unfold strings_Trim
  have hs := mkSet_ok (l := charsL) (by decide) (by decide +kernel) W
  have e1 : (l == []) = false := by simpa using h0
  have e2 : (charsL == []) = false := by decide +kernel
  have e3 : ¬ ((charsL.length : Int) = 1) := by decide +kernel
  have hz : (setL []).length = 256 := setL_len []
  have hst : stV 256 (.pointer (some ⟨W.next, 0, none⟩)) (.agg (setL charsL).toArray) (W.add (.cells (setL []))) = some (undef, (W.add (.cells (setL []))).put W.next (.cells (setL charsL))) := by
    rw [stV_agg, rwCells_new]
    simp only [Option.bind_some, List.size_toArray, setL_len, Nat.zero_add, Nat.le_refl, setL_one, and_self, if_true, setN, List.take_zero, List.nil_append]
    rw [List.drop_of_length_le (by simp [setL_len]), List.append_nil]
  have hc : cellsAt ((W.add (.cells (setL []))).put W.next (.cells (setL charsL))) W.next = some (setL charsL) := cellsAt_put _
  have hr := trimR_ok (l := l) hc hl
  have hlt : (rtrim (inS charsL) l).length < 1000 := by
    have := (List.dropWhile_sublist (inS charsL) (l := l.reverse)).length_le
    unfold rtrim
    rw [List.length_reverse]
    rw [List.length_reverse] at this
    omega
  have hL := trimL_ok hc hlt
  show Ok _ _
  rw [strV_L]
  change omS (.func (.func 87) #[] #[]) [.string (bytesL (charsN.map UInt8.ofNat))] W = _ at hs
  simp only [SX, strV_L, List.map_nil, str_eql, e1, str_len len9]
  simp only [SX, show (charsN.map UInt8.ofNat == []) = false from e2, show ¬ (((charsN.map UInt8.ofNat).length : Int) = 1) from e3, hs, al156, hst, hr, hL, Ok_some]
  exact ⟨trivial, ((Le.refl _).add _).put (Nat.le_refl _) _⟩
theorem name_ok (l : List UInt8) (W : AW) : omS (.func (.func 51) #[] #[]) [.string (bytesL l)] W = some (.bool (nameL l), W) := by
  refine om_drop rfl ?_ words_Name_om
  unfold words_Name
  cases l with
  | nil =>
    simp only [SX, strV_L, List.map_nil, str_eql, BEq.rfl, Ok_some]
    exact ⟨rfl, .refl _⟩
  | cons c l =>
    have e1 : (c :: l == []) = false := rfl
    have e0 : oIndex Tryz.prog 9 (.string (bytesL (c :: l))) (.int .i64 0) W = some (.int .u8 (c.toNat : Int), W) := by
      have := str_index (P := Tryz.prog) (W := W) (k := .i64) un9 (l := c :: l) (i := 0) (by simp)
      simpa using this
    by_cases h1 : (16 : Int) < (((c :: l).length : Nat) : Int)
    · simp only [SX, strV_L, List.map_nil, str_eql, e1, str_len len9, h1, Ok_some]
      refine ⟨?_, .refl _⟩
      have : decide ((c :: l).length ≤ 16) = false := by simpa using (by omega : ¬ ((c :: l).length ≤ 16))
      simp only [nameL, this, Bool.and_false, Bool.false_and]
    · have h16 : decide ((c :: l).length ≤ 16) = true := by simpa using (by omega : ((c :: l).length ≤ 16))
      by_cases h2 : (c.toNat : Int) < 97
      · simp only [SX, strV_L, List.map_nil, str_eql, e1, str_len len9, h1, e0, h2, Ok_some]
        refine ⟨?_, .refl _⟩
        have : decide (97 ≤ c.toNat) = false := by simpa using (by omega : ¬ (97 ≤ c.toNat))
        simp only [nameL, this, Bool.and_false, Bool.false_and]
      · by_cases h3 : (122 : Int) < (c.toNat : Int)
        · simp only [SX, strV_L, List.map_nil, str_eql, e1, str_len len9, h1, e0, h2, h3, Ok_some]
          refine ⟨?_, .refl _⟩
          have : decide (c.toNat ≤ 122) = false := by simpa using (by omega : ¬ (c.toNat ≤ 122))
          simp only [nameL, this, Bool.and_false, Bool.false_and]
        · have ht := trim_ok (l := c :: l) (by omega) (by simp) W
          have hv : (strV [97, 98, 99, 100, 101, 102, 103, 104, 105, 106, 107, 108, 109, 110, 111, 112, 113, 114, 115, 116, 117, 118, 119, 120, 121, 122, 48, 49, 50, 51, 52, 53, 54, 55, 56, 57, 45]) = strV charsN := rfl
          rw [hv]
          simp only [SX, strV_L [], List.map_nil, str_eql, e1, str_len len9, h1, e0, h2, h3, ht, trim_nil, Ok_some]
          refine ⟨?_, .refl _⟩
          have i1 : decide (97 ≤ c.toNat) = true := by simpa using (by omega : (97 ≤ c.toNat))
          have i2 : decide (c.toNat ≤ 122) = true := by simpa using (by omega : (c.toNat ≤ 122))
          have i3 : inS charsL = nameC := funext charsL_name
          simp only [nameL, i1, i2, i3, h16, Bool.true_and]
end Go.Proofs.YtfcfglpkgcheiaaGreatDoor
/- Names in the document's answer. -/
namespace Go.Proofs.YtfcfglpkgcheiaaGreatDoor
open Go Go.Eng
set_option linter.unusedVariables false
set_option linter.unusedSimpArgs false
set_option maxRecDepth 100000
def lowC (c : UInt8) : Bool := decide (97 ≤ c.toNat) && decide (c.toNat ≤ 122)
def digC (c : UInt8) : Bool := decide (48 ≤ c.toNat) && decide (c.toNat ≤ 57)
theorem lower_ok (c : UInt8) (W : AW) : omS (.func (.func 66) #[] #[]) [.int .u8 (c.toNat : Int)] W = some (.bool (lowC c), W) := by
  refine om_drop rfl ?_ ref01_lower_om
  unfold ref01_lower lowC
  by_cases h : 97 ≤ c.toNat
  · have h1 : (97 : Int) ≤ (c.toNat : Int) := by omega
    simp only [SX, h, h1, Bool.true_and, Ok_some]
    exact ⟨by congr 2; exact propext ⟨fun _ => by omega, fun _ => by omega⟩, .refl _⟩
  · have h1 : ¬ (97 : Int) ≤ (c.toNat : Int) := by omega
    simp only [SX, h, h1, Bool.false_and, Ok_some]
    exact ⟨trivial, .refl _⟩
theorem digit_ok (c : UInt8) (W : AW) : omS (.func (.func 67) #[] #[]) [.int .u8 (c.toNat : Int)] W = some (.bool (digC c), W) := by
  refine om_drop rfl ?_ ref01_digit_om
  unfold ref01_digit digC
  by_cases h : 48 ≤ c.toNat
  · have h1 : (48 : Int) ≤ (c.toNat : Int) := by omega
    simp only [SX, h, h1, Bool.true_and, Ok_some]
    exact ⟨by congr 2; exact propext ⟨fun _ => by omega, fun _ => by omega⟩, .refl _⟩
  · have h1 : ¬ (48 : Int) ≤ (c.toNat : Int) := by omega
    simp only [SX, h, h1, Bool.false_and, Ok_some]
    exact ⟨trivial, .refl _⟩
theorem nameC_is (c : UInt8) : nameC c = (lowC c || digC c || decide ((c.toNat : Int) = 45)) := by
  unfold nameC lowC digC
  congr 1
  rw [Bool.eq_iff_iff, beq_iff_eq, decide_eq_true_iff]
  exact ⟨fun _ => by omega, fun _ => by omega⟩
theorem refName_ok (l : List UInt8) (W : AW) : omS (.func (.func 56) #[] #[]) [.string (bytesL l)] W = some (.bool (nameL l), W) := by
  refine om_drop rfl ?_ ref01_Name_om
  unfold ref01_Name
  cases l with
  | nil =>
    simp only [SX, str_len len9, List.length_nil, show ((0 : Nat) : Int) < 1 by omega, Ok_some]
    exact ⟨rfl, .refl _⟩
  | cons c l =>
    have e1 : ¬ (((c :: l).length : Int) < 1) := by rw [List.length_cons]; omega
    have e0 : oIndex Tryz.prog 9 (.string (bytesL (c :: l))) (.int .i64 0) W = some (.int .u8 (c.toNat : Int), W) := by
      have := str_index (P := Tryz.prog) (W := W) (k := .i64) un9 (l := c :: l) (i := 0) (by simp)
      simpa using this
    by_cases h1 : (16 : Int) < (((c :: l).length : Nat) : Int)
    · simp only [SX, str_len len9, e1, h1, Ok_some]
      refine ⟨?_, .refl _⟩
      have : decide ((c :: l).length ≤ 16) = false := by simpa using (by omega : ¬ ((c :: l).length ≤ 16))
      simp only [nameL, this, Bool.and_false, Bool.false_and]
    · have h16 : decide ((c :: l).length ≤ 16) = true := by simpa using (by omega : ((c :: l).length ≤ 16))
      cases hlow : lowC c
      · simp only [SX, str_len len9, e1, h1, e0, lower_ok, hlow, Ok_some]
        refine ⟨?_, .refl _⟩
        have : (decide (97 ≤ c.toNat) && decide (c.toNat ≤ 122)) = false := hlow
        simp only [nameL, this, Bool.false_and]
      · simp only [SX, str_len len9, e1, h1, e0, lower_ok, hlow]
        have hn : nameL (c :: l) = (c :: l).all nameC := by
          have : (decide (97 ≤ c.toNat) && decide (c.toNat ≤ 122)) = true := hlow
          simp only [nameL, this, h16, Bool.true_and]
        rw [hn]
        generalize hL : c :: l = L
        rw [hL] at h1
        refine Ok_loop L.length (by omega) (fun k R W' => W' = W ∧ R 0 = .string (bytesL L) ∧ R 3 = .int .i64 (k : Int) ∧ (L.take k).all nameC = true)
          (fun r => r.2.2 = W ∧ ((r.1 = .exit 0 ∧ L.all nameC = true) ∨ (r.1 = .ret ∧ r.2.1 2 = .bool false ∧ L.all nameC = false))) ⟨rfl, rfl, rfl, rfl⟩ ?_ ?_ ?_
        · rintro k R W' hk ⟨rfl, h0, h3, ha⟩
          unfold ref01_Name_L1
          have e1 : ((k : Int) < (L.length : Int)) := by omega
          have hx := nameC_is L[k]
          have yes : nameC L[k] = true → (L.take (k + 1)).all nameC = true := fun h => by
            rw [← List.take_append_getElem hk, List.all_append, ha]; simpa using h
          have no : nameC L[k] = false → L.all nameC = false := fun h => by
            rw [List.all_eq_false]
            exact ⟨L[k], List.getElem_mem hk, by simp [h]⟩
          have e2 : (k : Int) + 1 = ((k + 1 : Nat) : Int) := by omega
          have ea := oBin_add (P := Tryz.prog) (W := W') (t := 3) (c := false) (d := true) (a := (k : Int)) (b := 1) (by omega) (by omega)
          cases i1 : lowC L[k]
          · cases i2 : digC L[k]
            · by_cases i3 : (L[k].toNat : Int) = 45
              · simp only [SX, h0, h3, str_len len9, e1, str_index un9 hk, lower_ok, digit_ok, i1, i2, show decide ((L[k].toNat : Int) = 45) = true from decide_eq_true i3, ea, Ok_some]
                refine .inl ⟨trivial, trivial, h0, by rw [← e2]; rfl, yes (by rw [hx, i1, i2]; simp [i3])⟩
              · simp only [SX, h0, h3, str_len len9, e1, str_index un9 hk, lower_ok, digit_ok, i1, i2, i3, ea, Ok_some]
                refine .inr ⟨by simp, trivial, .inr ⟨trivial, rfl, no (by rw [hx, i1, i2]; simp [i3])⟩⟩
            · simp only [SX, h0, h3, str_len len9, e1, str_index un9 hk, lower_ok, digit_ok, i1, i2, ea, Ok_some]
              refine .inl ⟨trivial, trivial, h0, by rw [← e2]; rfl, yes (by rw [hx, i1, i2]; simp)⟩
          · simp only [SX, h0, h3, str_len len9, e1, str_index un9 hk, lower_ok, digit_ok, i1, ea, Ok_some]
            refine .inl ⟨trivial, trivial, h0, by rw [← e2]; rfl, yes (by rw [hx, i1]; simp)⟩
        · rintro R W' ⟨rfl, h0, h3, ha⟩
          unfold ref01_Name_L1
          have e1 : ¬ ((L.length : Int) < (L.length : Int)) := by omega
          rw [List.take_length] at ha
          simp only [SX, h0, h3, str_len len9, e1, Ok_some]
          exact ⟨by simp, trivial, .inl ⟨trivial, ha⟩⟩
        · rintro ⟨x, R, W'⟩ ⟨hW, h⟩
          simp only at hW h
          subst hW
          rcases h with ⟨rfl, h⟩ | ⟨rfl, h2, h⟩
          · simp only [SX, Ok_some, h]
            exact ⟨trivial, .refl _⟩
          · simp only [SX, Ok_some, h, h2]
            exact ⟨trivial, .refl _⟩
end Go.Proofs.YtfcfglpkgcheiaaGreatDoor
/- Venues: how they lie, and what is wrong with them. -/
namespace Go.Proofs.YtfcfglpkgcheiaaGreatDoor
open Go Go.Eng
set_option linter.unusedVariables false
set_option linter.unusedSimpArgs false
set_option maxRecDepth 100000
structure Sec where
  name : List UInt8
  rows : List Int
  q : Int
structure Ven where
  sh : Int
  ttl : Int
  ses : Int
  secs : List Sec
def SecAt (W : AW) (cs : List Value) (p : Nat) (s : Sec) : Prop := cs[p]? = some (.string (bytesL s.name)) ∧ cs[p + 2]? = some (.int .i64 s.q) ∧ ∃ rv, cs[p + 1]? = some rv ∧ Ints W rv s.rows
abbrev Secs (W : AW) (v : Value) (l : List Sec) : Prop := Row W 3 (SecAt W) v l
theorem Row.imp {α : Type} {W W' : AW} {z : Nat} {f g : List Value → Nat → α → Prop} {v : Value} {l : List α} (h : Row W z f v l) (hle : Le W W') (hfg : ∀ cs p a, f cs p a → g cs p a) : Row W' z g v l := by
  obtain ⟨a, c, rfl, k⟩ := h.mono hle
  refine ⟨a, c, rfl, ?_⟩
  rcases k with h | ⟨b, o, cs, h1, h2, h3, h4⟩
  · exact .inl h
  · exact .inr ⟨b, o, cs, h1, h2, h3, fun i hi => hfg _ _ _ (h4 i hi)⟩
theorem Secs.mono {W W' : AW} {v : Value} {l : List Sec} (h : Secs W v l) (hle : Le W W') : Secs W' v l :=
  Row.imp h hle fun cs p s ⟨h1, h2, rv, h3, h4⟩ => ⟨h1, h2, rv, h3, h4.mono hle⟩
theorem take3 {cs : List Value} {p : Nat} {a b c : Value} (h0 : cs[p]? = some a) (h1 : cs[p + 1]? = some b) (h2 : cs[p + 2]? = some c) : (cs.drop p).take 3 = [a, b, c] := by
  obtain ⟨i0, e0⟩ := List.getElem?_eq_some_iff.1 h0
  obtain ⟨i1, e1⟩ := List.getElem?_eq_some_iff.1 h1
  obtain ⟨i2, e2⟩ := List.getElem?_eq_some_iff.1 h2
  rw [List.drop_eq_getElem_cons i0, List.drop_eq_getElem_cons i1, List.drop_eq_getElem_cons i2, e0, e1, e2]
  rfl
abbrev secV (s : Sec) (rv : Value) : Value := .agg #[.string (bytesL s.name), rv, .int .i64 s.q]
theorem Secs.get {W : AW} {v : Value} {l : List Sec} (h : Secs W v l) {i : Nat} (hi : i < l.length) : ∃ b o rv, (∀ W' k, ixS 3 v (.int k (i : Int)) W' = some (.pointer (some ⟨b, o, none⟩), W')) ∧ Ints W rv l[i].rows ∧
    (∀ W', Le W W' → ldA 3 (.pointer (some ⟨b, o, none⟩)) W' = some (secV l[i] rv, W')) ∧ (∀ W', Le W W' → ldC (.pointer (some ⟨b, o, none⟩)) W' = some (.string (bytesL l[i].name), W')) ∧
    (∀ W', Le W W' → ldC (.pointer (some ⟨b, o + 1, none⟩)) W' = some (rv, W')) ∧ (∀ W', Le W W' → ldC (.pointer (some ⟨b, o + 2, none⟩)) W' = some (.int .i64 l[i].q, W')) := by
  obtain ⟨b, o, cs, h1, h2, h3, h4, h5, rv, h6, h7⟩ := h.elem hi
  refine ⟨b, o, rv, h1, h7, fun W' hle => ?_, fun W' hle => ldC_ok (by rw [hle.cellsAt h2]; exact h3) h4, fun W' hle => ldC_ok (by rw [hle.cellsAt h2]; exact h3) h6, fun W' hle => ldC_ok (by rw [hle.cellsAt h2]; exact h3) h5⟩
  rw [ldA_eq, hle.cellsAt h2, h3]
  simp only [Option.bind_some, take3 h4 h6 h5, List.length_cons, List.length_nil, if_true]
/-- what is wrong with a section -/
def secE (s : Sec) (before : List Sec) : Int :=
  if nameL s.name = false then 6 else if (before.any fun x => x.name == s.name) = true then 8 else if s.rows.length = 0 then 6 else if 16 < s.rows.length then 3 else
  if (s.rows.any fun n => outB n 1 64) = true then 7 else if outB s.q 0 64 = true then 7 else 0
/-- the first that is wrong -/
def badK (l : List Sec) : Nat → Option (Nat × Int)
  | 0 => none
  | k + 1 => match badK l k with
    | some r => some r
    | none => match l[k]? with
      | some s => if secE s (l.take k) = 0 then none else some (k, secE s (l.take k))
      | none => none
theorem badK_mono {l : List Sec} {k n : Nat} {r : Nat × Int} (h : badK l k = some r) (hn : k ≤ n) : badK l n = some r := by
  induction n with
  | zero => obtain rfl : k = 0 := by omega
            exact h
  | succ n ih =>
    by_cases hk : k = n + 1
    · rw [← hk]; exact h
    · show (match badK l n with | some r => some r | none => _) = _
      rw [ih (by omega)]
def sumI (l : List Int) : Int := l.foldr (· + ·) 0
theorem sumI_app (l : List Int) (n : Int) : sumI (l ++ [n]) = sumI l + n := by
  induction l with
  | nil => simp [sumI]
  | cons a l ih => simp only [sumI, List.cons_append, List.foldr_cons] at ih ⊢; omega
def total (l : List Sec) : Int := sumI (l.map fun s => sumI s.rows)
def headBad (v : Ven) : Bool := outB v.sh 1 16 || outB v.ttl 1 1000000000 || outB v.ses 1 1000000000
/-- what is wrong with a venue -/
def venE (v : Ven) : Int × Int :=
  if headBad v = true then (-1, 7) else if v.secs.length = 0 then (-1, 6) else if 8 < v.secs.length then (-1, 3) else
  match badK v.secs v.secs.length with
  | some (i, e) => ((i : Int), e)
  | none => if 4096 < total v.secs then (-1, 3) else (0, 0)
abbrev venV (v : Ven) (sv : Value) : Value := .agg #[.int .i64 v.sh, .int .i64 v.ttl, .int .i64 v.ses, sv]
/-- the slice of sections, whose capacity is known -/
def SecsC (W : AW) (sv : Value) (l : List Sec) : Prop := Secs W sv l ∧ (∃ a c, sv = .slice a l.length c ∧ l.length ≤ c ∧ c < BIG ∧ (l ≠ [] → ∃ b o, a = some ⟨b, o, none⟩))
theorem SecsC.mono {W W' : AW} {v : Value} {l : List Sec} (h : SecsC W v l) (hle : Le W W') : SecsC W' v l := ⟨h.1.mono hle, h.2⟩
theorem Row.take {α : Type} {W : AW} {z : Nat} {f : List Value → Nat → α → Prop} {b o c : Nat} {l : List α} (h : Row W z f (.slice (some ⟨b, o, none⟩) l.length c) l) {k : Nat} (hk : k ≤ l.length) (h0 : l ≠ []) : Row W z f (.slice (some ⟨b, o, none⟩) k c) (l.take k) := by
  obtain ⟨a, c', he, h⟩ := h
  injection he with e1 e2 e3
  subst e1 e3
  refine ⟨_, c, by rw [List.length_take, Nat.min_eq_left hk], ?_⟩
  rcases h with h | ⟨b', o', cs, h1, h2, h3, h4⟩
  · exact absurd h h0
  · refine .inr ⟨b', o', cs, h1, h2, h3, fun i hi => ?_⟩
    rw [List.getElem_take]
    exact h4 i (by rw [List.length_take] at hi; omega)
theorem sl34 : sliceZ Tryz.prog 22 = some 3 := by kernel_rfl
theorem SecsC.pre {W : AW} {sv : Value} {l : List Sec} (h : SecsC W sv l) {k : Nat} (hk : k < l.length) : ∃ u, (∀ W', oSlice Tryz.prog 22 sv none (some (.int .i64 (k : Int))) none W' = some (u, W')) ∧ Secs W u (l.take k) := by
  obtain ⟨h1, a, c, rfl, h2, h3, h4⟩ := h
  have h0 : l ≠ [] := by intro e; rw [e] at hk; simp at hk
  obtain ⟨b, o, rfl⟩ := h4 h0
  exact ⟨_, fun W' => oSlice_to sl34 (by omega) h3, Row.take h1 (by omega) h0⟩
theorem al62 (W : AW) : oAlloc Tryz.prog 28 W = some (.pointer (some ⟨W.next, 0, none⟩), W.add (.cells [.string (bytesL []), .slice none 0 0, .int .i64 0])) := Eq.trans (by kernel_rfl) rfl
end Go.Proofs.YtfcfglpkgcheiaaGreatDoor
/- What is wrong with a section: both answers. -/
namespace Go.Proofs.YtfcfglpkgcheiaaGreatDoor
open Go Go.Eng
set_option linter.unusedVariables false
set_option linter.unusedSimpArgs false
set_option maxRecDepth 100000
def idxI {α : Type} (p : α → Bool) (l : List α) : Int := match l.findIdx? p with
  | some i => (i : Int)
  | none => -1
theorem idxI_some {α : Type} {p : α → Bool} {l : List α} {k : Nat} (hk : k < l.length) (h1 : p l[k] = true) (h2 : (l.take k).any p = false) : idxI p l = (k : Int) := by
  have : l.findIdx? p = some k := by
    rw [List.findIdx?_eq_some_iff_getElem]
    refine ⟨hk, h1, fun j hj => ?_⟩
    rw [List.any_eq_false] at h2
    exact h2 _ (by rw [List.mem_take_iff_getElem]; exact ⟨j, by omega, rfl⟩)
  unfold idxI
  rw [this]
theorem idxI_none {α : Type} {p : α → Bool} {l : List α} (h : l.any p = false) : idxI p l = -1 := by
  have : l.findIdx? p = none := by
    rw [List.findIdx?_eq_none_iff]
    intro x hx
    rw [List.any_eq_false] at h
    simpa using h x hx
  unfold idxI
  rw [this]
theorem any_take {α : Type} {p : α → Bool} {l : List α} {k : Nat} (hk : k < l.length) (h1 : p l[k] = false) (h2 : (l.take k).any p = false) : (l.take (k + 1)).any p = false := by
  rw [← List.take_append_getElem hk, List.any_append, h2]
  simpa using h1
theorem any_some {α : Type} {p : α → Bool} {l : List α} {k : Nat} (hk : k < l.length) (h1 : p l[k] = true) : l.any p = true := by
  rw [List.any_eq_true]; exact ⟨_, List.getElem_mem hk, h1⟩
theorem idxI_pos {α : Type} {p : α → Bool} {l : List α} : decide (0 ≤ idxI p l) = l.any p := by
  unfold idxI
  cases h : l.findIdx? p with
  | none =>
    rw [List.findIdx?_eq_none_iff] at h
    have : l.any p = false := by rw [List.any_eq_false]; intro x hx; simpa using h x hx
    rw [this]; rfl
  | some i =>
    rw [List.findIdx?_eq_some_iff_getElem] at h
    obtain ⟨h1, h2, h3⟩ := h
    rw [any_some h1 h2]; simp
theorem idxSec_ok {f v : Value} {p : Sec → Bool} {l : List Sec} {W : AW} (h : Secs W v l) (hl : l.length < 1000) (hp : ∀ s rv, omS f [secV s rv] W = some (.bool (p s), W)) : omS (.func (.func 43) #[] #[]) [v, f] W = some (.int .i64 (idxI p l), W) := by
  refine om_drop rfl ?_ slices_IndexFuncapi_VnSectionapi_VnSection_om
  unfold slices_IndexFuncapi_VnSectionapi_VnSection
  simp only [SX, h.len lenS]
  refine Ok_loop l.length (by omega) (fun k R W' => W' = W ∧ R 0 = v ∧ R 1 = f ∧ R 7 = .int .i64 (l.length : Int) ∧ R 8 = .int .i64 (k : Int) ∧ (l.take k).any p = false)
    (fun r => r.2.2 = W ∧ ((r.1 = .exit 0 ∧ idxI p l = -1) ∨ (r.1 = .ret ∧ r.2.1 4 = .int .i64 (idxI p l)))) ⟨rfl, rfl, rfl, rfl, rfl, rfl⟩ ?_ ?_ ?_
  · rintro k R W' hk ⟨rfl, h0, h1, h7, h8, ha⟩
    unfold slices_IndexFuncapi_VnSectionapi_VnSection_L1
    obtain ⟨b, o, rv, g1, g2, g3, _⟩ := h.get hk
    have e1 : ((k : Int) < (l.length : Int)) := by omega
    have e2 : (k : Int) + 1 = ((k + 1 : Nat) : Int) := by omega
    have ea := oBin_add (P := Tryz.prog) (W := W') (t := 3) (c := false) (d := true) (a := (k : Int)) (b := 1) (by omega) (by omega)
    simp only [SX, h0, h1, h7, h8, e1, g1, g3 _ (.refl _), hp]
    cases hx : p l[k]
    · simp only [SX, ea, Ok_some]
      exact .inl ⟨trivial, trivial, h0, h1, h7, by rw [← e2]; rfl, any_take hk hx ha⟩
    · simp only [SX, Ok_some]
      exact .inr ⟨by simp, trivial, .inr ⟨trivial, by rw [idxI_some hk hx ha]; rfl⟩⟩
  · rintro R W' ⟨rfl, h0, h1, h7, h8, ha⟩
    unfold slices_IndexFuncapi_VnSectionapi_VnSection_L1
    have e1 : ¬ ((l.length : Int) < (l.length : Int)) := by omega
    rw [List.take_length] at ha
    simp only [SX, h7, h8, e1, Ok_some]
    exact ⟨by simp, trivial, .inl ⟨trivial, idxI_none ha⟩⟩
  · rintro ⟨x, R, W'⟩ ⟨hW, hq⟩
    simp only at hW hq
    subst hW
    rcases hq with ⟨rfl, hq⟩ | ⟨rfl, h4⟩
    · simp only [SX, Ok_some, hq]
      exact ⟨trivial, .refl _⟩
    · simp only [SX, Ok_some, h4]
      exact ⟨trivial, .refl _⟩
theorem idxInt_ok {f v : Value} {p : Int → Bool} {l : List Int} {W : AW} (h : Ints W v l) (hl : l.length < 1000) (hp : ∀ n, omS f [.int .i64 n] W = some (.bool (p n), W)) : omS (.func (.func 65) #[] #[]) [v, f] W = some (.int .i64 (idxI p l), W) := by
  refine om_drop rfl ?_ slices_IndexFuncintint_om
  unfold slices_IndexFuncintint
  simp only [SX, h.len lenI]
  refine Ok_loop l.length (by omega) (fun k R W' => W' = W ∧ R 0 = v ∧ R 1 = f ∧ R 7 = .int .i64 (l.length : Int) ∧ R 8 = .int .i64 (k : Int) ∧ (l.take k).any p = false)
    (fun r => r.2.2 = W ∧ ((r.1 = .exit 0 ∧ idxI p l = -1) ∨ (r.1 = .ret ∧ r.2.1 4 = .int .i64 (idxI p l)))) ⟨rfl, rfl, rfl, rfl, rfl, rfl⟩ ?_ ?_ ?_
  · rintro k R W' hk ⟨rfl, h0, h1, h7, h8, ha⟩
    unfold slices_IndexFuncintint_L1
    obtain ⟨q, g1, g2⟩ := h.get hk
    have e1 : ((k : Int) < (l.length : Int)) := by omega
    have e2 : (k : Int) + 1 = ((k + 1 : Nat) : Int) := by omega
    have ea := oBin_add (P := Tryz.prog) (W := W') (t := 3) (c := false) (d := true) (a := (k : Int)) (b := 1) (by omega) (by omega)
    simp only [SX, h0, h1, h7, h8, e1, g1, g2 _ (.refl _), hp]
    cases hx : p l[k]
    · simp only [SX, ea, Ok_some]
      exact .inl ⟨trivial, trivial, h0, h1, h7, by rw [← e2]; rfl, any_take hk hx ha⟩
    · simp only [SX, Ok_some]
      exact .inr ⟨by simp, trivial, .inr ⟨trivial, by rw [idxI_some hk hx ha]; rfl⟩⟩
  · rintro R W' ⟨rfl, h0, h1, h7, h8, ha⟩
    unfold slices_IndexFuncintint_L1
    have e1 : ¬ ((l.length : Int) < (l.length : Int)) := by omega
    rw [List.take_length] at ha
    simp only [SX, h7, h8, e1, Ok_some]
    exact ⟨by simp, trivial, .inl ⟨trivial, idxI_none ha⟩⟩
  · rintro ⟨x, R, W'⟩ ⟨hW, hq⟩
    simp only at hW hq
    subst hW
    rcases hq with ⟨rfl, hq⟩ | ⟨rfl, h4⟩
    · simp only [SX, Ok_some, hq]
      exact ⟨trivial, .refl _⟩
    · simp only [SX, Ok_some, h4]
      exact ⟨trivial, .refl _⟩
theorem hasSec_ok {f v : Value} {p : Sec → Bool} {l : List Sec} {W : AW} (h : Secs W v l) (hl : l.length < 1000) (hp : ∀ s rv, omS f [secV s rv] W = some (.bool (p s), W)) : omS (.func (.func 52) #[] #[]) [v, f] W = some (.bool (l.any p), W) := by
  refine om_drop rfl ?_ slices_ContainsFuncapi_VnSectionapi_VnSection_om
  unfold slices_ContainsFuncapi_VnSectionapi_VnSection
  simp only [SX, idxSec_ok h hl hp, idxI_pos, Ok_some]
  exact ⟨trivial, .refl _⟩
theorem hasInt_ok {f v : Value} {p : Int → Bool} {l : List Int} {W : AW} (h : Ints W v l) (hl : l.length < 1000) (hp : ∀ n, omS f [.int .i64 n] W = some (.bool (p n), W)) : omS (.func (.func 54) #[] #[]) [v, f] W = some (.bool (l.any p), W) := by
  refine om_drop rfl ?_ slices_ContainsFuncintint_om
  unfold slices_ContainsFuncintint
  simp only [SX, idxInt_ok h hl hp, idxI_pos, Ok_some]
  exact ⟨trivial, .refl _⟩
theorem outRow_ok (n : Int) (W : AW) : omS (.func (.func 55) #[] #[]) [.int .i64 n] W = some (.bool (outB n 1 64), W) := by
  refine om_drop rfl ?_ venue_check_2_om
  unfold venue_check_2
  simp only [SX, outsideint_ok, Ok_some]
  exact ⟨trivial, .refl _⟩
theorem oBox3 (a b c : Value) (W : AW) : oBox (.agg #[a, b, c]) W = some (.pointer (some ⟨W.next, 0, none⟩), W.add (.cells [a, b, c])) := oBox_agg _
theorem sameName_ok {c : Nat} {m : List UInt8} {W : AW} (hc : ∀ W', Le W W' → ldC (.pointer (some ⟨c, 0, none⟩)) W' = some (.string (bytesL m), W')) (s : Sec) (rv : Value) :
    omS (.func (.func 53) #[] #[.pointer (some ⟨c, 0, none⟩)]) [secV s rv] W = some (.bool (s.name == m), W) := by
  refine om_drop rfl ?_ venue_check_1_om
  unfold venue_check_1
  have h0 := hc _ ((Le.refl W).add (.cells [.string (bytesL s.name), rv, .int .i64 s.q]))
  have h1 : ldC (.pointer (some ⟨W.next, 0, none⟩)) (W.add (.cells [.string (bytesL s.name), rv, .int .i64 s.q])) = some (.string (bytesL s.name), W.add (.cells [.string (bytesL s.name), rv, .int .i64 s.q])) := ldC_ok cellsAt_new rfl
  simp only [SX, oBox3, h0, h1, Nat.zero_add, str_eql, Ok_some]
  exact ⟨trivial, (Le.refl _).add _⟩
theorem check_ok' {s : Sec} {rv bv : Value} {before : List Sec} {W : AW} (hs : Ints W rv s.rows) (hb : Secs W bv before) (hl : before.length < 1000) : omS (.func (.func 35) #[] #[]) [secV s rv, bv] W = some (.int .i64 (secE s before), W) := by
  refine om_drop rfl ?_ venue_check_om
  unfold venue_check
  have hle : Le W (W.add (.cells [.string (bytesL s.name), rv, .int .i64 s.q])) := (Le.refl W).add _
  simp only [SX, oBox3, Nat.zero_add]
  generalize hW1 : W.add (.cells [.string (bytesL s.name), rv, .int .i64 s.q]) = W1 at *
  have hcs : cellsAt W1 W.next = some [.string (bytesL s.name), rv, .int .i64 s.q] := by rw [← hW1]; exact cellsAt_new
  have hn : W.next < W1.next := by rw [← hW1, AW.add_next]; omega
  have h0 : ∀ W', Le W1 W' → ldC (.pointer (some ⟨W.next, 0, none⟩)) W' = some (.string (bytesL s.name), W') := fun W' k => ldC_ok (by rw [k.cellsAt hn]; exact hcs) rfl
  have h1 : ldC (.pointer (some ⟨W.next, 1, none⟩)) W1 = some (rv, W1) := ldC_ok hcs rfl
  have h2 : ldC (.pointer (some ⟨W.next, 2, none⟩)) W1 = some (.int .i64 s.q, W1) := ldC_ok hcs rfl
  have hf := hasSec_ok (W := W1) (hb.mono hle) hl (p := fun x => x.name == s.name) (fun x rv => sameName_ok h0 x rv)
  unfold secE
  cases n1 : nameL s.name
  · simp only [SX, h0 _ (.refl _), name_ok, n1, if_true, Ok_some]
    exact ⟨trivial, hle⟩
  · cases n2 : before.any fun x => x.name == s.name
    · by_cases n3 : s.rows.length = 0
      · have e : ((s.rows.length : Int) = 0) := by omega
        simp only [SX, h0 _ (.refl _), name_ok, n1, hf, n2, h1, (hs.mono hle).len lenI, e, if_pos n3, if_true, if_false, Bool.true_eq_false, Bool.false_eq_true, Ok_some]
        exact ⟨trivial, hle⟩
      · have e : ¬ ((s.rows.length : Int) = 0) := by omega
        by_cases n4 : 16 < s.rows.length
        · have e2 : ((16 : Int) < (s.rows.length : Int)) := by omega
          simp only [SX, h0 _ (.refl _), name_ok, n1, hf, n2, h1, (hs.mono hle).len lenI, e, n3, e2, n4, if_true, if_false, Bool.true_eq_false, Bool.false_eq_true, Ok_some]
          exact ⟨trivial, hle⟩
        · have e2 : ¬ ((16 : Int) < (s.rows.length : Int)) := by omega
          have hg := hasInt_ok (W := W1) (hs.mono hle) (by omega) (p := fun n => outB n 1 64) (fun n => outRow_ok n W1)
          cases n5 : s.rows.any fun n => outB n 1 64
          · cases n6 : outB s.q 0 64
            · simp only [SX, h0 _ (.refl _), name_ok, n1, hf, n2, h1, (hs.mono hle).len lenI, e, n3, e2, n4, hg, n5, h2, outsideint_ok, n6, if_true, if_false, Bool.true_eq_false, Bool.false_eq_true, Ok_some]
              exact ⟨trivial, hle⟩
            · simp only [SX, h0 _ (.refl _), name_ok, n1, hf, n2, h1, (hs.mono hle).len lenI, e, n3, e2, n4, hg, n5, h2, outsideint_ok, n6, if_true, if_false, Bool.true_eq_false, Bool.false_eq_true, Ok_some]
              exact ⟨trivial, hle⟩
          · simp only [SX, h0 _ (.refl _), name_ok, n1, hf, n2, h1, (hs.mono hle).len lenI, e, n3, e2, n4, hg, n5, if_true, if_false, Bool.true_eq_false, Bool.false_eq_true, Ok_some]
            exact ⟨trivial, hle⟩
    · simp only [SX, h0 _ (.refl _), name_ok, n1, hf, n2, if_true, if_false, Bool.true_eq_false, Bool.false_eq_true, Ok_some]
      exact ⟨trivial, hle⟩
end Go.Proofs.YtfcfglpkgcheiaaGreatDoor
/- What is wrong with a section: the document's answer. -/
namespace Go.Proofs.YtfcfglpkgcheiaaGreatDoor
open Go Go.Eng
set_option linter.unusedVariables false
set_option linter.unusedSimpArgs false
set_option maxRecDepth 100000
theorem oBox4 (a b c d : Value) (W : AW) : oBox (.agg #[a, b, c, d]) W = some (.pointer (some ⟨W.next, 0, none⟩), W.add (.cells [a, b, c, d])) := oBox_agg _
theorem put_add_cells (W : AW) (cs ds : List Value) : (W.add (.cells cs)).put W.next (.cells ds) = W.add (.cells ds) := add_put W _ _
theorem stV3 {b : Nat} {a c d x y z : Value} {W : AW} (h : rwCells W b = some [x, y, z]) (h1 : one a = true) (h2 : one c = true) (h3 : one d = true) : stV 3 (.pointer (some ⟨b, 0, none⟩)) (.agg #[a, c, d]) W = some (undef, W.put b (.cells [a, c, d])) := by
  rw [stV_agg, h]
  have e : (#[a, c, d] : Array Value).toList.all one = true := by simp [h1, h2, h3]
  simp only [Option.bind_some, e, and_true]
  rfl
theorem Row.one {α : Type} {W : AW} {z : Nat} {f : List Value → Nat → α → Prop} {v : Value} {l : List α} (h : Row W z f v l) : one v = true := by
  obtain ⟨a, c, rfl, _⟩ := h; rfl
theorem section_ok {v : Ven} {sv : Value} {W : AW} (hs : Secs W sv v.secs) (hv : v.secs.length < 1000) {i : Nat} (hi : i < v.secs.length) (hr : v.secs[i].rows.length < 1000) : omS (.func (.func 37) #[] #[]) [venV v sv, .int .i64 (i : Int)] W = some (.int .i64 (secE v.secs[i] (v.secs.take i)), W) := by
  refine om_drop rfl ?_ ref15_section_om
  unfold ref15_section
  have hle : Le W (W.add (.cells [.int .i64 v.sh, .int .i64 v.ttl, .int .i64 v.ses, sv])) := (Le.refl W).add _
  obtain ⟨b, o, rv, g1, g2, g3, _⟩ := hs.get hi
  have c3 : ldC (.pointer (some ⟨W.next, 3, none⟩)) (W.add (.cells [.int .i64 v.sh, .int .i64 v.ttl, .int .i64 v.ses, sv])) = some (sv, W.add (.cells [.int .i64 v.sh, .int .i64 v.ttl, .int .i64 v.ses, sv])) := ldC_ok cellsAt_new rfl
  simp only [SX, oBox4, Nat.zero_add, c3, g1, g3 _ hle, al62, stV3 rwCells_new (one_string _) (Row.one g2) (one_int _ _), put_add_cells]
  generalize hW1 : W.add (.cells [.int .i64 v.sh, .int .i64 v.ttl, .int .i64 v.ses, sv]) = W1 at *
  have hle2 : Le W (W1.add (.cells [.string (bytesL v.secs[i].name), rv, .int .i64 v.secs[i].q])) := hle.add _
  have hb1 : cellsAt (W1.add (.cells [.string (bytesL v.secs[i].name), rv, .int .i64 v.secs[i].q])) W.next = some [.int .i64 v.sh, .int .i64 v.ttl, .int .i64 v.ses, sv] := by
    rw [cellsAt_add _ (by rw [← hW1, AW.add_next]; omega), ← hW1]; exact cellsAt_new
  have hb2 : cellsAt (W1.add (.cells [.string (bytesL v.secs[i].name), rv, .int .i64 v.secs[i].q])) W1.next = some [.string (bytesL v.secs[i].name), rv, .int .i64 v.secs[i].q] := cellsAt_new
  generalize hW2 : W1.add (.cells [.string (bytesL v.secs[i].name), rv, .int .i64 v.secs[i].q]) = W2 at *
  have d0 : ldC (.pointer (some ⟨W1.next, 0, none⟩)) W2 = some (.string (bytesL v.secs[i].name), W2) := ldC_ok hb2 rfl
  have d1 : ldC (.pointer (some ⟨W1.next, 1, none⟩)) W2 = some (rv, W2) := ldC_ok hb2 rfl
  have d2 : ldC (.pointer (some ⟨W1.next, 2, none⟩)) W2 = some (.int .i64 v.secs[i].q, W2) := ldC_ok hb2 rfl
  have c3 : ldC (.pointer (some ⟨W.next, 3, none⟩)) W2 = some (sv, W2) := ldC_ok hb1 rfl
  have hlr := (g2.mono hle2).len (P := Tryz.prog) lenI
  simp only [SX, d0, refName_ok]
  generalize hs' : v.secs[i] = s at *
  unfold secE
  cases n1 : nameL s.name
  · simp only [SX, if_true, Ok_some]
    exact ⟨trivial, hle2⟩
  · simp only [SX]
    refine Ok_loop i (by omega) (fun k R W' => W' = W2 ∧ R 1 = .int .i64 (i : Int) ∧ R 2 = .pointer (some ⟨W.next, 0, none⟩) ∧ R 5 = .pointer (some ⟨W1.next, 0, none⟩) ∧ R 6 = .int .i64 (k : Int) ∧ ((v.secs.take i).take k).any (fun x => x.name == s.name) = false)
      (fun r => r.2.2 = W2 ∧ ((r.1 = .exit 0 ∧ r.2.1 5 = .pointer (some ⟨W1.next, 0, none⟩) ∧ (v.secs.take i).any (fun x => x.name == s.name) = false) ∨ (r.1 = .ret ∧ r.2.1 4 = .int .i64 8 ∧ (v.secs.take i).any (fun x => x.name == s.name) = true))) ⟨rfl, rfl, rfl, rfl, rfl, rfl⟩ ?_ ?_ ?_
    · rintro k R W' hk ⟨rfl, h1, h2, h5, h6, ha⟩
      unfold ref15_section_L1
      have hk2 : k < v.secs.length := by omega
      have hk3 : k < (v.secs.take i).length := by rw [List.length_take]; omega
      have hke : (v.secs.take i)[k] = v.secs[k] := List.getElem_take
      obtain ⟨b', o', rv', f1, f2, f3, f4, _⟩ := hs.get hk2
      have e1 : ((k : Int) < (i : Int)) := by omega
      have e2 : (k : Int) + 1 = ((k + 1 : Nat) : Int) := by omega
      have ea := oBin_add (P := Tryz.prog) (W := W') (t := 3) (c := false) (d := true) (a := (k : Int)) (b := 1) (by omega) (by omega)
      simp only [SX, h1, h2, h5, h6, e1, Nat.zero_add, c3, f1, Nat.add_zero, f4 _ hle2, d0, str_eql]
      cases hx : v.secs[k].name == s.name
      · simp only [SX, ea, Ok_some]
        exact .inl ⟨trivial, trivial, h1, h2, h5, by rw [← e2]; rfl, any_take hk3 (by rw [hke]; exact hx) ha⟩
      · simp only [SX, Ok_some]
        exact .inr ⟨by simp, trivial, .inr ⟨trivial, rfl, any_some hk3 (by rw [hke]; exact hx)⟩⟩
    · rintro R W' ⟨rfl, h1, h2, h5, h6, ha⟩
      unfold ref15_section_L1
      have e1 : ¬ ((i : Int) < (i : Int)) := by omega
      rw [List.take_of_length_le (by rw [List.length_take]; omega)] at ha
      simp only [SX, h1, h6, e1, Ok_some]
      exact ⟨by simp, trivial, .inl ⟨trivial, h5, ha⟩⟩
    · rintro ⟨x, R, W'⟩ ⟨hW, hq⟩
      simp only at hW hq
      subst hW
      rcases hq with ⟨rfl, h5, hq⟩ | ⟨rfl, h4, hq⟩
      · by_cases n3 : s.rows.length = 0
        · have e : ((s.rows.length : Int) = 0) := by omega
          simp only [SX, h5, Nat.zero_add, d1, hlr, e, hq, if_pos n3, if_false, Bool.true_eq_false, Bool.false_eq_true, Ok_some]
          exact ⟨trivial, hle2⟩
        · have e : ¬ ((s.rows.length : Int) = 0) := by omega
          by_cases n4 : 16 < s.rows.length
          · have e2 : ((16 : Int) < (s.rows.length : Int)) := by omega
            simp only [SX, h5, Nat.zero_add, d1, hlr, e, e2, hq, if_neg n3, if_pos n4, if_false, Bool.true_eq_false, Bool.false_eq_true, Ok_some]
            exact ⟨trivial, hle2⟩
          · have e2 : ¬ ((16 : Int) < (s.rows.length : Int)) := by omega
            simp only [SX, h5, Nat.zero_add, d1, hlr, e, e2, hq, if_neg n3, if_neg n4, if_false, Bool.true_eq_false, Bool.false_eq_true]
            refine Ok_loop s.rows.length (by omega) (fun k R W3 => W3 = W' ∧ R 5 = .pointer (some ⟨W1.next, 0, none⟩) ∧ R 7 = .int .i64 (k : Int) ∧ (s.rows.take k).any (fun n => outB n 1 64) = false)
              (fun r => r.2.2 = W' ∧ ((r.1 = .exit 2 ∧ r.2.1 5 = .pointer (some ⟨W1.next, 0, none⟩) ∧ s.rows.any (fun n => outB n 1 64) = false) ∨ (r.1 = .ret ∧ r.2.1 4 = .int .i64 7 ∧ s.rows.any (fun n => outB n 1 64) = true))) ⟨rfl, h5, rfl, rfl⟩ ?_ ?_ ?_
            · rintro k R W3 hk ⟨rfl, h5, h7, ha⟩
              unfold ref15_section_L2
              obtain ⟨p, p1, p2⟩ := g2.get hk
              have e1 : ((k : Int) < (s.rows.length : Int)) := by omega
              have e2 : (k : Int) + 1 = ((k + 1 : Nat) : Int) := by omega
              have ea := oBin_add (P := Tryz.prog) (W := W3) (t := 3) (c := false) (d := true) (a := (k : Int)) (b := 1) (by omega) (by omega)
              simp only [SX, h5, h7, Nat.zero_add, d1, hlr, e1, p1, p2 _ hle2, within_ok, inB_not]
              cases hx : outB s.rows[k] 1 64
              · simp only [SX, ea, Ok_some]
                exact .inl ⟨trivial, trivial, h5, by rw [← e2]; rfl, any_take hk hx ha⟩
              · simp only [SX, Ok_some]
                exact .inr ⟨by simp, trivial, .inr ⟨trivial, rfl, any_some hk hx⟩⟩
            · rintro R W3 ⟨rfl, h5, h7, ha⟩
              unfold ref15_section_L2
              have e1 : ¬ ((s.rows.length : Int) < (s.rows.length : Int)) := by omega
              rw [List.take_length] at ha
              simp only [SX, h5, h7, Nat.zero_add, d1, hlr, e1, Ok_some]
              exact ⟨by simp, trivial, .inl ⟨trivial, h5, ha⟩⟩
            · rintro ⟨x, R, W3⟩ ⟨hW, hq⟩
              simp only at hW hq
              subst hW
              rcases hq with ⟨rfl, h5, hq⟩ | ⟨rfl, h4, hq⟩
              · simp only [SX, h5, hq, Nat.zero_add, d2, within_ok, inB_not, Bool.false_eq_true, if_false]
                cases n6 : outB s.q 0 64
                · simp only [SX, Bool.false_eq_true, if_false, Ok_some]
                  exact ⟨trivial, hle2⟩
                · simp only [SX, if_true, Ok_some]
                  exact ⟨trivial, hle2⟩
              · simp only [SX, hq, h4, if_true, Ok_some]
                exact ⟨trivial, hle2⟩
      · simp only [SX, h4, hq, if_true, if_false, Bool.true_eq_false, Ok_some]
        exact ⟨trivial, hle2⟩
end Go.Proofs.YtfcfglpkgcheiaaGreatDoor
/- What is wrong with a venue. -/
namespace Go.Proofs.YtfcfglpkgcheiaaGreatDoor
open Go Go.Eng
set_option linter.unusedVariables false
set_option linter.unusedSimpArgs false
set_option maxRecDepth 100000
theorem secE_zero {s : Sec} {b : List Sec} (h : secE s b = 0) : nameL s.name = true ∧ (b.any fun x => x.name == s.name) = false ∧ s.rows.length ≠ 0 ∧ s.rows.length ≤ 16 ∧ (∀ n ∈ s.rows, 1 ≤ n ∧ n ≤ 64) ∧ 0 ≤ s.q ∧ s.q ≤ 64 := by
  unfold secE at h
  split at h
  · exact absurd h (by decide)
  rename_i h1
  split at h
  · exact absurd h (by decide)
  rename_i h2
  split at h
  · exact absurd h (by decide)
  rename_i h3
  split at h
  · exact absurd h (by decide)
  rename_i h4
  split at h
  · exact absurd h (by decide)
  rename_i h5
  split at h
  · exact absurd h (by decide)
  rename_i h6
  refine ⟨by simpa using h1, by simpa using h2, h3, by omega, ?_, ?_⟩
  · intro n hn
    have : outB n 1 64 = false := by
      cases ho : outB n 1 64
      · rfl
      · exact absurd (List.any_eq_true.2 ⟨n, hn, ho⟩) h5
    unfold outB at this
    simp only [Bool.or_eq_false_iff, decide_eq_false_iff_not] at this
    omega
  · unfold outB at h6
    simp only [Bool.or_eq_true, decide_eq_true_iff] at h6
    omega
theorem sumI_take {l : List Int} {k : Nat} (hk : k < l.length) : sumI (l.take (k + 1)) = sumI (l.take k) + l[k] := by
  rw [← List.take_append_getElem hk, sumI_app]
theorem total_take {l : List Sec} {k : Nat} (hk : k < l.length) : total (l.take (k + 1)) = total (l.take k) + sumI l[k].rows := by
  unfold total
  rw [List.map_take, List.map_take, sumI_take (by rw [List.length_map]; exact hk), List.getElem_map]
theorem sumI_bound {l : List Int} (h : ∀ n ∈ l, 1 ≤ n ∧ n ≤ 64) (k : Nat) : (0 ≤ sumI (l.take k) ∧ sumI (l.take k) ≤ 64 * k) ∧ (min k l.length : Int) ≤ sumI (l.take k) := by
  induction k with
  | zero => simp [sumI]; omega
  | succ k ih =>
    by_cases hk : k < l.length
    · rw [sumI_take hk]
      have := h _ (List.getElem_mem hk)
      omega
    · rw [List.take_of_length_le (by omega)] at ih ⊢
      omega
theorem badK_step {l : List Sec} {k : Nat} (h : badK l k = none) (hk : k < l.length) : badK l (k + 1) = if secE l[k] (l.take k) = 0 then none else some (k, secE l[k] (l.take k)) := by
  show (match badK l k with | some r => some r | none => match l[k]? with | some s => if secE s (l.take k) = 0 then none else some (k, secE s (l.take k)) | none => none) = _
  rw [h, List.getElem?_eq_getElem hk]
theorem badK_none {l : List Sec} {k : Nat} (h : badK l k = none) : ∀ i (hi : i < k) (hl : i < l.length), secE l[i] (l.take i) = 0 := by
  induction k with
  | zero => intro i hi; omega
  | succ k ih =>
    have h1 : badK l k = none := by
      cases hb : badK l k with
      | none => rfl
      | some r => rw [badK_mono hb (Nat.le_succ k)] at h; cases h
    intro i hi hl
    by_cases e : i = k
    · subst e
      rw [badK_step h1 hl] at h
      split at h
      · assumption
      · cases h
    · exact ih h1 i (by omega) hl
theorem total_bound {l : List Sec} {k : Nat} (h : badK l k = none) (hk : k ≤ l.length) : 0 ≤ total (l.take k) ∧ total (l.take k) ≤ 1024 * k := by
  induction k with
  | zero => simp [total, sumI]
  | succ k ih =>
    have h1 : badK l k = none := by
      cases hb : badK l k with
      | none => rfl
      | some r => rw [badK_mono hb (Nat.le_succ k)] at h; cases h
    have h2 := ih h1 (by omega)
    have hk' : k < l.length := by omega
    obtain ⟨_, _, _, h3, h4, _⟩ := secE_zero (badK_none h k (by omega) hk')
    rw [total_take hk']
    have h5 := (sumI_bound h4 l[k].rows.length).1
    rw [List.take_length] at h5
    omega
theorem venCheck_ok {v : Ven} {sv : Value} {W : AW} (hs : SecsC W sv v.secs) (hv : v.secs.length < 1000) : omS (.func (.func 7) #[] #[]) [venV v sv] W = some (.tuple #[.int .i64 (venE v).1, .int .i64 (venE v).2], W) := by
  refine om_drop rfl ?_ venue_Check_om
  unfold venue_Check
  have hle : Le W (W.add (.cells [.int .i64 v.sh, .int .i64 v.ttl, .int .i64 v.ses, sv])) := (Le.refl W).add _
  have hc : cellsAt (W.add (.cells [.int .i64 v.sh, .int .i64 v.ttl, .int .i64 v.ses, sv])) W.next = some [.int .i64 v.sh, .int .i64 v.ttl, .int .i64 v.ses, sv] := cellsAt_new
  have hn : W.next < (W.add (.cells [.int .i64 v.sh, .int .i64 v.ttl, .int .i64 v.ses, sv])).next := by rw [AW.add_next]; omega
  simp only [SX, oBox4, Nat.zero_add]
  generalize hW1 : W.add (.cells [.int .i64 v.sh, .int .i64 v.ttl, .int .i64 v.ses, sv]) = W1 at *
  have c0 : ldC (.pointer (some ⟨W.next, 0, none⟩)) W1 = some (.int .i64 v.sh, W1) := ldC_ok hc rfl
  have c1 : ldC (.pointer (some ⟨W.next, 1, none⟩)) W1 = some (.int .i64 v.ttl, W1) := ldC_ok hc rfl
  have c2 : ldC (.pointer (some ⟨W.next, 2, none⟩)) W1 = some (.int .i64 v.ses, W1) := ldC_ok hc rfl
  have c3 : ∀ W', Le W1 W' → ldC (.pointer (some ⟨W.next, 3, none⟩)) W' = some (sv, W') := fun W' k => ldC_ok (by rw [k.cellsAt hn]; exact hc) rfl
  simp only [SX, c0, outsideint_ok]
  unfold venE headBad
  cases n1 : outB v.sh 1 16
  case true => simp only [SX, Bool.true_or, if_true, Ok_some]; exact ⟨trivial, hle⟩
  simp only [SX, Nat.zero_add, c1, outsideint64_ok]
  cases n2 : outB v.ttl 1 1000000000
  case true => simp only [SX, Bool.true_or, Bool.or_true, if_true, Ok_some]; exact ⟨trivial, hle⟩
  simp only [SX, Nat.zero_add, c2, outsideint64_ok]
  cases n3 : outB v.ses 1 1000000000
  case true => simp only [SX, Bool.true_or, Bool.or_true, if_true, Ok_some]; exact ⟨trivial, hle⟩
  simp only [SX, Nat.zero_add, c3 _ (.refl _), hs.1.len lenS, Bool.or_self, Bool.false_eq_true, if_false]
  by_cases n4 : v.secs.length = 0
  case pos =>
    have e : ((v.secs.length : Int) = 0) := by omega
    simp only [SX, e, if_pos n4, Ok_some]; exact ⟨trivial, hle⟩
  have e4 : ¬ ((v.secs.length : Int) = 0) := by omega
  simp only [SX, e4, if_neg n4, Nat.zero_add, c3 _ (.refl _), hs.1.len lenS]
  by_cases n5 : 8 < v.secs.length
  case pos =>
    have e : ((8 : Int) < (v.secs.length : Int)) := by omega
    simp only [SX, e, if_pos n5, Ok_some]; exact ⟨trivial, hle⟩
  have e5 : ¬ ((8 : Int) < (v.secs.length : Int)) := by omega
  simp only [SX, e5, if_neg n5, Nat.zero_add, c3 _ (.refl _), hs.1.len lenS]
  refine Ok_loop v.secs.length (by omega) (fun k R W' => Le W1 W' ∧ R 1 = .pointer (some ⟨W.next, 0, none⟩) ∧ R 4 = .int .i64 (total (v.secs.take k)) ∧ R 35 = sv ∧ R 36 = .int .i64 (v.secs.length : Int) ∧ R 37 = .int .i64 (k : Int) ∧ badK v.secs k = none)
    (fun r => Le W1 r.2.2 ∧ ((r.1 = .exit 1 ∧ r.2.1 4 = .int .i64 (total v.secs) ∧ badK v.secs v.secs.length = none) ∨ (r.1 = .ret ∧ ∃ i e, r.2.1 2 = .int .i64 ((i : Nat) : Int) ∧ r.2.1 3 = .int .i64 e ∧ badK v.secs v.secs.length = some (i, e)))) ⟨.refl _, rfl, rfl, rfl, rfl, rfl, rfl⟩ ?_ ?_ ?_
  · rintro k R W' hk ⟨hl, h1, h4, h35, h36, h37, hb⟩
    unfold venue_Check_L1
    obtain ⟨b, o, rv, g1, g2, g3, _⟩ := hs.1.get hk
    obtain ⟨u, u1, u2⟩ := hs.pre hk
    have e1 : ((k : Int) < (v.secs.length : Int)) := by omega
    simp only [SX, h35, h36, h37, e1, g1, g3 _ (hle.trans hl), al62, stV3 rwCells_new (one_string _) (Row.one g2) (one_int _ _), put_add_cells]
    have hl2 : Le W1 (W'.add (.cells [.string (bytesL v.secs[k].name), rv, .int .i64 v.secs[k].q])) := hl.add _
    have hc2 : cellsAt (W'.add (.cells [.string (bytesL v.secs[k].name), rv, .int .i64 v.secs[k].q])) W'.next = some [.string (bytesL v.secs[k].name), rv, .int .i64 v.secs[k].q] := cellsAt_new
    generalize hW2 : W'.add (.cells [.string (bytesL v.secs[k].name), rv, .int .i64 v.secs[k].q]) = W2 at *
    have d3 : ldA 3 (.pointer (some ⟨W'.next, 0, none⟩)) W2 = some (secV v.secs[k] rv, W2) := ldA_all hc2 rfl
    have d1 : ldC (.pointer (some ⟨W'.next, 1, none⟩)) W2 = some (rv, W2) := ldC_ok hc2 rfl
    have hlr := (g2.mono (hle.trans hl2)).len (P := Tryz.prog) lenI
    simp only [SX, d3, h1, Nat.zero_add, c3 _ hl2, u1, check_ok' (g2.mono (hle.trans hl2)) (u2.mono (hle.trans hl2)) (by rw [List.length_take]; omega)]
    have hbs := badK_step hb hk
    by_cases hz : secE v.secs[k] (v.secs.take k) = 0
    · rw [if_pos hz] at hbs
      obtain ⟨_, _, _, hr1, hr2, _⟩ := secE_zero hz
      have htb := total_bound hb (by omega)
      simp only [SX, hz, d1, hlr]
      refine Ok_loop v.secs[k].rows.length (by omega) (fun j R' W3 => W3 = W2 ∧ R' 1 = .pointer (some ⟨W.next, 0, none⟩) ∧ R' 4 = .int .i64 (total (v.secs.take k) + sumI (v.secs[k].rows.take j)) ∧ R' 35 = sv ∧ R' 36 = .int .i64 (v.secs.length : Int) ∧ R' 37 = .int .i64 (k : Int) ∧ R' 53 = rv ∧ R' 54 = .int .i64 (v.secs[k].rows.length : Int) ∧ R' 55 = .int .i64 (j : Int))
        (fun r => r.2.2 = W2 ∧ r.1 = .exit 3 ∧ r.2.1 1 = .pointer (some ⟨W.next, 0, none⟩) ∧ r.2.1 4 = .int .i64 (total (v.secs.take (k + 1))) ∧ r.2.1 35 = sv ∧ r.2.1 36 = .int .i64 (v.secs.length : Int) ∧ r.2.1 37 = .int .i64 (k : Int)) ⟨rfl, h1, by rw [List.take_zero, show sumI [] = 0 from rfl, Int.add_zero]; exact h4, h35, h36, h37, rfl, rfl, rfl⟩ ?_ ?_ ?_
      · rintro j R' W3 hj ⟨rfl, h1, h4, h35, h36, h37, h53, h54, h55⟩
        unfold venue_Check_L1_L2
        obtain ⟨p, p1, p2⟩ := g2.get hj
        have e1 : ((j : Int) < (v.secs[k].rows.length : Int)) := by omega
        have e2 : (j : Int) + 1 = ((j + 1 : Nat) : Int) := by omega
        have ea := oBin_add (P := Tryz.prog) (W := W3) (t := 3) (c := false) (d := true) (a := (j : Int)) (b := 1) (by omega) (by omega)
        have hsb := (sumI_bound hr2 j).1
        have hsn := hr2 _ (List.getElem_mem hj)
        have eb := oBin_add (P := Tryz.prog) (W := W3) (t := 3) (c := false) (d := false) (a := total (v.secs.take k) + sumI (v.secs[k].rows.take j)) (b := v.secs[k].rows[j]) (by omega) (by omega)
        simp only [SX, h4, h53, h54, h55, e1, p1, p2 _ (hle.trans hl2), ea, eb, Ok_some]
        refine .inl ⟨trivial, trivial, h1, ?_, h35, h36, h37, h53, h54, by rw [← e2]; rfl⟩
        rw [sumI_take hj, ← Int.add_assoc]; rfl
      · rintro R' W3 ⟨rfl, h1, h4, h35, h36, h37, h53, h54, h55⟩
        unfold venue_Check_L1_L2
        have e1 : ¬ ((v.secs[k].rows.length : Int) < (v.secs[k].rows.length : Int)) := by omega
        simp only [SX, h54, h55, e1, Ok_some]
        refine ⟨by simp, trivial, trivial, h1, ?_, h35, h36, h37⟩
        rw [total_take hk]
        rw [List.take_length] at h4
        exact h4
      · rintro ⟨x, R', W3⟩ ⟨hW, rfl, h1, h4, h35, h36, h37⟩
        simp only at hW h1 h4 h35 h36 h37
        subst hW
        have e2 : (k : Int) + 1 = ((k + 1 : Nat) : Int) := by omega
        have ea := oBin_add (P := Tryz.prog) (W := W3) (t := 3) (c := false) (d := true) (a := (k : Int)) (b := 1) (by omega) (by omega)
        simp only [SX, h37, ea, Ok_some]
        exact .inl ⟨trivial, hl2, h1, h4, h35, h36, by rw [← e2]; rfl, hbs⟩
    · rw [if_neg hz] at hbs
      simp only [SX, hz, Ok_some]
      exact .inr ⟨by simp, hl2, .inr ⟨trivial, k, _, rfl, rfl, badK_mono hbs (by omega)⟩⟩
  · rintro R W' ⟨hl, h1, h4, h35, h36, h37, hb⟩
    unfold venue_Check_L1
    have e1 : ¬ ((v.secs.length : Int) < (v.secs.length : Int)) := by omega
    rw [List.take_length] at h4
    simp only [SX, h36, h37, e1, Ok_some]
    exact ⟨by simp, hl, .inl ⟨trivial, h4, hb⟩⟩
  · rintro ⟨x, R, W'⟩ ⟨hl, hq⟩
    simp only at hl hq
    rcases hq with ⟨rfl, h4, hb⟩ | ⟨rfl, i, e, h2, h3, hb⟩
    · rw [hb]
      by_cases n6 : 4096 < total v.secs
      · simp only [SX, h4, n6, if_true, Ok_some]
        exact ⟨trivial, hle.trans hl⟩
      · simp only [SX, h4, n6, if_false, Ok_some]
        exact ⟨trivial, hle.trans hl⟩
    · rw [hb]
      simp only [SX, h2, h3, Ok_some]
      exact ⟨trivial, hle.trans hl⟩
end Go.Proofs.YtfcfglpkgcheiaaGreatDoor
/- The places of a venue. -/
namespace Go.Proofs.YtfcfglpkgcheiaaGreatDoor
open Go Go.Eng
set_option linter.unusedVariables false
set_option linter.unusedSimpArgs false
set_option maxRecDepth 100000
abbrev Plc := Nat × Nat × Nat
def rowP (i k m : Nat) : List Plc := (List.range m).map fun j => (i, k, j)
def secP (i : Nat) (rows : List Int) (k : Nat) : List Plc := (List.range k).flatMap fun j => rowP i j (rows.getD j 0).toNat
def plcK (l : List Sec) (n : Nat) : List Plc := (List.range n).flatMap fun i => match l[i]? with
  | some s => secP i s.rows s.rows.length
  | none => []
def places (l : List Sec) : List Plc := plcK l l.length
theorem rowP_succ (i k m : Nat) : rowP i k (m + 1) = rowP i k m ++ [(i, k, m)] := by simp [rowP, List.range_succ]
theorem secP_succ (i : Nat) (rows : List Int) {k : Nat} (hk : k < rows.length) : secP i rows (k + 1) = secP i rows k ++ rowP i k rows[k].toNat := by
  unfold secP
  rw [List.range_succ, List.flatMap_append, List.flatMap_cons, List.flatMap_nil, List.append_nil, List.getD_eq_getElem?_getD, List.getElem?_eq_getElem hk, Option.getD_some]
theorem plcK_succ (l : List Sec) {n : Nat} (hn : n < l.length) : plcK l (n + 1) = plcK l n ++ secP n l[n].rows l[n].rows.length := by
  unfold plcK
  rw [List.range_succ, List.flatMap_append, List.flatMap_cons, List.flatMap_nil, List.append_nil, List.getElem?_eq_getElem hn]
structure Good (l : List Sec) : Prop where
  len : l.length ≤ 8
  rows : ∀ s ∈ l, s.rows.length ≠ 0 ∧ s.rows.length ≤ 16 ∧ ∀ n ∈ s.rows, 1 ≤ n ∧ n ≤ 64
theorem Good.of {l : List Sec} (h : l.length ≤ 8) (hb : badK l l.length = none) : Good l :=
  ⟨h, fun s hs => by
    obtain ⟨i, hi, rfl⟩ := List.getElem_of_mem hs
    obtain ⟨_, _, h3, h4, h5, _⟩ := secE_zero (badK_none hb i hi hi)
    exact ⟨h3, h4, h5⟩⟩
theorem rowP_len (i k m : Nat) : (rowP i k m).length = m := by simp [rowP]
theorem secP_len {i : Nat} {rows : List Int} (h : ∀ n ∈ rows, 1 ≤ n ∧ n ≤ 64) : ∀ {k : Nat}, k ≤ rows.length → ((secP i rows k).length : Int) = sumI (rows.take k)
  | 0, _ => by simp [secP, sumI]
  | k + 1, hk => by
    have hk' : k < rows.length := by omega
    rw [secP_succ i rows hk', List.length_append, rowP_len, sumI_take hk', ← secP_len (i := i) h (by omega : k ≤ rows.length)]
    have := h _ (List.getElem_mem hk')
    omega
theorem plcK_len {l : List Sec} (h : Good l) : ∀ {n : Nat}, n ≤ l.length → ((plcK l n).length : Int) = total (l.take n) ∧ (plcK l n).length ≤ 1024 * n
  | 0, _ => by simp [plcK, total, sumI]
  | n + 1, hn => by
    have hn' : n < l.length := by omega
    obtain ⟨h1, h2, h3⟩ := h.rows _ (List.getElem_mem hn')
    have ih := plcK_len h (by omega : n ≤ l.length)
    have hl := secP_len (i := n) h3 (Nat.le_refl _)
    have hb := (sumI_bound h3 l[n].rows.length).1
    rw [List.take_length] at hl hb
    rw [plcK_succ l hn', List.length_append, total_take hn']
    omega
theorem places_len {l : List Sec} (h : Good l) : ((places l).length : Int) = total l := by
  have := (plcK_len h (Nat.le_refl l.length)).1
  rwa [List.take_length] at this
def plcC (p : Plc) : List Value := [.int .i64 (p.1 : Int), .int .i64 (p.2.1 : Int), .int .i64 (p.2.2 : Int)]
def plcAt (cs : List Value) (p : Nat) (a : Plc) : Prop := cs[p]? = some (.int .i64 (a.1 : Int)) ∧ cs[p + 1]? = some (.int .i64 (a.2.1 : Int)) ∧ cs[p + 2]? = some (.int .i64 (a.2.2 : Int))
theorem plcC_len (p : Plc) : (plcC p).length = 3 := rfl
theorem plcC_one (p : Plc) : (plcC p).all one = true := rfl
theorem plcC_at (a : Plc) (pre post : List Value) : plcAt (pre ++ (plcC a ++ post)) pre.length a := by
  refine ⟨?_, ?_, ?_⟩ <;> (rw [List.getElem?_append_right (by omega)]; simp [plcC])
abbrev Plcs (W : AW) (v : Value) (l : List Plc) : Prop := Row W 3 plcAt v l
theorem ap100 : appOk Tryz.prog #[55, 55] 3 24 = true := by kernel_rfl
theorem bd65 (a b c : Int) (W : AW) : oBuild Tryz.prog 34 [(0, .int .i64 a), (1, .int .i64 b), (2, .int .i64 c)] W = some (.agg #[.int .i64 a, .int .i64 b, .int .i64 c], W) := Eq.trans (by kernel_rfl) rfl
theorem bs100 (a b c : Int) (W : AW) : oBuildSlice Tryz.prog 55 1 [(0, .agg #[.int .i64 a, .int .i64 b, .int .i64 c])] W = some (.slice (some ⟨W.next, 0, none⟩) 1 1, W.add (.cells [.int .i64 a, .int .i64 b, .int .i64 c])) := Eq.trans (by kernel_rfl) rfl
theorem Places_ok {v : Ven} {sv : Value} {W : AW} (hs : Secs W sv v.secs) (hg : Good v.secs) : ∃ r W', omS (.func (.func 38) #[] #[]) [venV v sv] W = some (r, W') ∧ Le W W' ∧ Plcs W' r (places v.secs) := by
  have hle : Le W (W.add (.cells [.int .i64 v.sh, .int .i64 v.ttl, .int .i64 v.ses, sv])) := (Le.refl W).add _
  have hc : cellsAt (W.add (.cells [.int .i64 v.sh, .int .i64 v.ttl, .int .i64 v.ses, sv])) W.next = some [.int .i64 v.sh, .int .i64 v.ttl, .int .i64 v.ses, sv] := cellsAt_new
  have hn : W.next < (W.add (.cells [.int .i64 v.sh, .int .i64 v.ttl, .int .i64 v.ses, sv])).next := by rw [AW.add_next]; omega
  refine om_row ?_ ref15_Places_om
  unfold ref15_Places
  simp only [SX, oBox4]
  generalize hW1 : W.add (.cells [.int .i64 v.sh, .int .i64 v.ttl, .int .i64 v.ses, sv]) = W1 at *
  have c3 : ∀ W', Le W1 W' → ldC (.pointer (some ⟨W.next, 3, none⟩)) W' = some (sv, W') := fun W' k => ldC_ok (by rw [k.cellsAt hn]; exact hc) rfl
  have add1 : ∀ (k : Nat) (W' : AW), k < 1000000 → oBin Tryz.prog .add 3 false true (.int .i64 (k : Int)) (.int .i64 1) W' = some (.int .i64 ((k + 1 : Nat) : Int), W') := fun k W' hk => oBin_add (by omega) (by omega)
  have hlen := hg.len
  refine Ok_loop v.secs.length (by omega) (fun i R W' => Le W1 W' ∧ R 1 = .pointer (some ⟨W.next, 0, none⟩) ∧ R 4 = .int .i64 (i : Int) ∧ Lst W1.next W' 3 plcC (R 3) (plcK v.secs i))
    (fun r => Le W1 r.2.2 ∧ r.1 = .exit 0 ∧ Lst W1.next r.2.2 3 plcC (r.2.1 3) (plcK v.secs v.secs.length)) ⟨.refl _, rfl, rfl, Lst.nil _ _ _ _⟩ ?_ ?_ ?_
  · rintro i R W' hi ⟨hl, h1, h4, hG⟩
    unfold ref15_Places_L1
    have e1 : ((i : Int) < (v.secs.length : Int)) := by omega
    simp only [SX, h1, h4, Nat.zero_add, c3 _ hl, hs.len lenS, e1]
    obtain ⟨b, o, rv, g1, g2, _, _, g5, _⟩ := hs.get hi
    obtain ⟨r1, r2, r3⟩ := hg.rows _ (List.getElem_mem hi)
    have hpl := (plcK_len hg (by omega : i ≤ v.secs.length)).2
    refine Ok_loop v.secs[i].rows.length (by omega) (fun k R W' => Le W1 W' ∧ R 1 = .pointer (some ⟨W.next, 0, none⟩) ∧ R 4 = .int .i64 (i : Int) ∧ R 5 = .int .i64 (k : Int) ∧ Lst W1.next W' 3 plcC (R 3) (plcK v.secs i ++ secP i v.secs[i].rows k))
      (fun r => Le W1 r.2.2 ∧ r.1 = .exit 2 ∧ r.2.1 1 = .pointer (some ⟨W.next, 0, none⟩) ∧ r.2.1 4 = .int .i64 (i : Int) ∧ Lst W1.next r.2.2 3 plcC (r.2.1 3) (plcK v.secs (i + 1))) ⟨hl, h1, h4, rfl, by rw [show secP i v.secs[i].rows 0 = [] from rfl, List.append_nil]; exact hG⟩ ?_ ?_ ?_
    · rintro k R W' hk ⟨hl, h1, h4, h5, hG⟩
      unfold ref15_Places_L1_L2
      have e1 : ((k : Int) < (v.secs[i].rows.length : Int)) := by omega
      have g2' := g2.mono (hle.trans hl)
      simp only [SX, h1, h4, h5, Nat.zero_add, c3 _ hl, g1, g5 _ (hle.trans hl), g2'.len lenI, e1]
      obtain ⟨p, p1, p2⟩ := g2.get hk
      have hrk := r3 _ (List.getElem_mem hk)
      have hsl := secP_len (i := i) r3 (by omega : k ≤ v.secs[i].rows.length)
      have hsb := (sumI_bound r3 k).1
      refine Ok_loop v.secs[i].rows[k].toNat (by omega) (fun m R W' => Le W1 W' ∧ R 1 = .pointer (some ⟨W.next, 0, none⟩) ∧ R 4 = .int .i64 (i : Int) ∧ R 5 = .int .i64 (k : Int) ∧ R 6 = .int .i64 (m : Int) ∧ Lst W1.next W' 3 plcC (R 3) (plcK v.secs i ++ secP i v.secs[i].rows k ++ rowP i k m))
        (fun r => Le W1 r.2.2 ∧ r.1 = .exit 4 ∧ r.2.1 1 = .pointer (some ⟨W.next, 0, none⟩) ∧ r.2.1 4 = .int .i64 (i : Int) ∧ r.2.1 5 = .int .i64 (k : Int) ∧ Lst W1.next r.2.2 3 plcC (r.2.1 3) (plcK v.secs i ++ secP i v.secs[i].rows (k + 1))) ⟨hl, h1, h4, h5, rfl, by rw [show rowP i k 0 = [] from rfl, List.append_nil]; exact hG⟩ ?_ ?_ ?_
      · rintro m R W' hm ⟨hl, h1, h4, h5, h6, hG⟩
        unfold ref15_Places_L1_L2_L3
        have e1 : ((m : Int) < v.secs[i].rows[k]) := by omega
        simp only [SX, h1, h4, h5, h6, Nat.zero_add, c3 _ hl, g1, g5 _ (hle.trans hl), p1, p2 _ (hle.trans hl), e1, bd65, bs100]
        have hGm := hG.mono ((Le.refl W').add (.cells [.int .i64 (i : Int), .int .i64 (k : Int), .int .i64 (m : Int)]))
        have hlb : (plcK v.secs i ++ secP i v.secs[i].rows k ++ rowP i k m).length + 1 < 100000 := by
          rw [List.length_append, List.length_append, rowP_len]; omega
        obtain ⟨v', W2, q1, q2, q3, q4⟩ := Lst.push (P := Tryz.prog) (a := (i, k, m)) (b := W'.next) (c := 1) ap100 plcC_len plcC_one hGm cellsAt_new (by omega) (by omega) (by rw [AW.add_next]; have := hl.next; omega)
        simp only [SX, q1, add1 m _ (by omega), Ok_some]
        refine .inl ⟨trivial, q4 _ (hl.add _) (Nat.le_refl _), h1, h4, h5, rfl, ?_⟩
        rw [rowP_succ, ← List.append_assoc]
        exact q2
      · rintro R W' ⟨hl, h1, h4, h5, h6, hG⟩
        unfold ref15_Places_L1_L2_L3
        have e1 : ¬ ((v.secs[i].rows[k].toNat : Int) < v.secs[i].rows[k]) := by omega
        simp only [SX, h1, h4, h5, h6, Nat.zero_add, c3 _ hl, g1, g5 _ (hle.trans hl), p1, p2 _ (hle.trans hl), e1, Ok_some]
        refine ⟨by simp, hl, trivial, h1, h4, h5, ?_⟩
        rw [secP_succ _ _ hk, ← List.append_assoc]
        exact hG
      · rintro ⟨x, R, W'⟩ ⟨hl, rfl, h1, h4, h5, hG⟩
        simp only at hl h1 h4 h5 hG
        simp only [SX, h5, add1 k _ (by omega), Ok_some]
        exact .inl ⟨trivial, hl, h1, h4, rfl, hG⟩
    · rintro R W' ⟨hl, h1, h4, h5, hG⟩
      unfold ref15_Places_L1_L2
      have e1 : ¬ ((v.secs[i].rows.length : Int) < (v.secs[i].rows.length : Int)) := by omega
      have g2' := g2.mono (hle.trans hl)
      simp only [SX, h1, h4, h5, Nat.zero_add, c3 _ hl, g1, g5 _ (hle.trans hl), g2'.len lenI, e1, Ok_some]
      refine ⟨by simp, hl, trivial, h1, h4, ?_⟩
      rw [plcK_succ _ hi]
      exact hG
    · rintro ⟨x, R, W'⟩ ⟨hl, rfl, h1, h4, hG⟩
      simp only at hl h1 h4 hG
      simp only [SX, h4, add1 i _ (by omega), Ok_some]
      exact .inl ⟨trivial, hl, h1, rfl, hG⟩
  · rintro R W' ⟨hl, h1, h4, hG⟩
    unfold ref15_Places_L1
    have e1 : ¬ ((v.secs.length : Int) < (v.secs.length : Int)) := by omega
    simp only [SX, h1, h4, Nat.zero_add, c3 _ hl, hs.len lenS, e1, Ok_some]
    exact ⟨by simp, hl, trivial, hG⟩
  · rintro ⟨x, R, W'⟩ ⟨hl, rfl, hG⟩
    simp only at hl hG
    simp only [SX, Ok_some]
    exact ⟨hle.trans hl, hG.row plcC_len plcC_at⟩
end Go.Proofs.YtfcfglpkgcheiaaGreatDoor
/- What is wrong with a venue: the document's answer; how many seats there are. -/
namespace Go.Proofs.YtfcfglpkgcheiaaGreatDoor
open Go Go.Eng
set_option linter.unusedVariables false
set_option linter.unusedSimpArgs false
set_option maxRecDepth 100000
theorem lenP : ((#[55] : Array TypeId)[0]?).bind Tryz.prog.underlying = some (.slice 34) := by kernel_rfl
theorem refVen_ok {v : Ven} {sv : Value} {W : AW} (hs : Secs W sv v.secs) (hv : v.secs.length < 1000) (hr : ∀ s ∈ v.secs, s.rows.length < 1000) : omS (.func (.func 8) #[] #[]) [venV v sv] W = some (.tuple #[.int .i64 (venE v).1, .int .i64 (venE v).2], W) := by
  refine om_drop rfl ?_ ref15_Check_om
  unfold ref15_Check
  have hle : Le W (W.add (.cells [.int .i64 v.sh, .int .i64 v.ttl, .int .i64 v.ses, sv])) := (Le.refl W).add _
  have hc : cellsAt (W.add (.cells [.int .i64 v.sh, .int .i64 v.ttl, .int .i64 v.ses, sv])) W.next = some [.int .i64 v.sh, .int .i64 v.ttl, .int .i64 v.ses, sv] := cellsAt_new
  have hn : W.next < (W.add (.cells [.int .i64 v.sh, .int .i64 v.ttl, .int .i64 v.ses, sv])).next := by rw [AW.add_next]; omega
  simp only [SX, oBox4, Nat.zero_add]
  generalize hW1 : W.add (.cells [.int .i64 v.sh, .int .i64 v.ttl, .int .i64 v.ses, sv]) = W1 at *
  have c0 : ldC (.pointer (some ⟨W.next, 0, none⟩)) W1 = some (.int .i64 v.sh, W1) := ldC_ok hc rfl
  have c1 : ldC (.pointer (some ⟨W.next, 1, none⟩)) W1 = some (.int .i64 v.ttl, W1) := ldC_ok hc rfl
  have c2 : ldC (.pointer (some ⟨W.next, 2, none⟩)) W1 = some (.int .i64 v.ses, W1) := ldC_ok hc rfl
  have c3 : ldC (.pointer (some ⟨W.next, 3, none⟩)) W1 = some (sv, W1) := ldC_ok hc rfl
  have c4 : ldA 4 (.pointer (some ⟨W.next, 0, none⟩)) W1 = some (venV v sv, W1) := ldA_all hc rfl
  have hs1 := hs.mono hle
  simp only [SX, c0, within_ok, inB_not]
  unfold venE headBad
  cases n1 : outB v.sh 1 16
  case true => simp only [SX, Bool.true_or, if_true, Ok_some]; exact ⟨trivial, hle⟩
  simp only [SX, Nat.zero_add, c1, within_ok, inB_not]
  cases n2 : outB v.ttl 1 1000000000
  case true => simp only [SX, Bool.true_or, Bool.or_true, if_true, Ok_some]; exact ⟨trivial, hle⟩
  simp only [SX, Nat.zero_add, c2, within_ok, inB_not]
  cases n3 : outB v.ses 1 1000000000
  case true => simp only [SX, Bool.true_or, Bool.or_true, if_true, Ok_some]; exact ⟨trivial, hle⟩
  simp only [SX, Nat.zero_add, c3, hs.len lenS, Bool.or_self, Bool.false_eq_true, if_false]
  by_cases n4 : v.secs.length = 0
  case pos =>
    have e : ((v.secs.length : Int) = 0) := by omega
    simp only [SX, e, if_pos n4, Ok_some]; exact ⟨trivial, hle⟩
  have e4 : ¬ ((v.secs.length : Int) = 0) := by omega
  simp only [SX, e4, if_neg n4, Nat.zero_add, c3, hs.len lenS]
  by_cases n5 : 8 < v.secs.length
  case pos =>
    have e : ((8 : Int) < (v.secs.length : Int)) := by omega
    simp only [SX, e, if_pos n5, Ok_some]; exact ⟨trivial, hle⟩
  have e5 : ¬ ((8 : Int) < (v.secs.length : Int)) := by omega
  simp only [SX, e5, if_neg n5]
  refine Ok_loop v.secs.length (by omega) (fun k R W' => W' = W1 ∧ R 1 = .pointer (some ⟨W.next, 0, none⟩) ∧ R 4 = .int .i64 (k : Int) ∧ badK v.secs k = none)
    (fun r => r.2.2 = W1 ∧ ((r.1 = .exit 0 ∧ r.2.1 1 = .pointer (some ⟨W.next, 0, none⟩) ∧ badK v.secs v.secs.length = none) ∨ (r.1 = .ret ∧ ∃ i e, r.2.1 2 = .int .i64 ((i : Nat) : Int) ∧ r.2.1 3 = .int .i64 e ∧ badK v.secs v.secs.length = some (i, e)))) ⟨rfl, rfl, rfl, rfl⟩ ?_ ?_ ?_
  · rintro k R W' hk ⟨rfl, h1, h4, hb⟩
    unfold ref15_Check_L1
    have e1 : ((k : Int) < (v.secs.length : Int)) := by omega
    have e2 : (k : Int) + 1 = ((k + 1 : Nat) : Int) := by omega
    have ea := oBin_add (P := Tryz.prog) (W := W') (t := 3) (c := false) (d := true) (a := (k : Int)) (b := 1) (by omega) (by omega)
    simp only [SX, h1, h4, Nat.zero_add, c3, hs.len lenS, e1, c4, section_ok hs1 hv hk (hr _ (List.getElem_mem hk))]
    have hbs := badK_step hb hk
    by_cases hz : secE v.secs[k] (v.secs.take k) = 0
    · rw [if_pos hz] at hbs
      simp only [SX, hz, ea, Ok_some]
      exact .inl ⟨trivial, trivial, h1, by rw [← e2]; rfl, hbs⟩
    · rw [if_neg hz] at hbs
      simp only [SX, hz, Ok_some]
      exact .inr ⟨by simp, trivial, .inr ⟨trivial, k, _, rfl, rfl, badK_mono hbs (by omega)⟩⟩
  · rintro R W' ⟨rfl, h1, h4, hb⟩
    unfold ref15_Check_L1
    have e1 : ¬ ((v.secs.length : Int) < (v.secs.length : Int)) := by omega
    simp only [SX, h1, h4, Nat.zero_add, c3, hs.len lenS, e1, Ok_some]
    exact ⟨by simp, trivial, .inl ⟨trivial, h1, hb⟩⟩
  · rintro ⟨x, R, W'⟩ ⟨hW, hq⟩
    simp only at hW hq
    subst hW
    rcases hq with ⟨rfl, h1, hb⟩ | ⟨rfl, i, e, h2, h3, hb⟩
    · rw [hb]
      have hg := Good.of (by omega) hb
      obtain ⟨r, W2, q1, q2, q3⟩ := Places_ok hs1 hg
      simp only [SX, h1, c4, q1, q3.len lenP, places_len hg]
      by_cases n6 : 4096 < total v.secs
      · simp only [SX, n6, if_true, Ok_some]
        exact ⟨trivial, hle.trans q2⟩
      · simp only [SX, n6, if_false, Ok_some]
        exact ⟨trivial, hle.trans q2⟩
    · rw [hb]
      simp only [SX, h2, h3, Ok_some]
      exact ⟨trivial, hle⟩
theorem venE_good {v : Ven} (h : (venE v).2 = 0) : Good v.secs ∧ headBad v = false ∧ 0 < v.secs.length ∧ badK v.secs v.secs.length = none ∧ total v.secs ≤ 4096 ∧ (venE v).1 = 0 := by
  unfold venE at h ⊢
  split at h
  · exact absurd h (by decide)
  rename_i h1
  split at h
  · exact absurd h (by decide)
  rename_i h2
  split at h
  · exact absurd h (by decide)
  rename_i h3
  cases hb : badK v.secs v.secs.length with
  | some r =>
    obtain ⟨i, e⟩ := r
    rw [hb] at h
    simp only at h
    subst h
    exfalso
    -- what is wrong is not nought
    have : ∀ n, badK v.secs n ≠ some (i, 0) := by
      intro n
      induction n with
      | zero => simp [badK]
      | succ n ih =>
        intro hn
        have hn' : (match badK v.secs n with | some r => some r | none => match v.secs[n]? with | some s => if secE s (v.secs.take n) = 0 then none else some (n, secE s (v.secs.take n)) | none => none) = some (i, 0) := hn
        cases hbn : badK v.secs n with
        | some r => rw [hbn] at hn'; simp only at hn'; rw [hn'] at hbn; exact ih hbn
        | none =>
          rw [hbn] at hn'
          simp only at hn'
          split at hn'
          · split at hn'
            · cases hn'
            · rename_i hz; injection hn' with hn'; injection hn' with _ e; exact hz e
          · cases hn'
    exact this _ hb
  | none =>
    rw [hb] at h
    simp only at h ⊢
    split at h
    · exact absurd h (by decide)
    rename_i h4
    rw [if_neg h4, if_neg h1, if_neg h2, if_neg h3]
    exact ⟨Good.of (by omega) hb, by simpa using h1, by omega, trivial, by omega, rfl⟩
theorem venBox (v : Ven) (sv : Value) (W : AW) : ∃ W1, oBox (venV v sv) W = some (.pointer (some ⟨W.next, 0, none⟩), W1) ∧ Le W W1 ∧ W.next < W1.next ∧
    (∀ W', Le W1 W' → ldA 4 (.pointer (some ⟨W.next, 0, none⟩)) W' = some (venV v sv, W')) ∧ (∀ W', Le W1 W' → ldC (.pointer (some ⟨W.next, 0, none⟩)) W' = some (.int .i64 v.sh, W')) ∧ (∀ W', Le W1 W' → ldC (.pointer (some ⟨W.next, 3, none⟩)) W' = some (sv, W')) := by
  have hc : cellsAt (W.add (.cells [.int .i64 v.sh, .int .i64 v.ttl, .int .i64 v.ses, sv])) W.next = some [.int .i64 v.sh, .int .i64 v.ttl, .int .i64 v.ses, sv] := cellsAt_new
  have hn : W.next < (W.add (.cells [.int .i64 v.sh, .int .i64 v.ttl, .int .i64 v.ses, sv])).next := by rw [AW.add_next]; omega
  exact ⟨_, oBox4 _ _ _ _ W, (Le.refl W).add _, hn, fun W' k => ldA_all (by rw [k.cellsAt hn]; exact hc) rfl, fun W' k => ldC_ok (by rw [k.cellsAt hn]; exact hc) rfl, fun W' k => ldC_ok (by rw [k.cellsAt hn]; exact hc) rfl⟩
/-- how many seats -/
def seatsE (v : Ven) : Int × Int := if (venE v).2 = 0 then (total v.secs, 0) else (0, (venE v).2)
theorem refSeats_ok {v : Ven} {sv : Value} {W : AW} (hs : Secs W sv v.secs) (hv : v.secs.length < 1000) (hr : ∀ s ∈ v.secs, s.rows.length < 1000) : omS (.func (.func 10) #[] #[]) [venV v sv] W = some (.tuple #[.int .i64 (seatsE v).1, .int .i64 (seatsE v).2], W) := by
  refine om_drop rfl ?_ ref15_Seats_om
  unfold ref15_Seats seatsE
  obtain ⟨W1, hB, hle, hn, c4, c0, c3⟩ := venBox v sv W
  simp only [SX, hB, c4 _ (.refl _), refVen_ok (hs.mono hle) hv hr]
  by_cases he : (venE v).2 = 0
  · obtain ⟨r, W2, q1, q2, q3⟩ := Places_ok (hs.mono hle) (venE_good he).1
    simp only [SX, decide_eq_true he, c4 _ (.refl _), q1, q3.len lenP, places_len (venE_good he).1, if_pos he, Ok_some]
    exact ⟨trivial, hle.trans q2⟩
  · simp only [SX, he, if_false, Ok_some]
    exact ⟨trivial, hle⟩
end Go.Proofs.YtfcfglpkgcheiaaGreatDoor
/- The rows of a venue, one after another. -/
namespace Go.Proofs.YtfcfglpkgcheiaaGreatDoor
open Go Go.Eng
set_option linter.unusedVariables false
set_option linter.unusedSimpArgs false
set_option maxRecDepth 100000
structure RowT where
  sec : Nat
  row : Nat
  first : Int
  many : Int
abbrev rowV (r : RowT) : Value := .agg #[.int .i64 (r.sec : Int), .int .i64 (r.row : Int), .int .i64 r.first, .int .i64 r.many]
/-- the first k rows of section i; the rows of the first n sections -/
def secR (l : List Sec) (i : Nat) (rows : List Int) (k : Nat) : List RowT := (List.range k).map fun j => ⟨i, j, total (l.take i) + sumI (rows.take j), rows.getD j 0⟩
def rowsK (l : List Sec) (n : Nat) : List RowT := (List.range n).flatMap fun i => match l[i]? with
  | some s => secR l i s.rows s.rows.length
  | none => []
def rowsL (l : List Sec) : List RowT := rowsK l l.length
theorem secR_succ (l : List Sec) (i : Nat) (rows : List Int) {k : Nat} (hk : k < rows.length) : secR l i rows (k + 1) = secR l i rows k ++ [⟨i, k, total (l.take i) + sumI (rows.take k), rows[k]⟩] := by
  unfold secR
  rw [List.range_succ, List.map_append, List.map_cons, List.map_nil, List.getD_eq_getElem?_getD, List.getElem?_eq_getElem hk, Option.getD_some]
theorem rowsK_succ (l : List Sec) {n : Nat} (hn : n < l.length) : rowsK l (n + 1) = rowsK l n ++ secR l n l[n].rows l[n].rows.length := by
  unfold rowsK
  rw [List.range_succ, List.flatMap_append, List.flatMap_cons, List.flatMap_nil, List.append_nil, List.getElem?_eq_getElem hn]
theorem secR_pre {l : List Sec} {i : Nat} {rows : List Int} {k n : Nat} (h : k ≤ n) (hn : n ≤ rows.length) : secR l i rows k <+: secR l i rows n := by
  induction n with
  | zero => obtain rfl : k = 0 := by omega
            exact List.prefix_refl _
  | succ n ih =>
    by_cases e : k = n + 1
    · subst e; exact List.prefix_refl _
    · rw [secR_succ l i rows (by omega)]
      exact (ih (by omega) (by omega)).trans (List.prefix_append _ _)
theorem rowsK_pre {l : List Sec} {k n : Nat} (h : k ≤ n) (hn : n ≤ l.length) : rowsK l k <+: rowsK l n := by
  induction n with
  | zero => obtain rfl : k = 0 := by omega
            exact List.prefix_refl _
  | succ n ih =>
    by_cases e : k = n + 1
    · subst e; exact List.prefix_refl _
    · rw [rowsK_succ l (by omega)]
      exact (ih (by omega) (by omega)).trans (List.prefix_append _ _)
theorem rows_pre {l : List Sec} {i k : Nat} (hi : i < l.length) (hk : k < l[i].rows.length) : (rowsK l i ++ secR l i l[i].rows k) ++ [⟨i, k, total (l.take i) + sumI (l[i].rows.take k), l[i].rows[k]⟩] <+: rowsL l := by
  rw [List.append_assoc, ← secR_succ l i _ hk]
  refine List.IsPrefix.trans ?_ (rowsK_pre (k := i + 1) (by omega) (Nat.le_refl _))
  rw [rowsK_succ l hi]
  exact (List.prefix_append_right_inj _).2 (secR_pre (by omega) (Nat.le_refl _))
theorem bd92 (a b c d : Int) (W : AW) : oBuild Tryz.prog 61 [(0, .int .i64 a), (1, .int .i64 b), (2, .int .i64 c), (3, .int .i64 d)] W = some (.agg #[.int .i64 a, .int .i64 b, .int .i64 c, .int .i64 d], W) := Eq.trans (by kernel_rfl) rfl
theorem rows_ok {v : Ven} {sv f : Value} {bx : Nat} {W0 W : AW} (hs : Secs W0 sv v.secs) (hg : Good v.secs) (hb : ldC (.pointer (some ⟨bx, 3, none⟩)) W = some (sv, W)) (I : List RowT → AW → Prop) (Q : AW → Prop)
    (hI : I [] W) (hS : ∀ pre W', I pre W' → Le W0 W') (hA : ∀ pre W' cs, I pre W' → I pre (W'.add (.cells cs)))
    (step : ∀ pre r W', pre ++ [r] <+: rowsL v.secs → I pre W' → ∃ b W2, omS f [rowV r] W' = some (.bool b, W2) ∧ (b = true → I (pre ++ [r]) W2) ∧ (b = false → Q W2)) :
    ∃ W2, omS (.func (.func 57) #[] #[.pointer (some ⟨bx, 0, none⟩)]) [f] W = some (.tuple #[], W2) ∧ (I (rowsL v.secs) W2 ∨ Q W2) := by
  have main : Ok (venue_rows_1 omS f (.pointer (some ⟨bx, 0, none⟩)) W) fun r => r.1 = .tuple #[] ∧ (I (rowsL v.secs) r.2 ∨ Q r.2) := by
    unfold venue_rows_1
    have hlen := hg.len
    have add1 : ∀ (k : Nat) (W' : AW), k < 1000000 → oBin Tryz.prog .add 3 false true (.int .i64 (k : Int)) (.int .i64 1) W' = some (.int .i64 ((k + 1 : Nat) : Int), W') := fun k W' hk => oBin_add (by omega) (by omega)
    simp only [SX, Nat.zero_add, hb, hs.len lenS]
    refine Ok_loop v.secs.length (by omega) (fun i R W' => R 0 = f ∧ R 3 = .int .i64 (total (v.secs.take i)) ∧ R 9 = sv ∧ R 10 = .int .i64 (v.secs.length : Int) ∧ R 11 = .int .i64 (i : Int) ∧ I (rowsK v.secs i) W')
      (fun r => (r.1 = .exit 0 ∧ I (rowsL v.secs) r.2.2) ∨ (r.1 = .ret ∧ Q r.2.2)) ⟨rfl, rfl, rfl, rfl, rfl, hI⟩ ?_ ?_ ?_
    · rintro i R W' hi ⟨h0, h3, h9, h10, h11, hi'⟩
      unfold venue_rows_1_L1
      have e1 : ((i : Int) < (v.secs.length : Int)) := by omega
      obtain ⟨b, o, rv, g1, g2, g3, _⟩ := hs.get hi
      obtain ⟨r1, r2, r3⟩ := hg.rows _ (List.getElem_mem hi)
      have htb : 0 ≤ total (v.secs.take i) ∧ total (v.secs.take i) ≤ 1024 * i := by
        have := plcK_len hg (by omega : i ≤ v.secs.length); omega
      have hI2 := hA _ _ [.string (bytesL v.secs[i].name), rv, .int .i64 v.secs[i].q] hi'
      have hc2 : cellsAt (W'.add (.cells [.string (bytesL v.secs[i].name), rv, .int .i64 v.secs[i].q])) W'.next = some [.string (bytesL v.secs[i].name), rv, .int .i64 v.secs[i].q] := cellsAt_new
      simp only [SX, h9, h10, h11, e1, g1, g3 _ (hS _ _ hi'), al62, stV3 rwCells_new (one_string _) (Row.one g2) (one_int _ _), put_add_cells, Nat.zero_add]
      generalize hW2 : W'.add (.cells [.string (bytesL v.secs[i].name), rv, .int .i64 v.secs[i].q]) = W2 at *
      have d1 : ldC (.pointer (some ⟨W'.next, 1, none⟩)) W2 = some (rv, W2) := ldC_ok hc2 rfl
      simp only [SX, d1, g2.len lenI]
      refine Ok_loop v.secs[i].rows.length (by omega) (fun k R W' => R 0 = f ∧ R 3 = .int .i64 (total (v.secs.take i) + sumI (v.secs[i].rows.take k)) ∧ R 4 = .int .i64 (i : Int) ∧ R 9 = sv ∧ R 10 = .int .i64 (v.secs.length : Int) ∧ R 11 = .int .i64 (i : Int) ∧ R 17 = rv ∧ R 18 = .int .i64 (v.secs[i].rows.length : Int) ∧ R 19 = .int .i64 (k : Int) ∧ I (rowsK v.secs i ++ secR v.secs i v.secs[i].rows k) W')
        (fun r => (r.1 = .exit 2 ∧ r.2.1 0 = f ∧ r.2.1 3 = .int .i64 (total (v.secs.take (i + 1))) ∧ r.2.1 9 = sv ∧ r.2.1 10 = .int .i64 (v.secs.length : Int) ∧ r.2.1 11 = .int .i64 (i : Int) ∧ I (rowsK v.secs (i + 1)) r.2.2) ∨ (r.1 = .ret ∧ Q r.2.2))
        ⟨h0, by rw [List.take_zero, show sumI [] = 0 from rfl, Int.add_zero]; exact h3, rfl, h9, h10, h11, rfl, rfl, rfl, by rw [show secR v.secs i v.secs[i].rows 0 = [] from rfl, List.append_nil]; exact hI2⟩ ?_ ?_ ?_
      · rintro k R W' hk ⟨h0, h3, h4, h9, h10, h11, h17, h18, h19, hi'⟩
        unfold venue_rows_1_L1_L2
        have e1 : ((k : Int) < (v.secs[i].rows.length : Int)) := by omega
        obtain ⟨p, p1, p2⟩ := g2.get hk
        obtain ⟨c, W3, s1, s2, s3⟩ := step _ ⟨i, k, total (v.secs.take i) + sumI (v.secs[i].rows.take k), v.secs[i].rows[k]⟩ W' (rows_pre hi hk) hi'
        have hsb := (sumI_bound r3 k).1
        have hsn := r3 _ (List.getElem_mem hk)
        have eb := oBin_add (P := Tryz.prog) (W := W3) (t := 3) (c := false) (d := false) (a := total (v.secs.take i) + sumI (v.secs[i].rows.take k)) (b := v.secs[i].rows[k]) (by omega) (by omega)
        simp only [SX, h0, h3, h4, h17, h18, h19, e1, p1, p2 _ (hS _ _ hi'), bd92, s1]
        cases c
        · simp only [SX, Ok_some]
          exact .inr ⟨by simp, .inr ⟨trivial, s3 rfl⟩⟩
        · simp only [SX, eb, add1 k _ (by omega), Ok_some]
          refine .inl ⟨trivial, h0, ?_, h4, h9, h10, h11, h17, h18, rfl, ?_⟩
          · rw [sumI_take hk, ← Int.add_assoc]; rfl
          · rw [secR_succ _ _ _ hk, ← List.append_assoc]; exact s2 rfl
      · rintro R W' ⟨h0, h3, h4, h9, h10, h11, h17, h18, h19, hi'⟩
        unfold venue_rows_1_L1_L2
        have e1 : ¬ ((v.secs[i].rows.length : Int) < (v.secs[i].rows.length : Int)) := by omega
        simp only [SX, h18, h19, e1, Ok_some]
        refine ⟨by simp, .inl ⟨trivial, h0, ?_, h9, h10, h11, ?_⟩⟩
        · rw [total_take hi]
          rw [List.take_length] at h3
          exact h3
        · rw [rowsK_succ _ hi]; exact hi'
      · rintro ⟨x, R, W'⟩ hq
        rcases hq with ⟨rfl, h0, h3, h9, h10, h11, hi'⟩ | ⟨rfl, hq⟩
        · simp only at h0 h3 h9 h10 h11 hi'
          simp only [SX, h11, add1 i _ (by omega), Ok_some]
          exact .inl ⟨trivial, h0, h3, h9, h10, rfl, hi'⟩
        · simp only [SX, Ok_some]
          exact .inr ⟨by simp, .inr ⟨trivial, hq⟩⟩
    · rintro R W' ⟨h0, h3, h9, h10, h11, hi'⟩
      unfold venue_rows_1_L1
      have e1 : ¬ ((v.secs.length : Int) < (v.secs.length : Int)) := by omega
      simp only [SX, h10, h11, e1, Ok_some]
      exact ⟨by simp, .inl ⟨trivial, hi'⟩⟩
    · rintro ⟨x, R, W'⟩ hq
      rcases hq with ⟨rfl, hi'⟩ | ⟨rfl, hq⟩
      · simp only [SX, Ok_some]
        exact ⟨trivial, .inl hi'⟩
      · simp only [SX, Ok_some]
        exact ⟨trivial, .inr hq⟩
  obtain ⟨⟨r, W'⟩, h1, h2, h3⟩ := main
  simp only at h2 h3
  subst h2
  exact ⟨W', by rw [venue_rows_1_om h1, gc_not rfl], h3⟩
end Go.Proofs.YtfcfglpkgcheiaaGreatDoor
/- What ranges over the rows of a venue: the rule, and how many seats there are. -/
namespace Go.Proofs.YtfcfglpkgcheiaaGreatDoor
open Go Go.Eng
set_option linter.unusedVariables false
set_option linter.unusedSimpArgs false
set_option maxRecDepth 100000
theorem rows_fn {v : Ven} {sv : Value} (W : AW) : ∃ W1, omS (.func (.func 39) #[] #[]) [venV v sv] W = some (.func (.func 57) #[] #[.pointer (some ⟨W.next, 0, none⟩)], W1) ∧ Le W W1 ∧ W.next < W1.next ∧ (∀ W', Le W1 W' → ldC (.pointer (some ⟨W.next, 3, none⟩)) W' = some (sv, W')) := by
  obtain ⟨W1, hB, hle, hn, c4, c0, c3⟩ := venBox v sv W
  refine ⟨W1, ?_, hle, hn, c3⟩
  have : venue_rows omS (venV v sv) W = some (.func (.func 57) #[] #[.pointer (some ⟨W.next, 0, none⟩)], W1) := by
    unfold venue_rows
    simp only [SX, hB]
  rw [venue_rows_om this, gc_not rfl]
theorem rows_range {v : Ven} {sv : Value} {W0 W : AW} {bx nt : Nat} {R : Nat → Value} {ps : Array Tmp} {ac bd : Code} (hs : Secs W0 sv v.secs) (hg : Good v.secs)
    (hb : ldC (.pointer (some ⟨bx, 3, none⟩)) (W.add (.loop .ready none R nt ps ac bd)) = some (sv, W.add (.loop .ready none R nt ps ac bd))) (hp : ps.size = 1)
    (J : List RowT → AW → Prop) (Q : X → AW → Prop) (h0 : J [] (W.add (.loop .ready none R nt ps ac bd)))
    (hS : ∀ pre W', J pre W' → Le W0 W') (hA : ∀ pre W' cs, J pre W' → W.next < W'.next → J pre (W'.add (.cells cs))) (hP : ∀ pre W' o, J pre W' → J pre (W'.put W.next o)) (hQ : ∀ x W' o, Q x W' → Q x (W'.put W.next o))
    (d : Nat) (has : ∀ r W' R', R' = zipGo ps.toList [rowV r] R → kCode Tryz.prog omS false nt ac LT R' W' ret3 = some (.normal, rput R' (some d) (.pointer (some ⟨W'.next, 0, none⟩)), W'.add (.cells [.int .i64 (r.sec : Int), .int .i64 (r.row : Int), .int .i64 r.first, .int .i64 r.many])))
    (step : ∀ pre r W' b R', R' = rput (zipGo ps.toList [rowV r] R) (some d) (.pointer (some ⟨b, 0, none⟩)) → pre ++ [r] <+: rowsL v.secs → J pre W' → W.next < W'.next → rwCells W' b = some [.int .i64 (r.sec : Int), .int .i64 (r.row : Int), .int .i64 r.first, .int .i64 r.many] → W.next < b → b < W'.next →
      Ok (kCode Tryz.prog omS false nt bd LT R' W' ret3) fun q => W'.next ≤ q.2.2.next ∧ q.2.2.get W.next = W'.get W.next ∧ ((q.1 = .normal ∧ J (pre ++ [r]) q.2.2) ∨ (q.1 ≠ .normal ∧ Q q.1 q.2.2))) :
    ∃ x W2, oRange omS (.func (.func 57) #[] #[.pointer (some ⟨bx, 0, none⟩)]) (.loop .ready none R nt ps ac bd) W = some (x, W2.kill W.next) ∧ ((x = .normal ∧ J (rowsL v.secs) W2) ∨ (x ≠ .normal ∧ Q x W2)) := by
  obtain ⟨W2, h1, h2⟩ := rows_ok (f := .func (.yield W.next) #[] #[]) (W := W.add (.loop .ready none R nt ps ac bd)) hs hg hb
    (fun pre W' => J pre W' ∧ W.next < W'.next ∧ W'.get W.next = some (.loop .ready none R nt ps ac bd))
    (fun W' => ∃ x, x ≠ .normal ∧ Q x W' ∧ W'.get W.next = some (.loop .done x.jump R nt ps ac bd))
    ⟨h0, by rw [AW.add_next]; omega, AW.get_add _ _⟩ (fun pre W' h => hS _ _ h.1)
    (fun pre W' cs h => ⟨hA _ _ _ h.1 h.2.1, by rw [AW.add_next]; omega, by rw [AW.get_add_ne _ _ (by omega)]; exact h.2.2⟩)
    (fun pre r W' hpre ⟨hJ, hlt, hget⟩ => by
      have hJ2 := hP _ _ (.loop .busy none R nt ps ac bd) (hA _ _ [.int .i64 (r.sec : Int), .int .i64 (r.row : Int), .int .i64 r.first, .int .i64 r.many] hJ hlt)
      obtain ⟨⟨x, R2, W3⟩, k1, k2, k3, k4⟩ := step pre r _ W'.next _ rfl hpre hJ2 (by rw [AW.put_next, AW.add_next]; omega) (by rw [rwCells_put_ne _ (by omega)]; exact rwCells_new) hlt (by rw [AW.put_next, AW.add_next]; omega)
      simp only at k1 k2 k3 k4
      rw [AW.get_put] at k3
      have hy := yield_gen (P := Tryz.prog) (args := [rowV r]) hget (by rw [hp]; rfl) (has r W' _ rfl) (by rw [AW.get_add_ne _ _ (by omega)]; exact hget) k1 k3
      have hn3 : W.next < W3.next := by rw [AW.put_next, AW.add_next] at k2; omega
      rcases k4 with ⟨rfl, k4⟩ | ⟨kx, k4⟩
      · exact ⟨true, _, hy, fun _ => ⟨hP _ _ _ k4, by rw [AW.put_next]; exact hn3, AW.get_put _ _ _⟩, fun h => by cases h⟩
      · refine ⟨false, W3.put W.next (.loop .done x.jump R nt ps ac bd), ?_, fun h => by (cases h), fun _ => ⟨x, kx, hQ _ _ _ k4, AW.get_put _ _ _⟩⟩
        refine hy.trans ?_
        cases x with
        | normal => exact absurd rfl kx
        | exit i => rfl
        | ret => rfl)
  rcases h2 with ⟨h2, h3, h4⟩ | ⟨x, h2, h3, h4⟩
  · exact ⟨.normal, W2, range_normal h1 h4 (by simp), .inl ⟨rfl, h2⟩⟩
  · exact ⟨x, W2, range_jump h1 h4, .inr ⟨h2, h3⟩⟩
theorem Ok_rows {v : Ven} {sv : Value} {W0 W : AW} {bx nt : Nat} {R : Nat → Value} {ps : Array Tmp} {ac bd : Code} {ρ : Type} {K : X × AW → Option ρ} {G : ρ → Prop} (hs : Secs W0 sv v.secs) (hg : Good v.secs)
    (hb : ldC (.pointer (some ⟨bx, 3, none⟩)) (W.add (.loop .ready none R nt ps ac bd)) = some (sv, W.add (.loop .ready none R nt ps ac bd))) (hp : ps.size = 1)
    (J : List RowT → AW → Prop) (Q : X → AW → Prop) (h0 : J [] (W.add (.loop .ready none R nt ps ac bd)))
    (hS : ∀ pre W', J pre W' → Le W0 W') (hA : ∀ pre W' cs, J pre W' → W.next < W'.next → J pre (W'.add (.cells cs))) (hP : ∀ pre W' o, J pre W' → J pre (W'.put W.next o)) (hQ : ∀ x W' o, Q x W' → Q x (W'.put W.next o))
    (d : Nat) (has : ∀ r W' R', R' = zipGo ps.toList [rowV r] R → kCode Tryz.prog omS false nt ac LT R' W' ret3 = some (.normal, rput R' (some d) (.pointer (some ⟨W'.next, 0, none⟩)), W'.add (.cells [.int .i64 (r.sec : Int), .int .i64 (r.row : Int), .int .i64 r.first, .int .i64 r.many])))
    (step : ∀ pre r W' b R', R' = rput (zipGo ps.toList [rowV r] R) (some d) (.pointer (some ⟨b, 0, none⟩)) → pre ++ [r] <+: rowsL v.secs → J pre W' → W.next < W'.next → rwCells W' b = some [.int .i64 (r.sec : Int), .int .i64 (r.row : Int), .int .i64 r.first, .int .i64 r.many] → W.next < b → b < W'.next →
      Ok (kCode Tryz.prog omS false nt bd LT R' W' ret3) fun q => W'.next ≤ q.2.2.next ∧ q.2.2.get W.next = W'.get W.next ∧ ((q.1 = .normal ∧ J (pre ++ [r]) q.2.2) ∨ (q.1 ≠ .normal ∧ Q q.1 q.2.2)))
    (after : ∀ x W2, (x = .normal ∧ J (rowsL v.secs) W2) ∨ (x ≠ .normal ∧ Q x W2) → Ok (K (x, W2.kill W.next)) G) :
    Ok (bnd (oRange omS (.func (.func 57) #[] #[.pointer (some ⟨bx, 0, none⟩)]) (.loop .ready none R nt ps ac bd) W) K) G := by
  obtain ⟨x, W2, h1, h2⟩ := rows_range hs hg hb hp J Q h0 hS hA hP hQ d has step
  rw [h1, bnd_some]
  exact after x W2 h2
/-- how many seats rows have -/
def manyS (l : List RowT) : Int := sumI (l.map (·.many))
end Go.Proofs.YtfcfglpkgcheiaaGreatDoor
/- The rows of a venue in plain: their first seats, how many there are, their places. -/
namespace Go.Proofs.YtfcfglpkgcheiaaGreatDoor
open Go Go.Eng
set_option linter.unusedVariables false
set_option linter.unusedSimpArgs false
set_option maxRecDepth 100000
def Firsts : Int → List RowT → Prop
  | _, [] => True
  | s, r :: l => r.first = s ∧ Firsts (s + r.many) l
theorem manyS_nil : manyS [] = 0 := rfl
theorem manyS_cons (r : RowT) (l : List RowT) : manyS (r :: l) = r.many + manyS l := rfl
theorem manyS_append (a b : List RowT) : manyS (a ++ b) = manyS a + manyS b := by
  induction a with
  | nil => simp [manyS_nil]
  | cons r a ih => rw [List.cons_append, manyS_cons, manyS_cons, ih]; omega
theorem Firsts.append : ∀ {a b : List RowT} {s : Int}, Firsts s a → Firsts (s + manyS a) b → Firsts s (a ++ b)
  | [], _, s, _, h => by rw [manyS_nil, Int.add_zero] at h; exact h
  | r :: a, b, s, ⟨h1, h2⟩, h => ⟨h1, Firsts.append h2 (by rw [manyS_cons, ← Int.add_assoc] at h; exact h)⟩
theorem Firsts.at : ∀ {a b : List RowT} {r : RowT} {s : Int}, Firsts s (a ++ r :: b) → r.first = s + manyS a
  | [], _, _, s, ⟨h, _⟩ => by rw [h, manyS_nil, Int.add_zero]
  | x :: a, b, r, s, ⟨_, h⟩ => by rw [Firsts.at h, manyS_cons, Int.add_assoc]
theorem secR_sum (l : List Sec) (i : Nat) (rows : List Int) : ∀ {k : Nat}, k ≤ rows.length → manyS (secR l i rows k) = sumI (rows.take k)
  | 0, _ => rfl
  | k + 1, hk => by
    rw [secR_succ l i rows (by omega), manyS_append, secR_sum l i rows (by omega), sumI_take (by omega), manyS_cons, manyS_nil, Int.add_zero]
theorem secR_firsts (l : List Sec) (i : Nat) (rows : List Int) : ∀ {k : Nat}, k ≤ rows.length → Firsts (total (l.take i)) (secR l i rows k)
  | 0, _ => trivial
  | k + 1, hk => by
    rw [secR_succ l i rows (by omega)]
    exact (secR_firsts l i rows (by omega)).append ⟨by rw [secR_sum l i rows (by omega)], trivial⟩
theorem rowsK_sum (l : List Sec) : ∀ {n : Nat}, n ≤ l.length → manyS (rowsK l n) = total (l.take n)
  | 0, _ => rfl
  | n + 1, hn => by
    rw [rowsK_succ l (by omega), manyS_append, rowsK_sum l (by omega), secR_sum l n _ (Nat.le_refl _), total_take (by omega), List.take_length]
theorem rowsK_firsts (l : List Sec) : ∀ {n : Nat}, n ≤ l.length → Firsts 0 (rowsK l n)
  | 0, _ => trivial
  | n + 1, hn => by
    rw [rowsK_succ l (by omega)]
    refine (rowsK_firsts l (by omega)).append ?_
    rw [rowsK_sum l (by omega), Int.zero_add]
    exact secR_firsts l n _ (Nat.le_refl _)
theorem rows_sum (l : List Sec) : manyS (rowsL l) = total l := by
  have := rowsK_sum l (Nat.le_refl l.length)
  rwa [List.take_length] at this
theorem rows_firsts (l : List Sec) : Firsts 0 (rowsL l) := rowsK_firsts l (Nat.le_refl _)
/-- where a row comes from -/
def RowOf (l : List Sec) (r : RowT) : Prop := ∃ (hi : r.sec < l.length) (hk : r.row < l[r.sec].rows.length), r.many = l[r.sec].rows[r.row]
theorem rows_mem {l : List Sec} {r : RowT} (h : r ∈ rowsL l) : RowOf l r := by
  unfold rowsL rowsK at h
  obtain ⟨i, hi, h⟩ := List.mem_flatMap.1 h
  rw [List.mem_range] at hi
  rw [List.getElem?_eq_getElem hi] at h
  unfold secR at h
  obtain ⟨k, hk, rfl⟩ := List.mem_map.1 h
  rw [List.mem_range] at hk
  exact ⟨hi, hk, by simp [List.getD_eq_getElem?_getD, List.getElem?_eq_getElem hk]⟩
theorem RowOf.many {l : List Sec} {r : RowT} (h : RowOf l r) (hg : Good l) : 1 ≤ r.many ∧ r.many ≤ 64 ∧ r.sec < 8 ∧ r.row < 16 := by
  obtain ⟨hi, hk, hm⟩ := h
  obtain ⟨_, h2, h3⟩ := hg.rows _ (List.getElem_mem hi)
  have := h3 _ (List.getElem_mem hk)
  have := hg.len
  omega
theorem manyS_pos {l : List RowT} (h : ∀ r ∈ l, 1 ≤ r.many) : (l.length : Int) ≤ manyS l := by
  induction l with
  | nil => simp [manyS_nil]
  | cons r l ih =>
    have h1 := h r (by simp)
    have h2 := ih fun x hx => h x (by simp [hx])
    rw [manyS_cons, List.length_cons]; omega
theorem manyS_pre {a l : List RowT} (h : a <+: l) (hm : ∀ r ∈ l, 1 ≤ r.many) : 0 ≤ manyS a ∧ manyS a ≤ manyS l := by
  obtain ⟨b, rfl⟩ := h
  have h1 := manyS_pos (l := a) fun r hr => hm r (by simp [hr])
  have h2 := manyS_pos (l := b) fun r hr => hm r (by simp [hr])
  rw [manyS_append]; omega
theorem total_max {l : List Sec} (hg : Good l) : 0 ≤ total l ∧ total l ≤ 8192 := by
  have h := (plcK_len hg (Nat.le_refl l.length))
  rw [List.take_length] at h
  have := hg.len
  omega
/-- facts of the next row -/
theorem row_next {l : List Sec} (hg : Good l) {pre : List RowT} {r : RowT} (h : pre ++ [r] <+: rowsL l) : RowOf l r ∧ r.first = manyS pre ∧ 0 ≤ manyS pre ∧ manyS (pre ++ [r]) ≤ 8192 ∧ 1 ≤ r.many ∧ r.many ≤ 64 ∧ manyS (pre ++ [r]) = manyS pre + r.many := by
  have hm : ∀ r ∈ rowsL l, 1 ≤ r.many := fun r hr => ((rows_mem hr).many hg).1
  have hr : r ∈ rowsL l := h.subset (by simp)
  have h1 := manyS_pre h hm
  have h2 := manyS_pre ((List.prefix_append pre [r]).trans h) hm
  rw [rows_sum] at h1
  obtain ⟨b, hb⟩ := h
  have hf := rows_firsts l
  rw [← hb, List.append_assoc] at hf
  have := Firsts.at hf
  have hx := (rows_mem hr).many hg
  have := total_max hg
  refine ⟨rows_mem hr, by omega, by omega, by omega, by omega, by omega, ?_⟩
  rw [manyS_append, manyS_cons, manyS_nil, Int.add_zero]
theorem secP_rows (l : List Sec) (i : Nat) (rows : List Int) : ∀ {k : Nat}, k ≤ rows.length → secP i rows k = (secR l i rows k).flatMap fun r => rowP r.sec r.row r.many.toNat
  | 0, _ => rfl
  | k + 1, hk => by
    rw [secP_succ i rows (by omega), secR_succ l i rows (by omega), List.flatMap_append, ← secP_rows l i rows (by omega), List.flatMap_cons, List.flatMap_nil, List.append_nil]
theorem places_rows (l : List Sec) : places l = (rowsL l).flatMap fun r => rowP r.sec r.row r.many.toNat := by
  have : ∀ n, n ≤ l.length → plcK l n = (rowsK l n).flatMap fun r => rowP r.sec r.row r.many.toNat := by
    intro n
    induction n with
    | zero => intro _; rfl
    | succ n ih =>
      intro hn
      rw [plcK_succ l (by omega), rowsK_succ l (by omega), List.flatMap_append, ← ih (by omega), ← secP_rows l n _ (Nat.le_refl _)]
  exact this _ (Nat.le_refl _)
end Go.Proofs.YtfcfglpkgcheiaaGreatDoor
/- How many seats there are: the code's answer. -/
namespace Go.Proofs.YtfcfglpkgcheiaaGreatDoor
open Go Go.Eng
set_option linter.unusedVariables false
set_option linter.unusedSimpArgs false
set_option maxRecDepth 100000
theorem oL3 (x : Value) (W : AW) : oLoad Tryz.prog 3 x W = ldC x W := by kernel_rfl
theorem oL28 (x : Value) (W : AW) : oLoad Tryz.prog 29 x W = ldC x W := by kernel_rfl
theorem oL92 (x : Value) (W : AW) : oLoad Tryz.prog 61 x W = ldA 4 x W := by kernel_rfl
theorem al3 (W : AW) : oAlloc Tryz.prog 3 W = some (.pointer (some ⟨W.next, 0, none⟩), W.add (.cells [.int .i64 0])) := Eq.trans (by kernel_rfl) rfl
theorem al28 (W : AW) : oAlloc Tryz.prog 29 W = some (.pointer (some ⟨W.next, 0, none⟩), W.add (.cells [.int .i64 0])) := Eq.trans (by kernel_rfl) rfl
theorem al92 (W : AW) : oAlloc Tryz.prog 61 W = some (.pointer (some ⟨W.next, 0, none⟩), W.add (.cells [.int .i64 0, .int .i64 0, .int .i64 0, .int .i64 0])) := Eq.trans (by kernel_rfl) rfl
theorem bd92z (W : AW) : oBuild Tryz.prog 61 [] W = some (.agg #[.int .i64 0, .int .i64 0, .int .i64 0, .int .i64 0], W) := Eq.trans (by kernel_rfl) rfl
theorem stV4 {b : Nat} {a c d e x y z u : Value} {W : AW} (h : rwCells W b = some [x, y, z, u]) (h1 : one a = true) (h2 : one c = true) (h3 : one d = true) (h4 : one e = true) : stV 4 (.pointer (some ⟨b, 0, none⟩)) (.agg #[a, c, d, e]) W = some (undef, W.put b (.cells [a, c, d, e])) := by
  rw [stV_eq, h, Option.bind_some]
  have hc : (Value.agg #[a, c, d, e]).cells = #[a, c, d, e] := cells_agg _
  rw [hc, if_pos ⟨rfl, by simp, by simp [h1, h2, h3, h4]⟩]
  rfl
theorem stI {b : Nat} {x : Value} {n : Int} {W : AW} (h : rwCells W b = some [x]) : stV 1 (.pointer (some ⟨b, 0, none⟩)) (.int .i64 n) W = some (undef, W.put b (.cells [.int .i64 n])) := by
  rw [stV_int, h]; rfl
theorem ldI {b : Nat} {x : Value} {W : AW} (h : rwCells W b = some [x]) : ldC (.pointer (some ⟨b, 0, none⟩)) W = some (x, W) := ldC_ok (rwCells_cellsAt h) rfl
theorem ldR {b o : Nat} {cs : List Value} {x : Value} {W : AW} (h : rwCells W b = some cs) (hv : cs[o]? = some x) : ldC (.pointer (some ⟨b, o, none⟩)) W = some (x, W) := ldC_ok (rwCells_cellsAt h) hv
end Go.Proofs.YtfcfglpkgcheiaaGreatDoor
/- Which row a seat is in: the code's answer. -/
namespace Go.Proofs.YtfcfglpkgcheiaaGreatDoor
open Go Go.Eng
set_option linter.unusedVariables false
set_option linter.unusedSimpArgs false
set_option maxRecDepth 100000
abbrev rowC (r : RowT) : List Value := [.int .i64 (r.sec : Int), .int .i64 (r.row : Int), .int .i64 r.first, .int .i64 r.many]
theorem find_pre {α : Type} {p : α → Bool} {pre l : List α} {r : α} (h : pre ++ [r] <+: l) (h0 : ∀ x ∈ pre, p x = false) (h1 : p r = true) : l.find? p = some r := by
  obtain ⟨b, rfl⟩ := h
  rw [List.append_assoc, List.find?_append, List.find?_eq_none.2 (fun x hx => by simp [h0 x hx]), List.cons_append, List.find?_cons_of_pos h1]
  rfl
theorem find_no {α : Type} {p : α → Bool} {l : List α} (h0 : ∀ x ∈ l, p x = false) : l.find? p = none := List.find?_eq_none.2 (fun x hx => by simp [h0 x hx])
theorem snoc_all {α : Type} {p : α → Bool} {pre : List α} {r : α} (h0 : ∀ x ∈ pre, p x = false) (h1 : p r = false) : ∀ x ∈ pre ++ [r], p x = false := by
  intro x hx
  rcases List.mem_append.1 hx with h | h
  · exact h0 x h
  · rw [List.mem_singleton.1 h]; exact h1
theorem boxI (n : Int) (W : AW) : ∃ W1, oBox (.int .i64 n) W = some (.pointer (some ⟨W.next, 0, none⟩), W1) ∧ W1.next = W.next + 1 ∧ Le W W1 ∧ rwCells W1 W.next = some [.int .i64 n] :=
  ⟨_, oBox_int _ _, AW.add_next _ _, (Le.refl W).add _, rwCells_new⟩
theorem new3 (W : AW) : ∃ W1, oAlloc Tryz.prog 3 W = some (.pointer (some ⟨W.next, 0, none⟩), W1) ∧ W1.next = W.next + 1 ∧ Le W W1 ∧ rwCells W1 W.next = some [.int .i64 0] := ⟨_, al3 W, AW.add_next _ _, (Le.refl W).add _, rwCells_new⟩
theorem new28 (W : AW) : ∃ W1, oAlloc Tryz.prog 29 W = some (.pointer (some ⟨W.next, 0, none⟩), W1) ∧ W1.next = W.next + 1 ∧ Le W W1 ∧ rwCells W1 W.next = some [.int .i64 0] := ⟨_, al28 W, AW.add_next _ _, (Le.refl W).add _, rwCells_new⟩
theorem new92 (W : AW) : ∃ W1, oAlloc Tryz.prog 61 W = some (.pointer (some ⟨W.next, 0, none⟩), W1) ∧ W1.next = W.next + 1 ∧ Le W W1 ∧ rwCells W1 W.next = some [.int .i64 0, .int .i64 0, .int .i64 0, .int .i64 0] := ⟨_, al92 W, AW.add_next _ _, (Le.refl W).add _, rwCells_new⟩
theorem rw_kill {W : AW} {b c : Nat} (h : b ≠ c) : rwCells (W.kill b) c = rwCells W c := by unfold rwCells; rw [W.get_kill_ne h]
theorem ld4 {b : Nat} {x y z u : Value} {W : AW} (h : rwCells W b = some [x, y, z, u]) : ldA 4 (.pointer (some ⟨b, 0, none⟩)) W = some (.agg #[x, y, z, u], W) := ldA_all (rwCells_cellsAt h) rfl
theorem stV4i {b : Nat} {a c d e : Int} {x y z u : Value} {W : AW} (h : rwCells W b = some [x, y, z, u]) : stV 4 (.pointer (some ⟨b, 0, none⟩)) (.agg #[.int .i64 a, .int .i64 c, .int .i64 d, .int .i64 e]) W = some (undef, W.put b (.cells [.int .i64 a, .int .i64 c, .int .i64 d, .int .i64 e])) := stV4 h rfl rfl rfl rfl
/-- is a seat in a row -/
def inRow (seat : Int) (r : RowT) : Bool := decide (r.first ≤ seat) && decide (seat < r.first + r.many)
abbrev zs : List Value := [.int .i64 0, .int .i64 0, .int .i64 0, .int .i64 0]
abbrev row0 : RowT := ⟨0, 0, 0, 0⟩
def findE (v : Ven) (seat : Int) : RowT × Int := if (venE v).2 = 0 then (match (rowsL v.secs).find? (inRow seat) with
  | some r => (r, 0)
  | none => (row0, 4)) else (row0, (venE v).2)
theorem find_ok {v : Ven} {sv : Value} {W : AW} {seat : Int} (hs : SecsC W sv v.secs) (hv : v.secs.length < 1000) : omS (.func (.func 40) #[] #[]) [venV v sv, .int .i64 seat] W = some (.tuple #[rowV (findE v seat).1, .int .i64 (findE v seat).2], W) := by
  refine om_drop rfl ?_ venue_find_om
  unfold venue_find findE
  obtain ⟨W1, hB, hle, hn, c4, c0, c3⟩ := venBox v sv W
  obtain ⟨W2, b2, n2, l2, r2⟩ := boxI seat W1
  obtain ⟨W3, b3, n3, l3, r3⟩ := new92 W2
  obtain ⟨W4, b4, n4, l4, r4⟩ := new28 W3
  have r34 : rwCells W4 W2.next = some [.int .i64 0, .int .i64 0, .int .i64 0, .int .i64 0] := by rw [l4.rwCells (by omega)]; exact r3
  have l24 := l3.trans l4
  have l02 := hle.trans l2
  have hsn := hle.next
  simp only [SX, hB, b2, b3, b4, c4 _ (l2.trans l24), venCheck_ok (hs.mono (l02.trans l24)) hv]
  by_cases he : (venE v).2 = 0
  case neg =>
    have p1 : rwCells (W4.put W2.next (.cells (zs))) W3.next = some [.int .i64 0] := by rw [rwCells_put_ne _ (by omega)]; exact r4
    have p2 : ∀ x, rwCells ((W4.put W2.next (.cells (zs))).put W3.next x) W2.next = some (zs) := fun x => by rw [rwCells_put_ne _ (by omega)]; exact rwCells_put _
    simp only [SX, he, if_false, bd92z, stV4i r34, stI p1, oRes_L2, oL92, oL28, ld4 (p2 _), ldI (rwCells_put _), Option.bind_some, Ok_some]
    exact ⟨rfl, ((l02.trans l24).put (by omega) _).put (by omega) _⟩
  obtain ⟨hg, -⟩ := venE_good he
  obtain ⟨W5, q1, q2, q3, q4⟩ := rows_fn (v := v) (sv := sv) W4
  have hn5 := q2.next
  simp only [SX, decide_eq_true he, c4 _ (l2.trans l24), q1, if_pos he]
  refine Ok_rows (hs.mono l02).1 hg (q4 _ ((Le.refl _).add _)) rfl (fun pre W' => Le W2 W' ∧ rwCells W' W2.next = some (zs) ∧ rwCells W' W3.next = some [.int .i64 0] ∧ ∀ r ∈ pre, inRow seat r = false)
    (fun x W' => x = .ret ∧ Le W2 W' ∧ ∃ r, (rowsL v.secs).find? (inRow seat) = some r ∧ rwCells W' W2.next = some (rowC r) ∧ rwCells W' W3.next = some [.int .i64 0])
    ⟨(l24.trans q2).add _, by rw [rwCells_add _ (by omega), q2.rwCells (by omega)]; exact r34, by rw [rwCells_add _ (by omega), q2.rwCells (by omega)]; exact r4, by simp⟩ (fun _ _ h => h.1)
    (fun pre W' cs h hl => ⟨h.1.add _, by rw [rwCells_add _ (by omega)]; exact h.2.1, by rw [rwCells_add _ (by omega)]; exact h.2.2.1, h.2.2.2⟩)
    (fun pre W' o h => ⟨h.1.put (by omega) _, by rw [rwCells_put_ne _ (by omega)]; exact h.2.1, by rw [rwCells_put_ne _ (by omega)]; exact h.2.2.1, h.2.2.2⟩)
    (fun x W' o ⟨h1, h2, r, h3, h4, h5⟩ => ⟨h1, h2.put (by omega) _, r, h3, by rw [rwCells_put_ne _ (by omega)]; exact h4, by rw [rwCells_put_ne _ (by omega)]; exact h5⟩) 8 ?_ ?_ ?_
  · intro r W' R' hR
    have r17 : R' 20 = rowV r := by rw [hR]; rfl
    rw [venue_find_Y1a_eq]
    unfold venue_find_Y1a
    simp only [SX, al92, r17, stV4i rwCells_new, put_add_cells]
  · intro pre r W' b R' hR hpre ⟨h1, h2, h3, h4⟩ hl hb hb1 hb2
    have f3 : R' 3 = .pointer (some ⟨W1.next, 0, none⟩) := by rw [hR]; rfl
    have f4 : R' 4 = .pointer (some ⟨W2.next, 0, none⟩) := by rw [hR]; rfl
    have f5 : R' 5 = .pointer (some ⟨W3.next, 0, none⟩) := by rw [hR]; rfl
    have f8 : R' 8 = .pointer (some ⟨b, 0, none⟩) := by rw [hR]; rfl
    clear hR
    rw [venue_find_Y1b_eq]
    unfold venue_find_Y1b
    obtain ⟨k1, k2, k3, k4, k5, k6, k7⟩ := row_next hg hpre
    have ea := oBin_add (P := Tryz.prog) (W := W') (t := 3) (c := false) (d := false) (a := r.first) (b := r.many) (by omega) (by omega)
    have hse : rwCells W' W1.next = some [.int .i64 seat] := by rw [h1.rwCells (by omega)]; exact r2
    simp only [SX, f3, f8, ldI hse, ldR (o := 2) hb rfl, Nat.zero_add]
    have hin : inRow seat r = (decide (r.first ≤ seat) && decide (seat < r.first + r.many)) := rfl
    by_cases t1 : r.first ≤ seat
    case neg =>
      rw [decide_eq_false t1, Bool.false_and] at hin
      simp only [SX, t1, Ok_some]
      exact ⟨Nat.le_refl _, trivial, .inl ⟨trivial, h1, h2, h3, snoc_all h4 hin⟩⟩
    simp only [SX, decide_eq_true t1, f3, f8, ldI hse, ldR (o := 2) hb rfl, ldR (o := 3) hb rfl, ea, Nat.zero_add]
    by_cases t2 : seat < r.first + r.many
    case neg =>
      rw [decide_eq_false t2, Bool.and_false] at hin
      simp only [SX, t2, Ok_some]
      exact ⟨Nat.le_refl _, trivial, .inl ⟨trivial, h1, h2, h3, snoc_all h4 hin⟩⟩
    rw [decide_eq_true t1, decide_eq_true t2] at hin
    have p1 : rwCells (W'.put W2.next (.cells (rowC r))) W3.next = some [.int .i64 0] := by rw [rwCells_put_ne _ (by omega)]; exact h3
    simp only [SX, decide_eq_true t2, f4, f5, f8, ld4 hb, stV4i h2, stI p1, Ok_some]
    exact ⟨Nat.le_refl _, by rw [AW.get_put_ne _ _ (by omega), AW.get_put_ne _ _ (by omega)], .inr ⟨by simp, trivial, (h1.put (by omega) _).put (by omega) _, r, find_pre hpre h4 hin, by rw [rwCells_put_ne _ (by omega)]; exact rwCells_put _, rwCells_put _⟩⟩
  · rintro x W6 (⟨rfl, h1, h2, h3, h4⟩ | ⟨_, rfl, h1, r, h2, h3, h4⟩)
    · have k2 : rwCells (W6.kill W5.next) W2.next = some (zs) := by rw [rw_kill (by omega)]; exact h2
      have k3 : rwCells ((W6.kill W5.next).put W2.next (.cells (zs))) W3.next = some [.int .i64 0] := by rw [rwCells_put_ne _ (by omega), rw_kill (by omega)]; exact h3
      have p2 : ∀ x, rwCells (((W6.kill W5.next).put W2.next (.cells (zs))).put W3.next x) W2.next = some (zs) := fun x => by rw [rwCells_put_ne _ (by omega)]; exact rwCells_put _
      simp only [SX, bd92z, stV4i k2, stI k3, oRes_L2, oL92, oL28, ld4 (p2 _), ldI (rwCells_put _), Option.bind_some, find_no h4, Ok_some]
      exact ⟨rfl, (((l02.trans h1).kill (by omega)).put (by omega) _).put (by omega) _⟩
    · have k2 : rwCells (W6.kill W5.next) W2.next = some (rowC r) := by rw [rw_kill (by omega)]; exact h3
      have k3 : rwCells (W6.kill W5.next) W3.next = some [.int .i64 0] := by rw [rw_kill (by omega)]; exact h4
      simp only [SX, oRes_L2, oL92, oL28, ld4 k2, ldI k3, Option.bind_some, h2, Ok_some]
      exact ⟨trivial, (l02.trans h1).kill (by omega)⟩
end Go.Proofs.YtfcfglpkgcheiaaGreatDoor
/- The seats of a section, and of a row: the code's answers. -/
namespace Go.Proofs.YtfcfglpkgcheiaaGreatDoor
open Go Go.Eng
set_option linter.unusedVariables false
set_option linter.unusedSimpArgs false
set_option maxRecDepth 100000
/-- is a row in a section -/
def isSec (sec : Int) (r : RowT) : Bool := decide ((r.sec : Int) = sec)
def fstS : List RowT → Int
  | [] => 0
  | r :: _ => r.first
def ofE (v : Ven) (sec : Int) : Int × Int × Int := if (venE v).2 = 0 then
  if manyS ((rowsL v.secs).filter (isSec sec)) = 0 then (0, 0, 4) else (fstS ((rowsL v.secs).filter (isSec sec)), manyS ((rowsL v.secs).filter (isSec sec)), 0)
  else (0, 0, (venE v).2)
theorem filter_yes {α : Type} {p : α → Bool} {pre : List α} {r : α} (h : p r = true) : (pre ++ [r]).filter p = pre.filter p ++ [r] := by simp [List.filter_append, h]
theorem filter_not {α : Type} {p : α → Bool} {pre : List α} {r : α} (h : p r = false) : (pre ++ [r]).filter p = pre.filter p := by simp [List.filter_append, h]
theorem fstS_snoc {l : List RowT} {r : RowT} (h : l ≠ []) : fstS (l ++ [r]) = fstS l := by
  cases l with
  | nil => exact absurd rfl h
  | cons => rfl
theorem of_ok {v : Ven} {sv : Value} {W : AW} {sec : Int} (hs : SecsC W sv v.secs) (hv : v.secs.length < 1000) : omS (.func (.func 16) #[] #[]) [venV v sv, .int .i64 sec] W = some (.tuple #[.int .i64 (ofE v sec).1, .int .i64 (ofE v sec).2.1, .int .i64 (ofE v sec).2.2], W) := by
  refine om_drop rfl ?_ venue_Of_om
  unfold venue_Of ofE
  obtain ⟨W1, hB, hle, hn, c4, c0, c3⟩ := venBox v sv W
  obtain ⟨W2, b2, n2, l2, r2⟩ := boxI sec W1
  obtain ⟨W3, b3, n3, l3, r3⟩ := new3 W2
  obtain ⟨W4, b4, n4, l4, r4⟩ := new3 W3
  have r34 : rwCells W4 W2.next = some [.int .i64 0] := by rw [l4.rwCells (by omega)]; exact r3
  have l24 := l3.trans l4
  have l02 := hle.trans l2
  have hsn := hle.next
  have e2 : ∀ (W' : AW) a b, rwCells ((W'.put W2.next (.cells a)).put W3.next b) W2.next = some a := fun W' a b => by rw [rwCells_put_ne _ (by omega)]; exact rwCells_put _
  have e3 : ∀ (W' : AW) a, rwCells (W'.put W2.next a) W3.next = rwCells W' W3.next := fun W' a => rwCells_put_ne _ (by omega)
  simp only [SX, hB, b2, b3, b4, c4 _ (l2.trans l24), venCheck_ok (hs.mono (l02.trans l24)) hv]
  by_cases he : (venE v).2 = 0
  case neg =>
    simp only [SX, he, if_false, stI r34, stI ((e3 _ _).trans r4), oRes_L2n, oL3, ldI (e2 _ _ _), ldI (rwCells_put _), Option.bind_some, Ok_some]
    exact ⟨trivial, ((l02.trans l24).put (by omega) _).put (by omega) _⟩
  obtain ⟨hg, -⟩ := venE_good he
  obtain ⟨W5, q1, q2, q3, q4⟩ := rows_fn (v := v) (sv := sv) W4
  have hn5 := q2.next
  simp only [SX, decide_eq_true he, c4 _ (l2.trans l24), q1, if_pos he]
  refine Ok_rows (hs.mono l02).1 hg (q4 _ ((Le.refl _).add _)) rfl (fun pre W' => Le W2 W' ∧ rwCells W' W2.next = some [.int .i64 (fstS (pre.filter (isSec sec)))] ∧ rwCells W' W3.next = some [.int .i64 (manyS (pre.filter (isSec sec)))])
    (fun x W' => False)
    ⟨(l24.trans q2).add _, by rw [rwCells_add _ (by omega), q2.rwCells (by omega)]; exact r34, by rw [rwCells_add _ (by omega), q2.rwCells (by omega)]; exact r4⟩ (fun _ _ h => h.1)
    (fun pre W' cs h hl => ⟨h.1.add _, by rw [rwCells_add _ (by omega)]; exact h.2.1, by rw [rwCells_add _ (by omega)]; exact h.2.2⟩)
    (fun pre W' o h => ⟨h.1.put (by omega) _, by rw [rwCells_put_ne _ (by omega)]; exact h.2.1, by rw [rwCells_put_ne _ (by omega)]; exact h.2.2⟩)
    (fun x W' o h => h) 9 ?_ ?_ ?_
  · intro r W' R' hR
    have r17 : R' 20 = rowV r := by rw [hR]; rfl
    rw [venue_Of_Y1a_eq]
    unfold venue_Of_Y1a
    simp only [SX, al92, r17, stV4i rwCells_new, put_add_cells]
  · intro pre r W' b R' hR hpre ⟨h1, h2, h3⟩ hl hb hb1 hb2
    have f3 : R' 3 = .pointer (some ⟨W1.next, 0, none⟩) := by rw [hR]; rfl
    have f4 : R' 4 = .pointer (some ⟨W2.next, 0, none⟩) := by rw [hR]; rfl
    have f5 : R' 5 = .pointer (some ⟨W3.next, 0, none⟩) := by rw [hR]; rfl
    have f8 : R' 9 = .pointer (some ⟨b, 0, none⟩) := by rw [hR]; rfl
    clear hR
    rw [venue_Of_Y1b_eq]
    unfold venue_Of_Y1b
    obtain ⟨k1, k2, k3, k4, k5, k6, k7⟩ := row_next hg hpre
    have hse : rwCells W' W1.next = some [.int .i64 sec] := by rw [h1.rwCells (by omega)]; exact r2
    have hmp : ∀ x ∈ pre, 1 ≤ x.many := fun x hx => ((rows_mem (((List.prefix_append pre [r]).trans hpre).subset hx)).many hg).1
    have hms := manyS_pos (l := pre.filter (isSec sec)) (fun x hx => hmp x (List.mem_filter.1 hx).1)
    have hms2 : manyS (pre.filter (isSec sec)) ≤ manyS pre := by
      have : ∀ l : List RowT, (∀ x ∈ l, 1 ≤ x.many) → manyS (l.filter (isSec sec)) ≤ manyS l := by
        intro l
        induction l with
        | nil => intro _; exact Int.le_refl _
        | cons x l ih =>
          intro h
          have := ih fun y hy => h y (by simp [hy])
          have := h x (by simp)
          rw [List.filter_cons]
          split
          · rw [manyS_cons, manyS_cons]; omega
          · rw [manyS_cons]; omega
      exact this _ hmp
    have ea : ∀ W', oBin Tryz.prog .add 3 false false (.int .i64 (manyS (pre.filter (isSec sec)))) (.int .i64 r.many) W' = some (.int .i64 (manyS (pre.filter (isSec sec)) + r.many), W') := fun W' => oBin_add (by omega) (by omega)
    simp only [SX, f3, f8, ldI hse, ldR (o := 0) hb rfl, Nat.zero_add]
    by_cases t1 : (r.sec : Int) = sec
    case neg =>
      have hin : isSec sec r = false := decide_eq_false t1
      simp only [SX, t1, Ok_some]
      exact ⟨Nat.le_refl _, trivial, .inl ⟨trivial, h1, by rw [filter_not hin]; exact h2, by rw [filter_not hin]; exact h3⟩⟩
    have hin : isSec sec r = true := decide_eq_true t1
    have hms3 : manyS (pre.filter (isSec sec) ++ [r]) = manyS (pre.filter (isSec sec)) + r.many := by rw [manyS_append, manyS_cons, manyS_nil, Int.add_zero]
    simp only [SX, decide_eq_true t1, f5, ldI h3]
    by_cases t2 : manyS (pre.filter (isSec sec)) = 0
    · have hnil : pre.filter (isSec sec) = [] := by
        rw [t2] at hms
        exact List.length_eq_zero_iff.1 (by omega)
      have hb' : rwCells (W'.put W2.next (.cells [.int .i64 r.first])) b = some (rowC r) := by rw [rwCells_put_ne _ (by omega)]; exact hb
      simp only [SX, decide_eq_true t2, f4, f5, f8, ldR (o := 2) hb rfl, ldR (o := 3) hb' rfl, Nat.zero_add, stI h2, ldI ((e3 _ _).trans h3), ea, stI ((e3 _ _).trans h3), Ok_some]
      exact ⟨Nat.le_refl _, by rw [AW.get_put_ne _ _ (by omega), AW.get_put_ne _ _ (by omega)], .inl ⟨trivial, (h1.put (by omega) _).put (by omega) _, by rw [e2, filter_yes hin, hnil]; rfl, by rw [rwCells_put, filter_yes hin, hms3]⟩⟩
    · have hne : pre.filter (isSec sec) ≠ [] := fun e => t2 (by rw [e]; rfl)
      simp only [SX, t2, f4, f5, f8, ldR (o := 3) hb rfl, Nat.zero_add, ldI h3, ea, stI h3, Ok_some]
      exact ⟨Nat.le_refl _, by rw [AW.get_put_ne _ _ (by omega)], .inl ⟨trivial, h1.put (by omega) _, by rw [rwCells_put_ne _ (by omega), filter_yes hin, fstS_snoc hne]; exact h2, by rw [rwCells_put, filter_yes hin, hms3]⟩⟩
  · rintro x W6 (⟨rfl, h1, h2, h3⟩ | ⟨_, h⟩)
    case inr => exact h.elim
    have k2 : rwCells (W6.kill W5.next) W2.next = some [.int .i64 (fstS ((rowsL v.secs).filter (isSec sec)))] := by rw [rw_kill (by omega)]; exact h2
    have k3 : rwCells (W6.kill W5.next) W3.next = some [.int .i64 (manyS ((rowsL v.secs).filter (isSec sec)))] := by rw [rw_kill (by omega)]; exact h3
    simp only [SX, ldI k3]
    by_cases t2 : manyS ((rowsL v.secs).filter (isSec sec)) = 0
    · simp only [SX, decide_eq_true t2, if_pos t2, stI k2, stI ((e3 _ _).trans k3), oRes_L2n, oL3, ldI (e2 _ _ _), ldI (rwCells_put _), Option.bind_some, Ok_some]
      exact ⟨trivial, (((l02.trans h1).kill (by omega)).put (by omega) _).put (by omega) _⟩
    · have hag : agV true (some (.int .i64 (manyS ((rowsL v.secs).filter (isSec sec))), (W6.kill W5.next).put W2.next (.cells [.int .i64 (fstS ((rowsL v.secs).filter (isSec sec)))]))) (.int .i64 (manyS ((rowsL v.secs).filter (isSec sec)))) = true := agV_true rfl (vsame_int _ _)
      simp only [SX, t2, if_neg t2, ldI k2, ldI k3, stI k2, ldI ((e3 _ _).trans k3), hag, Bool.and_self, stI ((e3 _ _).trans k3), oRes_L2n, oL3, ldI (e2 _ _ _), ldI (rwCells_put _), Option.bind_some, Ok_some]
      exact ⟨by simp only [if_false], (((l02.trans h1).kill (by omega)).put (by omega) _).put (by omega) _⟩
def isRow (sec row : Int) (r : RowT) : Bool := decide ((r.sec : Int) = sec) && decide ((r.row : Int) = row)
def rowE (v : Ven) (sec row : Int) : Int × Int × Int := if (venE v).2 = 0 then (match (rowsL v.secs).find? (isRow sec row) with
  | some r => (r.first, r.many, 0)
  | none => (0, 0, 4)) else (0, 0, (venE v).2)
end Go.Proofs.YtfcfglpkgcheiaaGreatDoor
/- Place, Seat, Shard, Lock of a venue: the code's answers. -/
namespace Go.Proofs.YtfcfglpkgcheiaaGreatDoor
open Go Go.Eng
set_option linter.unusedVariables false
set_option linter.unusedSimpArgs false
set_option maxRecDepth 100000
theorem al65 (W : AW) : oAlloc Tryz.prog 34 W = some (.pointer (some ⟨W.next, 0, none⟩), W.add (.cells [.int .i64 0, .int .i64 0, .int .i64 0])) := Eq.trans (by kernel_rfl) rfl
theorem oL65 (x : Value) (W : AW) : oLoad Tryz.prog 34 x W = ldA 3 x W := by kernel_rfl
theorem bd65z (W : AW) : oBuild Tryz.prog 34 [] W = some (.agg #[.int .i64 0, .int .i64 0, .int .i64 0], W) := Eq.trans (by kernel_rfl) rfl
theorem new65 (W : AW) : ∃ W1, oAlloc Tryz.prog 34 W = some (.pointer (some ⟨W.next, 0, none⟩), W1) ∧ W1.next = W.next + 1 ∧ Le W W1 ∧ rwCells W1 W.next = some [.int .i64 0, .int .i64 0, .int .i64 0] := ⟨_, al65 W, AW.add_next _ _, (Le.refl W).add _, rwCells_new⟩
theorem ld3 {b : Nat} {x y z : Value} {W : AW} (h : rwCells W b = some [x, y, z]) : ldA 3 (.pointer (some ⟨b, 0, none⟩)) W = some (.agg #[x, y, z], W) := ldA_all (rwCells_cellsAt h) rfl
theorem stV3i {b : Nat} {a c d : Int} {x y z : Value} {W : AW} (h : rwCells W b = some [x, y, z]) : stV 3 (.pointer (some ⟨b, 0, none⟩)) (.agg #[.int .i64 a, .int .i64 c, .int .i64 d]) W = some (undef, W.put b (.cells [.int .i64 a, .int .i64 c, .int .i64 d])) := stV3 h rfl rfl rfl
theorem mem_pre {α : Type} {l : List α} {r : α} (h : r ∈ l) : ∃ pre, pre ++ [r] <+: l := by
  obtain ⟨a, b, rfl⟩ := List.append_of_mem h
  exact ⟨a, ⟨b, by simp⟩⟩
/-- facts of a row -/
theorem row_mem {l : List Sec} (hg : Good l) {r : RowT} (h : r ∈ rowsL l) : RowOf l r ∧ 0 ≤ r.first ∧ r.first + r.many ≤ 8192 ∧ 1 ≤ r.many ∧ r.many ≤ 64 ∧ r.sec < 8 ∧ r.row < 16 := by
  obtain ⟨pre, hp⟩ := mem_pre h
  obtain ⟨k1, k2, k3, k4, k5, k6, k7⟩ := row_next hg hp
  have := k1.many hg
  exact ⟨k1, by omega, by omega, k5, k6, by omega, by omega⟩
theorem findE_zero {v : Ven} {seat : Int} (h : (findE v seat).2 = 0) : (venE v).2 = 0 ∧ (findE v seat).1 ∈ rowsL v.secs ∧ (rowsL v.secs).find? (inRow seat) = some (findE v seat).1 ∧ (findE v seat).1.first ≤ seat ∧ seat < (findE v seat).1.first + (findE v seat).1.many := by
  unfold findE at h ⊢
  by_cases he : (venE v).2 = 0
  · rw [if_pos he] at h ⊢
    cases hf : (rowsL v.secs).find? (inRow seat) with
    | none => rw [hf] at h; exact absurd h (by decide)
    | some r =>
      have hi := List.find?_some hf
      unfold inRow at hi
      simp only [Bool.and_eq_true, decide_eq_true_eq] at hi
      exact ⟨he, List.mem_of_find?_eq_some hf, rfl, hi.1, hi.2⟩
  · rw [if_neg he] at h
    exact absurd h he
/-- a place, and whether there is one -/
def placeE (v : Ven) (seat : Int) : Plc × Int := if (findE v seat).2 = 0 then (((findE v seat).1.sec, (findE v seat).1.row, (seat - (findE v seat).1.first).toNat), 0) else ((0, 0, 0), (findE v seat).2)
abbrev plcV (p : Plc) : Value := .agg #[.int .i64 (p.1 : Int), .int .i64 (p.2.1 : Int), .int .i64 (p.2.2 : Int)]
def shardE (v : Ven) (seat : Int) : Int × Int := if (findE v seat).2 = 0 then (seat % v.sh, 0) else (0, (findE v seat).2)
theorem headBad_sh {v : Ven} (h : headBad v = false) : 1 ≤ v.sh ∧ v.sh ≤ 16 := by
  unfold headBad outB at h
  simp only [Bool.or_eq_false_iff, decide_eq_false_iff_not] at h
  omega
theorem venE_sh {v : Ven} (h : (venE v).2 = 0) : 1 ≤ v.sh ∧ v.sh ≤ 16 := headBad_sh (venE_good h).2.1
theorem shard_ok {v : Ven} {sv : Value} {W : AW} {seat : Int} (hs : SecsC W sv v.secs) (hv : v.secs.length < 1000) : omS (.func (.func 22) #[] #[]) [venV v sv, .int .i64 seat] W = some (.tuple #[.int .i64 (shardE v seat).1, .int .i64 (shardE v seat).2], W) := by
  refine om_drop rfl ?_ venue_Shard_om
  unfold venue_Shard shardE
  obtain ⟨W1, hB, hle, hn, c4, c0, c3⟩ := venBox v sv W
  obtain ⟨W3, b3, n3, l3, r3⟩ := new92 W1
  have hsn := hle.next
  simp only [SX, hB, b3, c4 _ (.refl _), find_ok (hs.mono hle) hv, stV4i r3]
  by_cases he : (findE v seat).2 = 0
  case neg =>
    simp only [SX, he, if_false, Ok_some]
    exact ⟨trivial, (hle.trans l3).put (by omega) _⟩
  obtain ⟨h1, h2, h3, h4, h5⟩ := findE_zero he
  obtain ⟨k1, k2, k3, k4, k5, -, -⟩ := row_mem (venE_good h1).1 h2
  have hsh := venE_sh h1
  have ea : ∀ W', oBin Tryz.prog .rem 3 false false (.int .i64 seat) (.int .i64 v.sh) W' = some (.int .i64 (seat % v.sh), W') := fun W' => by
    rw [oBin_rem (by omega), Int.tmod_eq_emod_of_nonneg (by omega)]
  simp only [SX, decide_eq_true he, if_pos he, Nat.zero_add, c0 _ (l3.put (Nat.le_refl _) _), ea, Ok_some]
  exact ⟨trivial, (hle.trans l3).put (by omega) _⟩
def lockE (v : Ven) (sec : Int) : Int × Int := if (ofE v sec).2.2 = 0 then (v.sh + sec, 0) else (0, (ofE v sec).2.2)
theorem ofE_zero {v : Ven} {sec : Int} (h : (ofE v sec).2.2 = 0) : (venE v).2 = 0 ∧ 0 ≤ sec ∧ sec < v.secs.length ∧ ∃ r l, (rowsL v.secs).filter (isSec sec) = r :: l ∧ (ofE v sec) = (r.first, manyS ((rowsL v.secs).filter (isSec sec)), 0) := by
  unfold ofE at h ⊢
  by_cases he : (venE v).2 = 0
  · rw [if_pos he] at h ⊢
    by_cases h2 : manyS ((rowsL v.secs).filter (isSec sec)) = 0
    · rw [if_pos h2] at h; exact absurd h (by decide)
    · rw [if_neg h2]
      cases hf : (rowsL v.secs).filter (isSec sec) with
      | nil => rw [hf] at h2; exact absurd rfl h2
      | cons r l =>
        have hr : r ∈ (rowsL v.secs).filter (isSec sec) := by rw [hf]; simp
        obtain ⟨m1, m2⟩ := List.mem_filter.1 hr
        obtain ⟨hi, -, -⟩ := rows_mem m1
        have : (r.sec : Int) = sec := of_decide_eq_true m2
        exact ⟨he, by omega, by omega, r, l, rfl, rfl⟩
  · rw [if_neg he] at h
    exact absurd h he
theorem lock_ok {v : Ven} {sv : Value} {W : AW} {sec : Int} (hs : SecsC W sv v.secs) (hv : v.secs.length < 1000) : omS (.func (.func 26) #[] #[]) [venV v sv, .int .i64 sec] W = some (.tuple #[.int .i64 (lockE v sec).1, .int .i64 (lockE v sec).2], W) := by
  refine om_drop rfl ?_ venue_Lock_om
  unfold venue_Lock lockE
  obtain ⟨W1, hB, hle, hn, c4, c0, c3⟩ := venBox v sv W
  simp only [SX, hB, c4 _ (.refl _), of_ok (hs.mono hle) hv]
  by_cases he : (ofE v sec).2.2 = 0
  case neg =>
    simp only [SX, he, if_false, Ok_some]
    exact ⟨trivial, hle⟩
  obtain ⟨h1, h2, h3, -⟩ := ofE_zero he
  have hsh := venE_sh h1
  have ea : ∀ W', oBin Tryz.prog .add 3 false false (.int .i64 v.sh) (.int .i64 sec) W' = some (.int .i64 (v.sh + sec), W') := fun W' => oBin_add (by omega) (by omega)
  simp only [SX, decide_eq_true he, if_pos he, Nat.zero_add, c0 _ (.refl _), ea, Ok_some]
  exact ⟨trivial, hle⟩
def seatE (v : Ven) (sec row k : Int) : Int × Int := if (rowE v sec row).2.2 = 0 then (if outB k 0 ((rowE v sec row).2.1 - 1) then (0, 4) else ((rowE v sec row).1 + k, 0)) else (0, (rowE v sec row).2.2)
end Go.Proofs.YtfcfglpkgcheiaaGreatDoor
/- The shards of a section: the code's answer. -/
namespace Go.Proofs.YtfcfglpkgcheiaaGreatDoor
open Go Go.Eng
set_option linter.unusedVariables false
set_option linter.unusedSimpArgs false
set_option maxRecDepth 100000
theorem min_ok (a b : Int) (W : AW) : oBuiltin Tryz.prog .min #[3, 3] 3 #[false, false] [.int .i64 a, .int .i64 b] W = some (.int .i64 (min a b), W) := by
  have e : oBuiltin Tryz.prog .min #[3, 3] 3 #[false, false] [.int .i64 a, .int .i64 b] W = (pureS Tryz.prog ([Value.int .i64 a, .int .i64 b].all plain) (builtin .min #[3, 3] 3 #[false, false] #[.int .i64 a, .int .i64 b])).map fun v => (v, W) := by
    unfold oBuiltin
    rfl
  rw [e]
  have e2 : builtin .min #[3, 3] 3 #[false, false] #[.int .i64 a, .int .i64 b] = (do pure (.value (← Builtin.min_ #[3, 3] 3 #[.int .i64 a, .int .i64 b]))) := rfl
  rw [e2]
  refine pureV ?_ rfl _ rfl
  unfold Builtin.min_
  simp only [List.foldlM_cons, List.foldlM_nil, pureRun_bind, Builtin.min2, pureRun_pure, Option.bind_some]
  congr 2
  by_cases h : b < a
  · rw [if_pos h]; omega
  · rw [if_neg h]; omega
theorem bs38 (a : Int) (W : AW) : oBuildSlice Tryz.prog 26 1 [(0, .int .i64 a)] W = some (.slice (some ⟨W.next, 0, none⟩) 1 1, W.add (.cells [.int .i64 a])) := Eq.trans (by kernel_rfl) rfl
theorem ap38 : appOk Tryz.prog #[26, 26] 1 8 = true := by kernel_rfl
/-- first, first + 1, .., each modulo sh -/
def covL (sh first : Int) (n : Nat) : List Int := (List.range n).map fun (i : Nat) => (first + (i : Int)) % sh
theorem covL_succ (sh first : Int) (n : Nat) : covL sh first (n + 1) = covL sh first n ++ [(first + (n : Int)) % sh] := by simp [covL, List.range_succ]
theorem covL_len (sh first : Int) (n : Nat) : (covL sh first n).length = n := by simp [covL]
def coverE (v : Ven) (sec : Int) : List Int × Int := if (ofE v sec).2.2 = 0 then (sortL (covL v.sh (ofE v sec).1 (min (ofE v sec).2.1 v.sh).toNat), 0) else ([], (ofE v sec).2.2)
theorem ofE_bound {v : Ven} {sec : Int} (h : (ofE v sec).2.2 = 0) : 0 ≤ (ofE v sec).1 ∧ (ofE v sec).1 ≤ 8192 ∧ 1 ≤ (ofE v sec).2.1 ∧ (ofE v sec).2.1 ≤ 8192 := by
  obtain ⟨h1, h2, h3, r, l, h4, h5⟩ := ofE_zero h
  have hg := (venE_good h1).1
  have hr : r ∈ (rowsL v.secs).filter (isSec sec) := by rw [h4]; simp
  obtain ⟨k1, k2, k3, k4, k5, -, -⟩ := row_mem hg (List.mem_filter.1 hr).1
  have hm : ∀ x ∈ rowsL v.secs, 1 ≤ x.many := fun x hx => ((rows_mem hx).many hg).1
  have hms2 : ∀ l : List RowT, (∀ x ∈ l, 1 ≤ x.many) → manyS (l.filter (isSec sec)) ≤ manyS l := by
    intro l
    induction l with
    | nil => intro _; exact Int.le_refl _
    | cons x l ih =>
      intro h
      have := ih fun y hy => h y (by simp [hy])
      have := h x (by simp)
      rw [List.filter_cons]
      split
      · rw [manyS_cons, manyS_cons]; omega
      · rw [manyS_cons]; omega
  have hle := hms2 _ hm
  rw [rows_sum] at hle
  have := total_max hg
  have hpos := manyS_pos (l := (rowsL v.secs).filter (isSec sec)) (fun x hx => hm x (List.mem_filter.1 hx).1)
  rw [h4, List.length_cons] at hpos
  rw [← h4] at hpos
  rw [h5]
  exact ⟨k2, by omega, by simp only; omega, by simp only; omega⟩
theorem cover_ok {v : Ven} {sv : Value} {W : AW} {sec : Int} (hs : SecsC W sv v.secs) (hv : v.secs.length < 1000) : ∃ u W2, omS (.func (.func 24) #[] #[]) [venV v sv, .int .i64 sec] W = some (.tuple #[u, .int .i64 (coverE v sec).2], W2) ∧ Le W W2 ∧ Ints W2 u (coverE v sec).1 := by
  refine om_row2 ?_ venue_Cover_om
  unfold venue_Cover coverE
  obtain ⟨W1, hB, hle, hn, c4, c0, c3⟩ := venBox v sv W
  have hsn := hle.next
  simp only [SX, hB, c4 _ (.refl _), of_ok (hs.mono hle) hv]
  by_cases he : (ofE v sec).2.2 = 0
  case neg =>
    simp only [SX, he, if_false, Ok_some]
    exact ⟨_, rfl, hle, Row.nil⟩
  obtain ⟨h1, h2, h3, -⟩ := ofE_zero he
  obtain ⟨b1, b2, b3, b4⟩ := ofE_bound he
  have hsh := venE_sh h1
  generalize hfm : ofE v sec = fm at *
  obtain ⟨fi, ma, er⟩ := fm
  simp only at he b1 b2 b3 b4 ⊢
  subst he
  simp only [SX, if_true, decide_true, Nat.zero_add, c0 _ (.refl _), min_ok]
  obtain ⟨n, hn2⟩ : ∃ n : Nat, (n : Int) = min ma v.sh := ⟨(min ma v.sh).toNat, by omega⟩
  have hn3 : (min ma v.sh).toNat = n := by omega
  rw [← hn2]
  refine Ok_loop n (by omega) (fun i R W' => Le W1 W' ∧ R 2 = .pointer (some ⟨W.next, 0, none⟩) ∧ R 6 = .int .i64 fi ∧ R 24 = .int .i64 (n : Int) ∧ R 25 = .int .i64 (i : Int) ∧ ∃ u, R 9 = u ∧ Lst W1.next W' 1 intC u (covL v.sh fi i))
    (fun r => Le W1 r.2.2 ∧ r.1 = .exit 0 ∧ ∃ u, r.2.1 9 = u ∧ Lst W1.next r.2.2 1 intC u (covL v.sh fi n)) ⟨.refl _, rfl, rfl, rfl, rfl, _, rfl, .nil _ _ _ _⟩ ?_ ?_ ?_
  · rintro i R W' hi ⟨hl, f2, f6, f24, f25, u, f9, hL⟩
    unfold venue_Cover_L1
    have e1 : ((i : Int) < (n : Int)) := by omega
    have e2 : (i : Int) + 1 = ((i + 1 : Nat) : Int) := by omega
    have ea : ∀ W', oBin Tryz.prog .add 3 false false (.int .i64 fi) (.int .i64 (i : Int)) W' = some (.int .i64 (fi + (i : Int)), W') := fun W' => oBin_add (by omega) (by omega)
    have er : ∀ W', oBin Tryz.prog .rem 3 false false (.int .i64 (fi + (i : Int))) (.int .i64 v.sh) W' = some (.int .i64 ((fi + (i : Int)) % v.sh), W') := fun W' => by
      rw [oBin_rem (by omega), Int.tmod_eq_emod_of_nonneg (by omega)]
    have eb : ∀ W', oBin Tryz.prog .add 3 false true (.int .i64 (i : Int)) (.int .i64 1) W' = some (.int .i64 ((i + 1 : Nat) : Int), W') := fun W' => by rw [← e2]; exact oBin_add (by omega) (by omega)
    have hLm := hL.mono ((Le.refl W').add (.cells [.int .i64 ((fi + (i : Int)) % v.sh)]))
    obtain ⟨v', W2, q1, q2, q3, q4⟩ := Lst.push (P := Tryz.prog) (a := (fi + (i : Int)) % v.sh) (b := W'.next) (c := 1) ap38 intC_len intC_one hLm cellsAt_new (by rw [covL_len]; omega) (by rw [covL_len]; omega) (by rw [AW.add_next]; have := hl.next; omega)
    simp only [SX, f2, f6, f9, f24, f25, e1, ea, Nat.zero_add, c0 _ hl, er, bs38, q1, eb, Ok_some]
    refine .inl ⟨trivial, q4 _ (hl.add _) (Nat.le_refl _), f2, f6, f24, rfl, _, rfl, ?_⟩
    rw [covL_succ]
    exact q2
  · rintro R W' ⟨hl, f2, f6, f24, f25, u, f9, hL⟩
    unfold venue_Cover_L1
    have e1 : ¬ ((n : Int) < (n : Int)) := by omega
    simp only [SX, f24, f25, e1, Ok_some]
    exact ⟨by simp, hl, trivial, u, f9, hL⟩
  · rintro ⟨x, R, W'⟩ ⟨hl, hx, u, f9, hL⟩
    simp only at hl hx f9 hL
    subst hx
    have hne : covL v.sh fi n ≠ [] := fun e => by have := covL_len v.sh fi n; rw [e] at this; simp at this; omega
    obtain ⟨W2, s1, s2, s3, s4⟩ := hL.sort hne (by rw [covL_len]; omega)
    simp only [SX, f9, sort_ok s1, Ok_some]
    exact ⟨_, rfl, hle.trans (s4 _ hl (Nat.le_refl _)), by rw [Int.toNat_natCast]; exact s2.ints⟩
end Go.Proofs.YtfcfglpkgcheiaaGreatDoor
/- Place, Of, Shard, Lock, Cover of the document: what they answer. -/
namespace Go.Proofs.YtfcfglpkgcheiaaGreatDoor
open Go Go.Eng
set_option linter.unusedVariables false
set_option linter.unusedSimpArgs false
set_option maxRecDepth 100000
theorem Plcs.get {W : AW} {v : Value} {l : List Plc} (h : Plcs W v l) {i : Nat} (hi : i < l.length) : ∃ b o, (∀ W' k, ixS 3 v (.int k (i : Int)) W' = some (.pointer (some ⟨b, o, none⟩), W')) ∧
    ∀ W', Le W W' → ldC (.pointer (some ⟨b, o, none⟩)) W' = some (.int .i64 (l[i].1 : Int), W') ∧ ldC (.pointer (some ⟨b, o + 1, none⟩)) W' = some (.int .i64 (l[i].2.1 : Int), W') ∧ ldA 3 (.pointer (some ⟨b, o, none⟩)) W' = some (plcV l[i], W') := by
  obtain ⟨a, c, rfl, h⟩ := h
  rcases h with rfl | ⟨b, o, cs, rfl, hb, hc, hat⟩
  · simp at hi
  · refine ⟨b, o + i * 3, fun W' k => ixS_ok hi, fun W' hle => ?_⟩
    have hc' := (hle.cellsAt hb).trans hc
    obtain ⟨h1, h2, h3⟩ := hat i hi
    refine ⟨ldC_ok hc' h1, ldC_ok hc' h2, ?_⟩
    have := take3 h1 h2 h3
    rw [ldA_eq, hc', Option.bind_some, this]
    rfl
theorem wnt_undef (b : Bool) : wnt undef b = false := Eq.trans (by unfold wnt undef; rfl) rfl
/-- the index of the first, and nought if there is none -/
def fidx {α : Type} (p : α → Bool) (l : List α) : Nat := if (l.filter p).length = 0 then 0 else l.findIdx p
theorem fidx_snoc {α : Type} {p : α → Bool} {l : List α} {a : α} : fidx p (l ++ [a]) = if p a = true ∧ (l.filter p).length = 0 then l.length else fidx p l := by
  unfold fidx
  cases ha : p a with
  | false => rw [filter_not ha]; simp only [Bool.false_eq_true, false_and, if_false]
             by_cases h : (l.filter p).length = 0
             · rw [if_pos h, if_pos h]
             · rw [if_neg h, if_neg h]
               have : l.findIdx p < l.length := by
                 rw [List.findIdx_lt_length]
                 obtain ⟨x, hx⟩ := List.exists_mem_of_length_pos (Nat.pos_of_ne_zero h)
                 exact ⟨x, (List.mem_filter.1 hx).1, (List.mem_filter.1 hx).2⟩
               rw [List.findIdx_append, if_pos this]
  | true =>
    rw [filter_yes ha]
    by_cases h : (l.filter p).length = 0
    · simp only [h, and_self, if_true, List.length_append, List.length_cons, List.length_nil]
      have hn : l.findIdx p = l.length := by
        rw [List.findIdx_eq_length]
        intro x hx
        cases hp : p x with
        | false => rfl
        | true =>
          have : x ∈ l.filter p := List.mem_filter.2 ⟨hx, hp⟩
          rw [List.length_eq_zero_iff.1 h] at this
          cases this
      rw [if_neg (by omega), List.findIdx_append, if_neg (by omega)]
      simp [List.findIdx_cons, ha]
    · simp only [h, and_false, if_false]
      have : l.findIdx p < l.length := by
        rw [List.findIdx_lt_length]
        obtain ⟨x, hx⟩ := List.exists_mem_of_length_pos (Nat.pos_of_ne_zero h)
        exact ⟨x, (List.mem_filter.1 hx).1, (List.mem_filter.1 hx).2⟩
      rw [if_neg (by rw [List.length_append]; simp), List.findIdx_append, if_pos this]
def isSecP (sec : Int) (q : Plc) : Bool := decide ((q.1 : Int) = sec)
def refOfE (v : Ven) (sec : Int) : Int × Int × Int := if (venE v).2 = 0 then
  if ((places v.secs).filter (isSecP sec)).length = 0 then (0, 0, 4) else ((fidx (isSecP sec) (places v.secs) : Nat), (((places v.secs).filter (isSecP sec)).length : Nat), 0)
  else (0, 0, (venE v).2)
theorem some_ok {v : Ven} {sv : Value} {W : AW} {sec : Int} (hs : Secs W sv v.secs) (hv : v.secs.length < 1000) (hr : ∀ s ∈ v.secs, s.rows.length < 1000) : omS (.func (.func 41) #[] #[]) [venV v sv, .int .i64 sec, .int .i64 (-1)] W = some (.tuple #[.int .i64 (refOfE v sec).1, .int .i64 (refOfE v sec).2.1, .int .i64 (refOfE v sec).2.2], W) := by
  refine om_drop rfl ?_ ref15_some_om
  unfold ref15_some refOfE
  obtain ⟨W1, hB, hle, hn, c4, c0, c3⟩ := venBox v sv W
  simp only [SX, hB, c4 _ (.refl _), refVen_ok (hs.mono hle) hv hr]
  by_cases he : (venE v).2 = 0
  case neg =>
    simp only [SX, he, if_false, Ok_some]
    exact ⟨trivial, hle⟩
  obtain ⟨hg, -⟩ := venE_good he
  obtain ⟨r, W2, q1, q2, q3⟩ := Places_ok (hs.mono hle) hg
  have hpl := places_len hg
  have htm := total_max hg
  simp only [SX, decide_eq_true he, if_pos he, c4 _ (.refl _), q1]
  have add1 : ∀ (k : Nat) (W' : AW), k < 1000000 → oBin Tryz.prog .add 3 false true (.int .i64 (k : Int)) (.int .i64 1) W' = some (.int .i64 ((k + 1 : Nat) : Int), W') := fun k W' hk => oBin_add (by omega) (by omega)
  generalize hl : places v.secs = l at *
  have hcb : ∀ i, ((l.take i).filter (isSecP sec)).length ≤ l.length := fun i => Nat.le_trans (List.length_filter_le _ _) (by rw [List.length_take]; omega)
  refine Ok_loop l.length (by omega) (fun i R W' => W' = W2 ∧ R 1 = .int .i64 sec ∧ R 2 = .int .i64 (-1) ∧ R 11 = .int .i64 ((fidx (isSecP sec) (l.take i) : Nat) : Int) ∧ R 12 = .int .i64 (((l.take i).filter (isSecP sec)).length : Int) ∧ R 13 = r ∧ R 14 = .int .i64 (i : Int))
    (fun q => q.2.2 = W2 ∧ q.1 = .exit 0 ∧ q.2.1 11 = .int .i64 ((fidx (isSecP sec) l : Nat) : Int) ∧ q.2.1 12 = .int .i64 ((l.filter (isSecP sec)).length : Int)) ⟨rfl, rfl, rfl, rfl, rfl, rfl, rfl⟩ ?_ ?_ ?_
  · rintro i R W' hi ⟨rfl, f1, f2, f11, f12, f13, f14⟩
    unfold ref15_some_L1
    have e1 : ((i : Int) < (l.length : Int)) := by omega
    obtain ⟨b, o, p1, p2⟩ := q3.get hi
    obtain ⟨p3, p4, p5⟩ := p2 W' (.refl _)
    have ht : l.take (i + 1) = l.take i ++ [l[i]] := by rw [List.take_add_one, List.getElem?_eq_getElem hi]; rfl
    have hti : (l.take i).length = i := by rw [List.length_take]; omega
    have hfs := fidx_snoc (p := isSecP sec) (l := l.take i) (a := l[i])
    rw [hti, ← ht] at hfs
    simp only [SX, f1, f2, f13, f14, q3.len lenP, e1, p1, Nat.add_zero, p3]
    by_cases t1 : (l[i].1 : Int) = sec
    case neg =>
      have hp : isSecP sec l[i] = false := decide_eq_false t1
      rw [hp] at hfs
      simp only [Bool.false_eq_true, false_and, if_false] at hfs
      simp only [SX, t1, wnt_undef, f14, add1 i _ (by omega), Ok_some]
      exact .inl ⟨trivial, trivial, f1, f2, by rw [hfs]; exact f11, by rw [ht, filter_not hp]; exact f12, f13, rfl⟩
    have hp : isSecP sec l[i] = true := decide_eq_true t1
    rw [hp] at hfs
    simp only [true_and] at hfs
    have hc := hcb i
    simp only [SX, decide_eq_true t1, f2, decide_true, f12]
    by_cases t2 : ((l.take i).filter (isSecP sec)).length = 0
    · have t3 : (((l.take i).filter (isSecP sec)).length : Int) = 0 := by omega
      rw [if_pos t2] at hfs
      simp only [SX, decide_eq_true t3, f12, f14, add1 i _ (by omega), add1 ((l.take i).filter (isSecP sec)).length _ (by omega), Ok_some]
      refine .inl ⟨trivial, trivial, f1, f2, by rw [hfs]; rfl, ?_, f13, rfl⟩
      rw [ht, filter_yes hp, List.length_append]; rfl
    · have t3 : ¬ (((l.take i).filter (isSecP sec)).length : Int) = 0 := by omega
      rw [if_neg t2] at hfs
      simp only [SX, t3, f12, f14, add1 i _ (by omega), add1 ((l.take i).filter (isSecP sec)).length _ (by omega), Ok_some]
      refine .inl ⟨trivial, trivial, f1, f2, by rw [hfs]; exact f11, ?_, f13, rfl⟩
      rw [ht, filter_yes hp, List.length_append]; rfl
  · rintro R W' ⟨rfl, f1, f2, f11, f12, f13, f14⟩
    unfold ref15_some_L1
    have e1 : ¬ ((l.length : Int) < (l.length : Int)) := by omega
    rw [List.take_length] at f11 f12
    simp only [SX, f13, f14, q3.len lenP, e1, Ok_some]
    exact ⟨by simp, trivial, trivial, f11, f12⟩
  · rintro ⟨x, R, W'⟩ ⟨hW, hx, f11, f12⟩
    simp only at hW hx f11 f12
    subst hW; subst hx
    simp only [SX, f12]
    by_cases t2 : (l.filter (isSecP sec)).length = 0
    · have t3 : ((l.filter (isSecP sec)).length : Int) = 0 := by omega
      simp only [SX, decide_eq_true t3, if_pos t2, Ok_some]
      exact ⟨trivial, hle.trans q2⟩
    · have t3 : ¬ ((l.filter (isSecP sec)).length : Int) = 0 := by omega
      simp only [SX, t3, if_neg t2, f11, f12, Ok_some]
      exact ⟨trivial, hle.trans q2⟩
theorem refOf_ok {v : Ven} {sv : Value} {W : AW} {sec : Int} (hs : Secs W sv v.secs) (hv : v.secs.length < 1000) (hr : ∀ s ∈ v.secs, s.rows.length < 1000) : omS (.func (.func 17) #[] #[]) [venV v sv, .int .i64 sec] W = some (.tuple #[.int .i64 (refOfE v sec).1, .int .i64 (refOfE v sec).2.1, .int .i64 (refOfE v sec).2.2], W) := by
  refine om_drop rfl ?_ ref15_Of_om
  unfold ref15_Of
  obtain ⟨W1, hB, hle, hn, c4, c0, c3⟩ := venBox v sv W
  simp only [SX, hB, c4 _ (.refl _), some_ok (hs.mono hle) hv hr, Ok_some]
  exact ⟨trivial, hle⟩
end Go.Proofs.YtfcfglpkgcheiaaGreatDoor
/- The rows and the places say the same: in plain. -/
namespace Go.Proofs.YtfcfglpkgcheiaaGreatDoor
open Go Go.Eng
set_option linter.unusedVariables false
set_option linter.unusedSimpArgs false
set_option maxRecDepth 100000
def rowPl (r : RowT) : List Plc := rowP r.sec r.row r.many.toNat
theorem rowPl_len (r : RowT) : (rowPl r).length = r.many.toNat := by simp [rowPl, rowP]
theorem rowPl_get (r : RowT) {i : Nat} (h : i < r.many.toNat) : (rowPl r)[i]? = some (r.sec, r.row, i) := by
  unfold rowPl rowP
  rw [List.getElem?_map, List.getElem?_range h]; rfl
theorem find_places : ∀ {L : List RowT} {s seat : Int}, Firsts s L → (∀ r ∈ L, 1 ≤ r.many) → s ≤ seat → seat < s + manyS L →
    ∃ r, L.find? (inRow seat) = some r ∧ (L.flatMap rowPl)[(seat - s).toNat]? = some (r.sec, r.row, (seat - r.first).toNat)
  | [], s, seat, _, _, h1, h2 => by rw [manyS_nil] at h2; omega
  | r :: L, s, seat, ⟨hf, hF⟩, hm, h1, h2 => by
    have hr := hm r (by simp)
    rw [manyS_cons] at h2
    by_cases h : seat < s + r.many
    · refine ⟨r, ?_, ?_⟩
      · rw [List.find?_cons_of_pos]
        unfold inRow
        simp only [Bool.and_eq_true, decide_eq_true_eq]
        omega
      · rw [List.flatMap_cons, List.getElem?_append_left (by rw [rowPl_len]; omega), rowPl_get _ (by omega), hf]
    · obtain ⟨x, x1, x2⟩ := find_places (s := s + r.many) hF (fun y hy => hm y (by simp [hy])) (by omega) (by omega : seat < s + r.many + manyS L)
      refine ⟨x, ?_, ?_⟩
      · rw [List.find?_cons_of_neg, x1]
        unfold inRow
        simp only [Bool.and_eq_true, decide_eq_true_eq]
        omega
      · rw [List.flatMap_cons, List.getElem?_append_right (by rw [rowPl_len]; omega), rowPl_len]
        rw [show (seat - s).toNat - r.many.toNat = (seat - (s + r.many)).toNat by omega]
        exact x2
theorem find_outside : ∀ {L : List RowT} {s seat : Int}, Firsts s L → (∀ r ∈ L, 1 ≤ r.many) → (seat < s ∨ s + manyS L ≤ seat) → L.find? (inRow seat) = none
  | [], _, _, _, _, _ => rfl
  | r :: L, s, seat, ⟨hf, hF⟩, hm, h => by
    have hr := hm r (by simp)
    rw [manyS_cons] at h
    have hp := manyS_pos (l := L) (fun y hy => hm y (by simp [hy]))
    rw [List.find?_cons_of_neg]
    · exact find_outside hF (fun y hy => hm y (by simp [hy])) (by omega)
    · unfold inRow
      simp only [Bool.and_eq_true, decide_eq_true_eq]
      omega
theorem rowPl_yes {sec : Int} {r : RowT} (h : isSec sec r = true) : ∀ q ∈ rowPl r, isSecP sec q = true := by
  intro q hq
  unfold rowPl rowP at hq
  obtain ⟨j, _, rfl⟩ := List.mem_map.1 hq
  exact h
theorem rowPl_no {sec : Int} {r : RowT} (h : isSec sec r = false) : ∀ q ∈ rowPl r, isSecP sec q = false := by
  intro q hq
  unfold rowPl rowP at hq
  obtain ⟨j, _, rfl⟩ := List.mem_map.1 hq
  exact h
theorem count_places {sec : Int} : ∀ {L : List RowT}, (∀ r ∈ L, 1 ≤ r.many) → (((L.flatMap rowPl).filter (isSecP sec)).length : Int) = manyS (L.filter (isSec sec))
  | [], _ => rfl
  | r :: L, hm => by
    have hr := hm r (by simp)
    have ih := count_places (sec := sec) (L := L) (fun y hy => hm y (by simp [hy]))
    rw [List.flatMap_cons, List.filter_append, List.length_append, List.filter_cons]
    cases h : isSec sec r with
    | true =>
      rw [if_pos rfl, manyS_cons, ← ih, List.filter_eq_self.2 (rowPl_yes h), rowPl_len]
      omega
    | false =>
      rw [if_neg (by simp), ← ih, List.filter_eq_nil_iff.2 (fun q hq => by rw [rowPl_no h q hq]; simp)]
      simp
theorem first_places {sec : Int} : ∀ {L : List RowT} {s : Int} {r0 : RowT} {l0 : List RowT}, Firsts s L → (∀ r ∈ L, 1 ≤ r.many) → L.filter (isSec sec) = r0 :: l0 → s + ((L.flatMap rowPl).findIdx (isSecP sec) : Int) = r0.first
  | [], _, _, _, _, _, h => by cases h
  | r :: L, s, r0, l0, ⟨hf, hF⟩, hm, h => by
    have hr := hm r (by simp)
    rw [List.flatMap_cons]
    rw [List.filter_cons] at h
    cases hs : isSec sec r with
    | true =>
      rw [hs, if_pos rfl] at h
      injection h with h1 h2
      subst h1
      have : ((rowPl r ++ L.flatMap rowPl).findIdx (isSecP sec)) = 0 := by
        cases hc : rowPl r with
        | nil => have := rowPl_len r; rw [hc] at this; simp at this; omega
        | cons q l =>
          have := rowPl_yes hs q (by rw [hc]; simp)
          rw [List.cons_append, List.findIdx_cons, this]; rfl
      rw [this]; omega
    | false =>
      rw [hs, if_neg (by simp)] at h
      have ih := first_places hF (fun y hy => hm y (by simp [hy])) h
      have hn : (rowPl r).findIdx (isSecP sec) = (rowPl r).length := by
        rw [List.findIdx_eq_length]
        intro x hx
        exact rowPl_no hs x hx
      rw [List.findIdx_append, hn, if_neg (by omega), rowPl_len]
      omega
theorem law_of (v : Ven) (sec : Int) : refOfE v sec = ofE v sec := by
  unfold refOfE ofE
  by_cases he : (venE v).2 = 0
  case neg => rw [if_neg he, if_neg he]
  rw [if_pos he, if_pos he]
  obtain ⟨hg, -⟩ := venE_good he
  have hm : ∀ x ∈ rowsL v.secs, 1 ≤ x.many := fun x hx => ((rows_mem hx).many hg).1
  have hc := count_places (sec := sec) hm
  have hpl : (rowsL v.secs).flatMap rowPl = places v.secs := (places_rows v.secs).symm
  rw [hpl] at hc
  by_cases h0 : ((places v.secs).filter (isSecP sec)).length = 0
  · rw [if_pos h0, if_pos (by omega)]
  · rw [if_neg h0, if_neg (by omega)]
    have hf : ((fidx (isSecP sec) (places v.secs) : Nat) : Int) = fstS ((rowsL v.secs).filter (isSec sec)) := by
      unfold fidx
      rw [if_neg h0]
      cases hl : (rowsL v.secs).filter (isSec sec) with
      | nil => rw [hl] at hc; rw [manyS_nil] at hc; omega
      | cons r l =>
        have := first_places (rows_firsts v.secs) hm hl
        rw [hpl] at this
        show _ = r.first
        omega
    rw [hf, hc]
def refPlaceE (v : Ven) (seat : Int) : Plc × Int := if (seatsE v).2 = 0 then (if seat < 0 ∨ (seatsE v).1 ≤ seat then ((0, 0, 0), 4) else ((places v.secs).getD seat.toNat (0, 0, 0), 0)) else ((0, 0, 0), (seatsE v).2)
theorem law_place (v : Ven) (seat : Int) : refPlaceE v seat = placeE v seat := by
  unfold refPlaceE placeE findE seatsE
  by_cases he : (venE v).2 = 0
  case neg => simp only [if_neg he]
  simp only [if_pos he, if_true]
  obtain ⟨hg, -⟩ := venE_good he
  have hm : ∀ x ∈ rowsL v.secs, 1 ≤ x.many := fun x hx => ((rows_mem hx).many hg).1
  have hpl : (rowsL v.secs).flatMap rowPl = places v.secs := (places_rows v.secs).symm
  by_cases h : seat < 0 ∨ total v.secs ≤ seat
  · rw [if_pos h, find_outside (rows_firsts v.secs) hm (by rw [rows_sum]; omega)]
    rfl
  · rw [if_neg h]
    obtain ⟨r, r1, r2⟩ := find_places (rows_firsts v.secs) hm (by omega : 0 ≤ seat) (by rw [rows_sum]; omega)
    rw [hpl, Int.sub_zero] at r2
    rw [r1, List.getD_eq_getElem?_getD, r2]
    rfl
end Go.Proofs.YtfcfglpkgcheiaaGreatDoor
/- Place, Shard, Lock, Cover of the document: the same answers as the code's. -/
namespace Go.Proofs.YtfcfglpkgcheiaaGreatDoor
open Go Go.Eng
set_option linter.unusedVariables false
set_option linter.unusedSimpArgs false
set_option maxRecDepth 100000
theorem refPlace_ok {v : Ven} {sv : Value} {W : AW} {seat : Int} (hs : Secs W sv v.secs) (hv : v.secs.length < 1000) (hr : ∀ s ∈ v.secs, s.rows.length < 1000) : omS (.func (.func 13) #[] #[]) [venV v sv, .int .i64 seat] W = some (.tuple #[plcV (placeE v seat).1, .int .i64 (placeE v seat).2], W) := by
  rw [← law_place]
  refine om_drop rfl ?_ ref15_Place_om
  unfold ref15_Place refPlaceE
  obtain ⟨W1, hB, hle, hn, c4, c0, c3⟩ := venBox v sv W
  obtain ⟨W2, b2, n2, l2, r2⟩ := new65 W1
  have hsn := hle.next
  have l02 := hle.trans l2
  simp only [SX, hB, b2, c4 _ l2, refSeats_ok (hs.mono l02) hv hr]
  by_cases he : (seatsE v).2 = 0
  case neg =>
    simp only [SX, he, if_false, wnt_undef, bd65z, stV3i r2, oRes_L1n, oL65, ld3 (rwCells_put _), Option.bind_some, Ok_some]
    exact ⟨rfl, l02.put (by omega) _⟩
  have e40 : ¬ ((4 : Int) = 0) := by decide
  simp only [SX, decide_eq_true he, if_pos he]
  by_cases t1 : seat < 0
  · simp only [SX, decide_eq_true t1, if_pos (Or.inl t1 : seat < 0 ∨ (seatsE v).1 ≤ seat), wnt_undef, e40, bd65z, stV3i r2, oRes_L1n, oL65, ld3 (rwCells_put _), Option.bind_some, Ok_some]
    exact ⟨rfl, l02.put (by omega) _⟩
  by_cases t2 : (seatsE v).1 ≤ seat
  · simp only [SX, decide_eq_false t1, decide_eq_true t2, if_pos (Or.inr t2 : seat < 0 ∨ (seatsE v).1 ≤ seat), e40, bd65z, stV3i r2, oRes_L1n, oL65, ld3 (rwCells_put _), Option.bind_some, Ok_some]
    exact ⟨rfl, l02.put (by omega) _⟩
  have hvz : (venE v).2 = 0 := by
    unfold seatsE at he
    split at he
    · assumption
    · exact he
  have hst : (seatsE v).1 = total v.secs := by unfold seatsE; rw [if_pos hvz]
  obtain ⟨hg, -⟩ := venE_good hvz
  obtain ⟨r, W3, q1, q2, q3⟩ := Places_ok (hs.mono l02) hg
  have hpl := places_len hg
  have hlt : seat.toNat < (places v.secs).length := by omega
  obtain ⟨b, o, p1, p2⟩ := q3.get hlt
  obtain ⟨-, -, p5⟩ := p2 W3 (.refl _)
  have p1' := fun W' => p1 W' .i64
  rw [Int.toNat_of_nonneg (by omega)] at p1'
  have r23 : rwCells W3 W1.next = some [.int .i64 0, .int .i64 0, .int .i64 0] := by rw [q2.rwCells (by omega)]; exact r2
  simp only [SX, decide_eq_false t1, decide_eq_false t2, if_neg (fun h => h.elim t1 t2 : ¬ (seat < 0 ∨ (seatsE v).1 ≤ seat)), he, decide_true, c4 _ l2, q1, p1', p5, stV3i r23, oRes_L1n, oL65, ld3 (rwCells_put _), Option.bind_some, Ok_some]
  exact ⟨by rw [List.getD_eq_getElem?_getD, List.getElem?_eq_getElem hlt]; rfl, (l02.trans q2).put (by omega) _⟩
theorem refShard_ok {v : Ven} {sv : Value} {W : AW} {seat : Int} (hs : Secs W sv v.secs) (hv : v.secs.length < 1000) (hr : ∀ s ∈ v.secs, s.rows.length < 1000) : omS (.func (.func 23) #[] #[]) [venV v sv, .int .i64 seat] W = some (.tuple #[.int .i64 (shardE v seat).1, .int .i64 (shardE v seat).2], W) := by
  refine om_drop rfl ?_ ref15_Shard_om
  unfold ref15_Shard shardE
  obtain ⟨W1, hB, hle, hn, c4, c0, c3⟩ := venBox v sv W
  obtain ⟨W3, b3, n3, l3, r3⟩ := new65 W1
  have hsn := hle.next
  simp only [SX, hB, b3, c4 _ (.refl _), refPlace_ok (hs.mono hle) hv hr, stV3i r3]
  have hpe : (placeE v seat).2 = (findE v seat).2 := by
    unfold placeE
    by_cases he : (findE v seat).2 = 0
    · rw [if_pos he, he]
    · rw [if_neg he]
  rw [hpe]
  by_cases he : (findE v seat).2 = 0
  case neg =>
    simp only [SX, he, if_false, Ok_some]
    exact ⟨trivial, (hle.trans l3).put (by omega) _⟩
  obtain ⟨h1, h2, h3, h4, h5⟩ := findE_zero he
  obtain ⟨k1, k2, k3, k4, k5, -, -⟩ := row_mem (venE_good h1).1 h2
  have hsh := venE_sh h1
  have ea : ∀ W', oBin Tryz.prog .rem 3 false false (.int .i64 seat) (.int .i64 v.sh) W' = some (.int .i64 (seat % v.sh), W') := fun W' => by
    rw [oBin_rem (by omega), Int.tmod_eq_emod_of_nonneg (by omega)]
  simp only [SX, decide_eq_true he, if_pos he, Nat.zero_add, c0 _ (l3.put (Nat.le_refl _) _), ea, Ok_some]
  exact ⟨trivial, (hle.trans l3).put (by omega) _⟩
theorem refLock_ok {v : Ven} {sv : Value} {W : AW} {sec : Int} (hs : Secs W sv v.secs) (hv : v.secs.length < 1000) (hr : ∀ s ∈ v.secs, s.rows.length < 1000) : omS (.func (.func 27) #[] #[]) [venV v sv, .int .i64 sec] W = some (.tuple #[.int .i64 (lockE v sec).1, .int .i64 (lockE v sec).2], W) := by
  refine om_drop rfl ?_ ref15_Lock_om
  unfold ref15_Lock lockE
  obtain ⟨W1, hB, hle, hn, c4, c0, c3⟩ := venBox v sv W
  simp only [SX, hB, c4 _ (.refl _), refOf_ok (hs.mono hle) hv hr, law_of]
  by_cases he : (ofE v sec).2.2 = 0
  case neg =>
    simp only [SX, he, if_false, Ok_some]
    exact ⟨trivial, hle⟩
  obtain ⟨h1, h2, h3, -⟩ := ofE_zero he
  have hsh := venE_sh h1
  have ea : ∀ W', oBin Tryz.prog .add 3 false false (.int .i64 v.sh) (.int .i64 sec) W' = some (.int .i64 (v.sh + sec), W') := fun W' => oBin_add (by omega) (by omega)
  simp only [SX, decide_eq_true he, if_pos he, Nat.zero_add, c0 _ (.refl _), ea, Ok_some]
  exact ⟨trivial, hle⟩
/-- is s the shard of one of many seats from fi on -/
def hitS (sh fi : Int) (m : Nat) (s : Nat) : Bool := (List.range m).any fun (i : Nat) => decide ((fi + (i : Int)) % sh = (s : Int))
theorem hitS_succ (sh fi : Int) (m s : Nat) : hitS sh fi (m + 1) s = (hitS sh fi m s || decide ((fi + (m : Int)) % sh = (s : Int))) := by simp [hitS, List.range_succ]
def refCov (sh fi : Int) (m : Nat) (k : Nat) : List Int := ((List.range k).filter (hitS sh fi m)).map fun (s : Nat) => (s : Int)
theorem refCov_succ (sh fi : Int) (m k : Nat) : refCov sh fi m (k + 1) = if hitS sh fi m k = true then refCov sh fi m k ++ [(k : Int)] else refCov sh fi m k := by
  unfold refCov
  rw [List.range_succ]
  cases h : hitS sh fi m k with
  | true => rw [filter_yes h, if_pos rfl, List.map_append]; rfl
  | false => rw [filter_not h, if_neg (by simp)]
theorem refCov_len (sh fi : Int) (m k : Nat) : (refCov sh fi m k).length ≤ k := by
  unfold refCov
  rw [List.length_map]
  have := List.length_filter_le (hitS sh fi m) (List.range k)
  rwa [List.length_range] at this
theorem law_cov {sh fi : Int} {m : Nat} (hsh : 1 ≤ sh) (hfi : 0 ≤ fi) : refCov sh fi m sh.toNat = sortL (covL sh fi (min (m : Int) sh).toNat) := by
  have hp : (refCov sh fi m sh.toNat).Pairwise fun a b => a < b := by
    unfold refCov
    rw [List.pairwise_map]
    exact (List.pairwise_lt_range.filter _).imp fun h => by omega
  have hn1 : (refCov sh fi m sh.toNat).Nodup := hp.imp fun h => by omega
  have hn2 : (covL sh fi (min (m : Int) sh).toNat).Nodup := by
    unfold covL List.Nodup
    rw [List.pairwise_map]
    refine List.Pairwise.imp_of_mem ?_ (List.pairwise_lt_range (n := (min (m : Int) sh).toNat))
    intro i j hi hj hij he
    rw [List.mem_range] at hi hj
    have h1 := Int.emod_emod_of_dvd (fi + (j : Int)) (Int.dvd_refl sh)
    have h2 := (Int.emod_eq_emod_iff_emod_sub_eq_zero).1 he.symm
    rw [show fi + (j : Int) - (fi + (i : Int)) = (j : Int) - i by omega, Int.emod_eq_of_lt (by omega) (by omega)] at h2
    omega
  have hperm : (covL sh fi (min (m : Int) sh).toNat).Perm (refCov sh fi m sh.toNat) := by
    rw [List.perm_ext_iff_of_nodup hn2 hn1]
    intro a
    unfold covL refCov hitS
    simp only [List.mem_map, List.mem_range, List.mem_filter, List.any_eq_true, decide_eq_true_eq]
    constructor
    · rintro ⟨i, hi, rfl⟩
      have h1 := Int.emod_nonneg (fi + (i : Int)) (by omega : sh ≠ 0)
      have h2 := Int.emod_lt_of_pos (fi + (i : Int)) (by omega : 0 < sh)
      exact ⟨((fi + (i : Int)) % sh).toNat, ⟨by omega, i, by omega, by omega⟩, by omega⟩
    · rintro ⟨s, ⟨hs, i, hi, he⟩, rfl⟩
      by_cases hc : (m : Int) ≤ sh
      · exact ⟨i, by omega, he⟩
      · have h1 := Int.emod_nonneg (i : Int) (by omega : sh ≠ 0)
        have h2 := Int.emod_lt_of_pos (i : Int) (by omega : 0 < sh)
        refine ⟨((i : Int) % sh).toNat, by omega, ?_⟩
        rw [Int.toNat_of_nonneg h1, Int.add_emod_emod]
        exact he
  refine List.Perm.eq_of_pairwise (le := fun a b => a ≤ b) (fun a b _ _ h1 h2 => by omega) (hp.imp fun h => by omega) ?_ (hperm.symm.trans (List.mergeSort_perm _ _).symm)
  refine (List.pairwise_mergeSort (le := fun x y : Int => decide (x ≤ y)) ?_ ?_ _).imp fun h => of_decide_eq_true h
  · intro a b c h1 h2
    have := of_decide_eq_true h1
    have := of_decide_eq_true h2
    exact decide_eq_true (by omega)
  · intro a b
    by_cases h : a ≤ b
    · rw [decide_eq_true h]; rfl
    · rw [decide_eq_true (show b ≤ a by omega), Bool.or_true]
theorem refCover_ok {v : Ven} {sv : Value} {W : AW} {sec : Int} (hs : Secs W sv v.secs) (hv : v.secs.length < 1000) (hr : ∀ s ∈ v.secs, s.rows.length < 1000) : ∃ u W2, omS (.func (.func 25) #[] #[]) [venV v sv, .int .i64 sec] W = some (.tuple #[u, .int .i64 (coverE v sec).2], W2) ∧ Le W W2 ∧ Ints W2 u (coverE v sec).1 := by
  refine om_row2 ?_ ref15_Cover_om
  unfold ref15_Cover coverE
  obtain ⟨W1, hB, hle, hn, c4, c0, c3⟩ := venBox v sv W
  have hsn := hle.next
  simp only [SX, hB, c4 _ (.refl _), refOf_ok (hs.mono hle) hv hr, law_of]
  by_cases he : (ofE v sec).2.2 = 0
  case neg =>
    simp only [SX, he, if_false, Ok_some]
    exact ⟨_, rfl, hle, Row.nil⟩
  obtain ⟨h1, h2, h3, -⟩ := ofE_zero he
  obtain ⟨b1, b2, b3, b4⟩ := ofE_bound he
  have hsh := venE_sh h1
  generalize hfm : ofE v sec = fm at *
  obtain ⟨fi, ma, er⟩ := fm
  simp only at he b1 b2 b3 b4 ⊢
  subst he
  obtain ⟨m, rfl⟩ : ∃ m : Nat, ma = (m : Int) := ⟨ma.toNat, by omega⟩
  simp only [SX, if_true, decide_true]
  rw [← law_cov hsh.1 b1]
  have add1 : ∀ (k : Int) (W' : AW), 0 ≤ k → k < 1000000 → oBin Tryz.prog .add 3 false true (.int .i64 k) (.int .i64 1) W' = some (.int .i64 (k + 1), W') := fun k W' _ hk => oBin_add (by omega) (by omega)
  have efm : ∀ W', oBin Tryz.prog .add 3 false false (.int .i64 fi) (.int .i64 (m : Int)) W' = some (.int .i64 (fi + (m : Int)), W') := fun W' => oBin_add (by omega) (by omega)
  refine Ok_loop v.sh.toNat (by omega) (fun k R W' => Le W1 W' ∧ R 2 = .pointer (some ⟨W.next, 0, none⟩) ∧ R 6 = .int .i64 fi ∧ R 7 = .int .i64 (m : Int) ∧ R 10 = .int .i64 (k : Int) ∧ ∃ u, R 9 = u ∧ Lst W1.next W' 1 intC u (refCov v.sh fi m k))
    (fun r => Le W1 r.2.2 ∧ r.1 = .exit 0 ∧ ∃ u, r.2.1 9 = u ∧ Lst W1.next r.2.2 1 intC u (refCov v.sh fi m v.sh.toNat)) ⟨.refl _, rfl, rfl, rfl, rfl, _, rfl, .nil _ _ _ _⟩ ?_ ?_ ?_
  · rintro k R W' hk ⟨hl, f2, f6, f7, f10, u, f9, hL⟩
    unfold ref15_Cover_L1
    have e1 : ((k : Int) < v.sh) := by omega
    have hkl := refCov_len v.sh fi m k
    have e2 : (k : Int) + 1 = ((k + 1 : Nat) : Int) := by omega
    simp only [SX, f2, f6, f10, Nat.zero_add, c0 _ hl, e1]
    refine Ok_loop m (by omega) (fun j R W2 => W2 = W' ∧ R 2 = .pointer (some ⟨W.next, 0, none⟩) ∧ R 6 = .int .i64 fi ∧ R 7 = .int .i64 (m : Int) ∧ R 10 = .int .i64 (k : Int) ∧ R 9 = u ∧ R 11 = .bool (hitS v.sh fi j k) ∧ R 12 = .int .i64 (fi + (j : Int)))
      (fun r => r.1 = .exit 2 ∧ r.2.2 = W' ∧ r.2.1 2 = .pointer (some ⟨W.next, 0, none⟩) ∧ r.2.1 6 = .int .i64 fi ∧ r.2.1 7 = .int .i64 (m : Int) ∧ r.2.1 10 = .int .i64 (k : Int) ∧ r.2.1 9 = u ∧ r.2.1 11 = .bool (hitS v.sh fi m k)) ⟨rfl, f2, f6, f7, f10, f9, rfl, by show Value.int .i64 fi = _; congr 1; omega⟩ ?_ ?_ ?_
    · rintro j R W2 hj ⟨rfl, f2, f6, f7, f10, f9, f11, f12⟩
      unfold ref15_Cover_L1_L2
      have e3 : (fi + (j : Int) < fi + (m : Int)) := by omega
      have er : ∀ W', oBin Tryz.prog .rem 3 false false (.int .i64 (fi + (j : Int))) (.int .i64 v.sh) W' = some (.int .i64 ((fi + (j : Int)) % v.sh), W') := fun W' => by
        rw [oBin_rem (by omega), Int.tmod_eq_emod_of_nonneg (by omega)]
      have e4 : fi + (j : Int) + 1 = fi + ((j + 1 : Nat) : Int) := by omega
      have hh := hitS_succ v.sh fi j k
      simp only [SX, f2, f6, f7, f10, f12, efm, e3, Nat.zero_add, c0 _ hl, er]
      by_cases t : (fi + (j : Int)) % v.sh = (k : Int)
      · rw [decide_eq_true t, Bool.or_true] at hh
        simp only [SX, decide_eq_true t, f12, add1 (fi + (j : Int)) _ (by omega) (by omega), Ok_some]
        exact .inl ⟨trivial, trivial, f2, f6, f7, f10, f9, by rw [hh]; rfl, by rw [← e4]; rfl⟩
      · rw [decide_eq_false t, Bool.or_false] at hh
        simp only [SX, decide_eq_false t, f12, add1 (fi + (j : Int)) _ (by omega) (by omega), Ok_some]
        exact .inl ⟨trivial, trivial, f2, f6, f7, f10, f9, by rw [hh]; exact f11, by rw [← e4]; rfl⟩
    · rintro R W2 ⟨rfl, f2, f6, f7, f10, f9, f11, f12⟩
      unfold ref15_Cover_L1_L2
      have e3 : ¬ (fi + (m : Int) < fi + (m : Int)) := by omega
      simp only [SX, f6, f7, f12, efm, e3, Ok_some]
      exact ⟨by simp, trivial, trivial, f2, f6, f7, f10, f9, f11⟩
    · rintro ⟨x, R, W2⟩ ⟨hx, hW, f2, f6, f7, f10, f9, f11⟩
      simp only at hx hW f2 f6 f7 f10 f9 f11
      subst hx; subst hW
      have hc := refCov_succ v.sh fi m k
      simp only [SX, f11]
      cases hb : hitS v.sh fi m k
      · rw [hb, if_neg (by simp)] at hc
        simp only [SX, f10, add1 (k : Int) _ (by omega) (by omega), Ok_some]
        exact .inl ⟨trivial, hl, f2, f6, f7, by rw [← e2]; rfl, u, f9, by rw [hc]; exact hL⟩
      · rw [hb, if_pos rfl] at hc
        have hLm := hL.mono ((Le.refl W2).add (.cells [.int .i64 (k : Int)]))
        obtain ⟨v', W3, q1, q2, q3, q4⟩ := Lst.push (P := Tryz.prog) (a := (k : Int)) (b := W2.next) (c := 1) ap38 intC_len intC_one hLm cellsAt_new (by omega) (by omega) (by rw [AW.add_next]; have := hl.next; omega)
        simp only [SX, f9, f10, bs38, q1, add1 (k : Int) _ (by omega) (by omega), Ok_some]
        exact .inl ⟨trivial, q4 _ (hl.add _) (Nat.le_refl _), f2, f6, f7, by rw [← e2]; rfl, _, rfl, by rw [hc]; exact q2⟩
  · rintro R W' ⟨hl, f2, f6, f7, f10, u, f9, hL⟩
    unfold ref15_Cover_L1
    have e1 : ¬ ((v.sh.toNat : Int) < v.sh) := by omega
    simp only [SX, f2, f10, Nat.zero_add, c0 _ hl, e1, Ok_some]
    exact ⟨by simp, hl, trivial, u, f9, hL⟩
  · rintro ⟨x, R, W'⟩ ⟨hl, hx, u, f9, hL⟩
    simp only at hl hx f9 hL
    subst hx
    simp only [SX, f9, Ok_some]
    exact ⟨_, rfl, hle.trans hl, hL.ints⟩
end Go.Proofs.YtfcfglpkgcheiaaGreatDoor
/- The seats beside one; venues that are too far to be looked at. -/
namespace Go.Proofs.YtfcfglpkgcheiaaGreatDoor
open Go Go.Eng
set_option linter.unusedVariables false
set_option linter.unusedSimpArgs false
set_option maxRecDepth 100000
def sidesE (v : Ven) (seat : Int) : Int × Int × Int := if (findE v seat).2 = 0 then
  (if seat - 1 < (findE v seat).1.first then -1 else seat - 1, if seat + 1 = (findE v seat).1.first + (findE v seat).1.many then -1 else seat + 1, 0) else (0, 0, (findE v seat).2)
theorem sides_ok {v : Ven} {sv : Value} {W : AW} {seat : Int} (hs : SecsC W sv v.secs) (hv : v.secs.length < 1000) : omS (.func (.func 20) #[] #[]) [venV v sv, .int .i64 seat] W = some (.tuple #[.int .i64 (sidesE v seat).1, .int .i64 (sidesE v seat).2.1, .int .i64 (sidesE v seat).2.2], W) := by
  refine om_drop rfl ?_ venue_Sides_om
  unfold venue_Sides sidesE
  obtain ⟨W1, hB, hle, hn, c4, c0, c3⟩ := venBox v sv W
  obtain ⟨W3, b3, n3, l3, r3⟩ := new92 W1
  have hsn := hle.next
  have l03 := hle.trans l3
  simp only [SX, hB, b3, c4 _ (.refl _), find_ok (hs.mono hle) hv, stV4i r3]
  by_cases he : (findE v seat).2 = 0
  case neg =>
    simp only [SX, he, if_false, Ok_some]
    exact ⟨trivial, l03.put (by omega) _⟩
  obtain ⟨h1, h2, h3, h4, h5⟩ := findE_zero he
  obtain ⟨k1, k2, k3, k4, k5, -, -⟩ := row_mem (venE_good h1).1 h2
  have hb := rwCells_put (W := W3) (b := W1.next) (rowC (findE v seat).1)
  have ea : ∀ W', oBin Tryz.prog .sub 3 false true (.int .i64 seat) (.int .i64 1) W' = some (.int .i64 (seat - 1), W') := fun W' => oBin_sub (by omega) (by omega)
  have eb : ∀ W', oBin Tryz.prog .add 3 false true (.int .i64 seat) (.int .i64 1) W' = some (.int .i64 (seat + 1), W') := fun W' => oBin_add (by omega) (by omega)
  have ec : ∀ W', oBin Tryz.prog .add 3 false false (.int .i64 (findE v seat).1.first) (.int .i64 (findE v seat).1.many) W' = some (.int .i64 ((findE v seat).1.first + (findE v seat).1.many), W') := fun W' => oBin_add (by omega) (by omega)
  have lp := l03.put (b := W1.next) (by omega) (.cells (rowC (findE v seat).1))
  by_cases t1 : seat - 1 < (findE v seat).1.first
  · by_cases t2 : seat + 1 = (findE v seat).1.first + (findE v seat).1.many
    · simp only [SX, decide_eq_true he, if_pos he, Nat.zero_add, ea, eb, ldR (o := 2) hb rfl, ldR (o := 3) hb rfl, ec, decide_eq_true t1, decide_eq_true t2, if_pos t1, if_pos t2, Ok_some]
      exact ⟨trivial, lp⟩
    · simp only [SX, decide_eq_true he, if_pos he, Nat.zero_add, ea, eb, ldR (o := 2) hb rfl, ldR (o := 3) hb rfl, ec, decide_eq_true t1, decide_eq_false t2, if_pos t1, if_neg t2, Ok_some]
      exact ⟨trivial, lp⟩
  · by_cases t2 : seat + 1 = (findE v seat).1.first + (findE v seat).1.many
    · simp only [SX, decide_eq_true he, if_pos he, Nat.zero_add, ea, eb, ldR (o := 2) hb rfl, ldR (o := 3) hb rfl, ec, decide_eq_false t1, decide_eq_true t2, if_neg t1, if_pos t2, Ok_some]
      exact ⟨trivial, lp⟩
    · simp only [SX, decide_eq_true he, if_pos he, Nat.zero_add, ea, eb, ldR (o := 2) hb rfl, ldR (o := 3) hb rfl, ec, decide_eq_false t1, decide_eq_false t2, if_neg t1, if_neg t2, Ok_some]
      exact ⟨trivial, lp⟩
/-- seats that are counted: rows of 1 to 100 -/
def cntI (l : List Int) : Int := sumI (l.map fun n => if 0 < n ∧ n ≤ 100 then n else 0)
theorem cntI_take {l : List Int} {k : Nat} (hk : k < l.length) : cntI (l.take (k + 1)) = cntI (l.take k) + (if 0 < l[k] ∧ l[k] ≤ 100 then l[k] else 0) := by
  unfold cntI
  rw [List.take_add_one, List.getElem?_eq_getElem hk, Option.toList_some, List.map_append, List.map_cons, List.map_nil, sumI_app]
theorem cntI_bound (l : List Int) (k : Nat) : 0 ≤ cntI (l.take k) ∧ cntI (l.take k) ≤ 100 * k := by
  induction k with
  | zero => simp [cntI, sumI]
  | succ k ih =>
    by_cases hk : k < l.length
    · rw [cntI_take hk]
      split <;> omega
    · rw [List.take_of_length_le (show l.length ≤ k by omega)] at ih
      rw [List.take_of_length_le (show l.length ≤ k + 1 by omega)]
      omega
def cnt (l : List Sec) : Int := sumI (l.map fun s => cntI s.rows)
theorem cnt_take {l : List Sec} {k : Nat} (hk : k < l.length) : cnt (l.take (k + 1)) = cnt (l.take k) + cntI l[k].rows := by
  unfold cnt
  rw [List.take_add_one, List.getElem?_eq_getElem hk, Option.toList_some, List.map_append, List.map_cons, List.map_nil, sumI_app]
theorem cnt_bound (l : List Sec) (h : ∀ s ∈ l, s.rows.length ≤ 20) (k : Nat) : 0 ≤ cnt (l.take k) ∧ cnt (l.take k) ≤ 2000 * k := by
  induction k with
  | zero => simp [cnt, sumI]
  | succ k ih =>
    by_cases hk : k < l.length
    · rw [cnt_take hk]
      have h1 := cntI_bound l[k].rows l[k].rows.length
      rw [List.take_length] at h1
      have := h _ (List.getElem_mem hk)
      omega
    · rw [List.take_of_length_le (show l.length ≤ k by omega)] at ih
      rw [List.take_of_length_le (show l.length ≤ k + 1 by omega)]
      omega
theorem lenV : ((#[22] : Array TypeId)[0]?).bind Tryz.prog.underlying = some (.slice 28) := by kernel_rfl
/-- is a venue near enough -/
def Near (v : Ven) : Prop := v.secs.length ≤ 10 ∧ (∀ s ∈ v.secs, s.rows.length ≤ 20) ∧ cnt v.secs ≤ 200
theorem far_ok {v : Ven} {sv : Value} {W : AW} (hs : Secs W sv v.secs) : ∃ b, omS (.func (.func 11) #[] #[]) [venV v sv] W = some (.bool b, W) ∧ (b = false → Near v) := by
  have main : Ok (law15_Far omS (venV v sv) W) fun r => ∃ b, r.1 = .bool b ∧ Le W r.2 ∧ (b = false → Near v) := by
    unfold law15_Far
    obtain ⟨W1, hB, hle, hn, c4, c0, c3⟩ := venBox v sv W
    have hs1 := hs.mono hle
    have hsn := hle.next
    have add1 : ∀ (k : Nat) (W' : AW), k < 1000000 → oBin Tryz.prog .add 3 false true (.int .i64 (k : Int)) (.int .i64 1) W' = some (.int .i64 ((k + 1 : Nat) : Int), W') := fun k W' hk => oBin_add (by omega) (by omega)
    simp only [SX, hB, c3 _ (.refl _), hs1.len lenV]
    by_cases t0 : 10 < (v.secs.length : Int)
    · simp only [SX, decide_eq_true t0, Ok_some]
      exact ⟨_, rfl, hle, fun hb => by cases hb⟩
    simp only [SX, decide_eq_false t0]
    have hl : v.secs.length ≤ 10 := by omega
    refine Ok_loop v.secs.length (by omega) (fun i R W' => Le W1 W' ∧ R 1 = .pointer (some ⟨W.next, 0, none⟩) ∧ R 3 = .int .i64 (cnt (v.secs.take i)) ∧ R 4 = .int .i64 (i : Int) ∧ ∀ j (h : j < v.secs.length), j < i → v.secs[j].rows.length ≤ 20)
      (fun r => Le W1 r.2.2 ∧ ((r.1 = .exit 0 ∧ r.2.1 3 = .int .i64 (cnt v.secs) ∧ ∀ s ∈ v.secs, s.rows.length ≤ 20) ∨ (r.1 = .ret ∧ r.2.1 2 = .bool true))) ⟨.refl _, rfl, rfl, rfl, fun j h hj => by omega⟩ ?_ ?_ ?_
    · rintro i R W' hi ⟨hl1, f1, f3, f4, hj⟩
      unfold law15_Far_L1
      have e1 : ((i : Int) < (v.secs.length : Int)) := by omega
      obtain ⟨b, o, rv, p1, p2, p3, p4, p5, -⟩ := hs1.get hi
      have hlw := hl1.next
      have hc2 : cellsAt (W'.add (.cells [.string (bytesL v.secs[i].name), rv, .int .i64 v.secs[i].q])) W'.next = some [.string (bytesL v.secs[i].name), rv, .int .i64 v.secs[i].q] := cellsAt_new
      simp only [SX, f1, f4, Nat.zero_add, c3 _ hl1, hs1.len lenV, e1, decide_true, p1, p3 _ hl1, al62, stV3 rwCells_new (one_string _) (Row.one p2) (one_int _ _), put_add_cells]
      have l2 : Le W1 (W'.add (.cells [.string (bytesL v.secs[i].name), rv, .int .i64 v.secs[i].q])) := hl1.add _
      have n2 : (W'.add (.cells [.string (bytesL v.secs[i].name), rv, .int .i64 v.secs[i].q])).next = W'.next + 1 := AW.add_next _ _
      generalize hW2 : W'.add (.cells [.string (bytesL v.secs[i].name), rv, .int .i64 v.secs[i].q]) = W2 at *
      have d0 : ∀ W3, Le W2 W3 → ldC (.pointer (some ⟨W'.next, 0, none⟩)) W3 = some (.string (bytesL v.secs[i].name), W3) := fun W3 h3 => ldC_ok (by rw [h3.cellsAt (by omega)]; exact hc2) rfl
      have d1 : ∀ W3, Le W2 W3 → ldC (.pointer (some ⟨W'.next, 1, none⟩)) W3 = some (rv, W3) := fun W3 h3 => ldC_ok (by rw [h3.cellsAt (by omega)]; exact hc2) rfl
      simp only [SX, d1 _ (.refl _), p2.len lenI]
      by_cases t1 : 20 < (v.secs[i].rows.length : Int)
      · simp only [SX, decide_eq_true t1, Ok_some]
        exact .inr ⟨by simp, l2, .inr ⟨trivial, rfl⟩⟩
      simp only [SX, decide_eq_false t1, d0 _ (.refl _), str_len len9]
      by_cases t2 : 100 < (v.secs[i].name.length : Int)
      · simp only [SX, decide_eq_true t2, Ok_some]
        exact .inr ⟨by simp, l2, .inr ⟨trivial, rfl⟩⟩
      simp only [SX, decide_eq_false t2]
      have hj20 : ∀ s ∈ v.secs.take i, s.rows.length ≤ 20 := fun s hs => by
        obtain ⟨j, hj2, rfl⟩ := List.getElem_of_mem hs
        rw [List.length_take] at hj2
        rw [List.getElem_take]
        exact hj j (by omega) (by omega)
      have hcb := cnt_bound (v.secs.take i) hj20 i
      rw [List.take_take, Nat.min_self] at hcb
      refine Ok_loop v.secs[i].rows.length (by omega) (fun k R X => X = W2 ∧ R 1 = .pointer (some ⟨W.next, 0, none⟩) ∧ R 3 = .int .i64 (cnt (v.secs.take i) + cntI (v.secs[i].rows.take k)) ∧ R 4 = .int .i64 (i : Int) ∧ R 5 = .pointer (some ⟨W'.next, 0, none⟩) ∧ R 6 = .int .i64 (k : Int))
        (fun r => r.2.2 = W2 ∧ r.1 = .exit 2 ∧ r.2.1 1 = .pointer (some ⟨W.next, 0, none⟩) ∧ r.2.1 3 = .int .i64 (cnt (v.secs.take i) + cntI v.secs[i].rows) ∧ r.2.1 4 = .int .i64 (i : Int)) ⟨rfl, f1, by rw [show cntI (v.secs[i].rows.take 0) = 0 from rfl, Int.add_zero]; exact f3, f4, rfl, rfl⟩ ?_ ?_ ?_
      · rintro k R W3 hk ⟨rfl, g1, g3, g4, g5, g6⟩
        unfold law15_Far_L1_L2
        have e2 : ((k : Int) < (v.secs[i].rows.length : Int)) := by omega
        obtain ⟨p, q1, q2⟩ := p2.get hk
        have hkb := cntI_bound v.secs[i].rows k
        have ht := cntI_take hk
        simp only [SX, g3, g5, g6, Nat.zero_add, d1 _ (.refl _), p2.len lenI, e2, decide_true, q1, q2 _ l2]
        by_cases t3 : 0 < v.secs[i].rows[k]
        case neg =>
          rw [if_neg (by omega), Int.add_zero] at ht
          simp only [SX, decide_eq_false t3, g6, add1 k _ (by omega), Ok_some]
          exact .inl ⟨trivial, trivial, g1, by rw [ht]; exact g3, g4, g5, rfl⟩
        simp only [SX, decide_eq_true t3, g5, g6, Nat.zero_add, d1 _ (.refl _), q1, q2 _ l2]
        by_cases t4 : v.secs[i].rows[k] ≤ 100
        case neg =>
          rw [if_neg (by omega), Int.add_zero] at ht
          simp only [SX, decide_eq_false t4, g6, add1 k _ (by omega), Ok_some]
          exact .inl ⟨trivial, trivial, g1, by rw [ht]; exact g3, g4, g5, rfl⟩
        rw [if_pos ⟨t3, t4⟩] at ht
        have ea : ∀ W', oBin Tryz.prog .add 3 false false (.int .i64 (cnt (v.secs.take i) + cntI (v.secs[i].rows.take k))) (.int .i64 v.secs[i].rows[k]) W' = some (.int .i64 (cnt (v.secs.take i) + cntI (v.secs[i].rows.take k) + v.secs[i].rows[k]), W') := fun W' => oBin_add (by omega) (by omega)
        simp only [SX, decide_eq_true t4, g3, g5, g6, Nat.zero_add, d1 _ (.refl _), q1, q2 _ l2, ea, add1 k _ (by omega), Ok_some]
        exact .inl ⟨trivial, trivial, g1, by rw [ht, ← Int.add_assoc]; rfl, g4, g5, rfl⟩
      · rintro R W3 ⟨rfl, g1, g3, g4, g5, g6⟩
        unfold law15_Far_L1_L2
        have e2 : ¬ ((v.secs[i].rows.length : Int) < (v.secs[i].rows.length : Int)) := by omega
        rw [List.take_length] at g3
        simp only [SX, g5, g6, Nat.zero_add, d1 _ (.refl _), p2.len lenI, e2, decide_false, Ok_some]
        exact ⟨by simp, trivial, trivial, g1, g3, g4⟩
      · rintro ⟨x, R, W3⟩ ⟨hW, hx, g1, g3, g4⟩
        simp only at hW hx g1 g3 g4
        subst hW hx
        simp only [SX, g4, add1 i _ (by omega), Ok_some]
        refine .inl ⟨trivial, l2, g1, by rw [cnt_take hi]; exact g3, rfl, fun j h hji => ?_⟩
        by_cases hji2 : j < i
        · exact hj j h hji2
        · obtain rfl : j = i := by omega
          omega
    · rintro R W' ⟨hl1, f1, f3, f4, hj⟩
      unfold law15_Far_L1
      have e1 : ¬ ((v.secs.length : Int) < (v.secs.length : Int)) := by omega
      rw [List.take_length] at f3
      simp only [SX, f1, f4, Nat.zero_add, c3 _ hl1, hs1.len lenV, e1, decide_false, Ok_some]
      exact ⟨by simp, hl1, .inl ⟨trivial, f3, fun s hs => by
        obtain ⟨j, hj2, rfl⟩ := List.getElem_of_mem hs
        exact hj j hj2 hj2⟩⟩
    · rintro ⟨x, R, W'⟩ ⟨hl1, hq⟩
      simp only at hl1 hq
      rcases hq with ⟨rfl, f3, hj⟩ | ⟨rfl, f2⟩
      · simp only [SX, f3, Ok_some]
        exact ⟨_, rfl, hle.trans hl1, fun hb => ⟨hl, hj, by have := of_decide_eq_false hb; omega⟩⟩
      · simp only [SX, f2, Ok_some]
        exact ⟨_, rfl, hle.trans hl1, fun hb => by cases hb⟩
  obtain ⟨⟨r, W'⟩, h1, b, h2, h3, h4⟩ := main
  simp only at h2 h3
  subst h2
  exact ⟨b, by rw [law15_Far_om h1, gc_bool h3], h4⟩
end Go.Proofs.YtfcfglpkgcheiaaGreatDoor
/- Where the rows of a venue lie: the code's answers at the places that there are. -/
namespace Go.Proofs.YtfcfglpkgcheiaaGreatDoor
open Go Go.Eng
set_option linter.unusedVariables false
set_option linter.unusedSectionVars false
set_option linter.unusedSimpArgs false
set_option maxRecDepth 100000
abbrev rowAt (l : List Sec) (i k : Nat) (n : Int) : RowT := ⟨i, k, total (l.take i) + sumI ((l.getD i ⟨[], [], 0⟩).rows.take k), n⟩
section
variable {v : Ven} (he : (venE v).2 = 0)
include he
end
end Go.Proofs.YtfcfglpkgcheiaaGreatDoor
/- Where a seat's row lies: in plain. -/
namespace Go.Proofs.YtfcfglpkgcheiaaGreatDoor
open Go Go.Eng
set_option linter.unusedVariables false
set_option linter.unusedSimpArgs false
set_option linter.unusedSectionVars false
set_option maxRecDepth 100000
section
variable {v : Ven} (he : (venE v).2 = 0)
include he
end
end Go.Proofs.YtfcfglpkgcheiaaGreatDoor
/- A row of a venue, and a place: told by the rows, and by the places. -/
namespace Go.Proofs.YtfcfglpkgcheiaaGreatDoor
open Go Go.Eng
set_option linter.unusedVariables false
set_option linter.unusedSimpArgs false
set_option linter.unusedSectionVars false
set_option maxRecDepth 100000
def RowLt (a b : RowT) : Prop := a.sec < b.sec ∨ (a.sec = b.sec ∧ a.row < b.row)
/-! ### predicates of rows and of places that agree -/
section
variable {pR : RowT → Bool} {pP : Plc → Bool} (hag : ∀ r, ∀ q ∈ rowPl r, pP q = pR r)
include hag
end
def isRowP (sec row : Int) (q : Plc) : Bool := decide ((q.1 : Int) = sec) && decide ((q.2.1 : Int) = row)
def refRowE (v : Ven) (sec row : Int) : Int × Int × Int := if (venE v).2 = 0 then
  if ((places v.secs).filter (isRowP sec row)).length = 0 then (0, 0, 4) else ((fidx (isRowP sec row) (places v.secs) : Nat), (((places v.secs).filter (isRowP sec row)).length : Nat), 0)
  else (0, 0, (venE v).2)
/-! ### places -/
section
variable {v : Ven} (he : (venE v).2 = 0)
include he
end
end Go.Proofs.YtfcfglpkgcheiaaGreatDoor
/- Row, Seat, Sides, Find of the document, and Find of the code: what they answer. -/
namespace Go.Proofs.YtfcfglpkgcheiaaGreatDoor
open Go Go.Eng
set_option linter.unusedVariables false
set_option linter.unusedSimpArgs false
set_option linter.unusedSectionVars false
set_option maxRecDepth 100000
theorem refSides_ok {v : Ven} {sv : Value} {W : AW} {seat : Int} (hs : Secs W sv v.secs) (hv : v.secs.length < 1000) (hr : ∀ s ∈ v.secs, s.rows.length < 1000) : omS (.func (.func 21) #[] #[]) [venV v sv, .int .i64 seat] W = some (.tuple #[.int .i64 (sidesE v seat).1, .int .i64 (sidesE v seat).2.1, .int .i64 (sidesE v seat).2.2], W) := by
  refine om_drop rfl ?_ ref15_Sides_om
  unfold ref15_Sides
  obtain ⟨W1, hB, hle, hn, c4, c0, c3⟩ := venBox v sv W
  obtain ⟨Wa, ba, na, la, ra⟩ := new65 W1
  have hsn := hle.next
  have hpf : (placeE v seat).2 = (findE v seat).2 := by
    unfold placeE
    split
    · rename_i h; rw [h]
    · rfl
  have l2 := la.put (Nat.le_refl _) (.cells [.int .i64 ((placeE v seat).1.1 : Int), .int .i64 ((placeE v seat).1.2.1 : Int), .int .i64 ((placeE v seat).1.2.2 : Int)])
  have r2 : rwCells (Wa.put W1.next (.cells [.int .i64 ((placeE v seat).1.1 : Int), .int .i64 ((placeE v seat).1.2.1 : Int), .int .i64 ((placeE v seat).1.2.2 : Int)])) W1.next = some [.int .i64 ((placeE v seat).1.1 : Int), .int .i64 ((placeE v seat).1.2.1 : Int), .int .i64 ((placeE v seat).1.2.2 : Int)] := rwCells_put _
  simp only [SX, hB, c4 _ (.refl _), refPlace_ok (hs.mono hle) hv hr, ba, stV3i ra, hpf]
  generalize Wa.put W1.next (.cells [.int .i64 ((placeE v seat).1.1 : Int), .int .i64 ((placeE v seat).1.2.1 : Int), .int .i64 ((placeE v seat).1.2.2 : Int)]) = W2 at *
  have l02 := hle.trans l2
  by_cases he : (findE v seat).2 = 0
  case neg =>
    have : sidesE v seat = (0, 0, (findE v seat).2) := by unfold sidesE; rw [if_neg he]
    simp only [SX, he, this, Ok_some]
    exact ⟨trivial, l02⟩
  obtain ⟨h1, h2, h3, h4, h5⟩ := findE_zero he
  obtain ⟨hg, -⟩ := venE_good h1
  obtain ⟨k1, k2, k3, k4, k5, -, -⟩ := row_mem hg h2
  obtain ⟨hi, hk, hm⟩ := k1
  have hsd : sidesE v seat = (if seat - 1 < (findE v seat).1.first then -1 else seat - 1, if seat + 1 = (findE v seat).1.first + (findE v seat).1.many then -1 else seat + 1, 0) := by unfold sidesE; rw [if_pos he]
  have hpe : (placeE v seat).1 = ((findE v seat).1.sec, (findE v seat).1.row, (seat - (findE v seat).1.first).toNat) := by unfold placeE; rw [if_pos he]
  rw [hpe] at r2
  rw [hsd]
  generalize (findE v seat).1 = r at *
  simp only at r2
  have hs2 := hs.mono l02
  obtain ⟨b, o, rv, p1, p2, -, -, p5, -⟩ := hs2.get hi
  obtain ⟨p, q1, q2⟩ := p2.get hk
  have et : (((seat - r.first).toNat : Nat) : Int) = seat - r.first := Int.toNat_of_nonneg (by omega)
  rw [et] at r2
  have ea : ∀ W', oBin Tryz.prog .sub 3 false true (.int .i64 seat) (.int .i64 1) W' = some (.int .i64 (seat - 1), W') := fun W' => oBin_sub (by omega) (by omega)
  have eb : ∀ W', oBin Tryz.prog .add 3 false true (.int .i64 seat) (.int .i64 1) W' = some (.int .i64 (seat + 1), W') := fun W' => oBin_add (by omega) (by omega)
  have ec : ∀ W', oBin Tryz.prog .add 3 false true (.int .i64 (seat - r.first)) (.int .i64 1) W' = some (.int .i64 (seat - r.first + 1), W') := fun W' => oBin_add (by omega) (by omega)
  rw [← hm] at q2
  simp only [SX, decide_eq_true he, Nat.zero_add, ldR (o := 2) r2 rfl]
  by_cases t1 : seat - 1 < r.first
  · have u1 : ¬ (0 < seat - r.first) := by omega
    rw [if_pos t1]
    by_cases t2 : seat + 1 = r.first + r.many
    · have u2 : ¬ (seat - r.first + 1 < r.many) := by omega
      rw [if_pos t2]
      simp only [SX, decide_eq_false u1, Nat.zero_add, Nat.add_zero, ldR (o := 0) r2 rfl, ldR (o := 1) r2 rfl, ldR (o := 2) r2 rfl, ec, c3 _ l2, p1, p5 _ (.refl _), q1, q2 _ (.refl _), decide_eq_false u2, Ok_some]
      exact ⟨trivial, l02⟩
    · have u2 : seat - r.first + 1 < r.many := by omega
      rw [if_neg t2]
      simp only [SX, decide_eq_false u1, Nat.zero_add, Nat.add_zero, ldR (o := 0) r2 rfl, ldR (o := 1) r2 rfl, ldR (o := 2) r2 rfl, ec, c3 _ l2, p1, p5 _ (.refl _), q1, q2 _ (.refl _), decide_eq_true u2, eb, Ok_some]
      exact ⟨trivial, l02⟩
  · have u1 : (0 < seat - r.first) := by omega
    rw [if_neg t1]
    by_cases t2 : seat + 1 = r.first + r.many
    · have u2 : ¬ (seat - r.first + 1 < r.many) := by omega
      rw [if_pos t2]
      simp only [SX, decide_eq_true u1, ea, Nat.zero_add, Nat.add_zero, ldR (o := 0) r2 rfl, ldR (o := 1) r2 rfl, ldR (o := 2) r2 rfl, ec, c3 _ l2, p1, p5 _ (.refl _), q1, q2 _ (.refl _), decide_eq_false u2, Ok_some]
      exact ⟨trivial, l02⟩
    · have u2 : seat - r.first + 1 < r.many := by omega
      rw [if_neg t2]
      simp only [SX, decide_eq_true u1, ea, Nat.zero_add, Nat.add_zero, ldR (o := 0) r2 rfl, ldR (o := 1) r2 rfl, ldR (o := 2) r2 rfl, ec, c3 _ l2, p1, p5 _ (.refl _), q1, q2 _ (.refl _), decide_eq_true u2, eb, Ok_some]
      exact ⟨trivial, l02⟩
/-! ### Find -/
def findN (v : Ven) (name : List UInt8) : Int × Int := if (venE v).2 = 0 then (match v.secs.findIdx? (fun s => s.name == name) with
  | some i => ((i : Int), 0)
  | none => (0, 4)) else (0, (venE v).2)
theorem findName_ok {c : Nat} {m : List UInt8} {W : AW} (hc : ∀ W', Le W W' → ldC (.pointer (some ⟨c, 0, none⟩)) W' = some (.string (bytesL m), W')) (s : Sec) (rv : Value) :
    omS (.func (.func 44) #[] #[.pointer (some ⟨c, 0, none⟩)]) [secV s rv] W = some (.bool (s.name == m), W) := by
  refine om_drop rfl ?_ venue_Find_1_om
  unfold venue_Find_1
  have h0 := hc _ ((Le.refl W).add (.cells [.string (bytesL s.name), rv, .int .i64 s.q]))
  have h1 : ldC (.pointer (some ⟨W.next, 0, none⟩)) (W.add (.cells [.string (bytesL s.name), rv, .int .i64 s.q])) = some (.string (bytesL s.name), W.add (.cells [.string (bytesL s.name), rv, .int .i64 s.q])) := ldC_ok cellsAt_new rfl
  simp only [SX, oBox3, h0, h1, Nat.zero_add, str_eql, Ok_some]
  exact ⟨trivial, (Le.refl _).add _⟩
theorem venFind_ok {v : Ven} {sv : Value} {W : AW} {name : List UInt8} (hs : SecsC W sv v.secs) (hv : v.secs.length < 1000) : omS (.func (.func 28) #[] #[]) [venV v sv, .string (bytesL name)] W = some (.tuple #[.int .i64 (findN v name).1, .int .i64 (findN v name).2], W) := by
  refine om_drop rfl ?_ venue_Find_om
  unfold venue_Find findN
  obtain ⟨W1, hB, hle, hn, c4, c0, c3⟩ := venBox v sv W
  have l2 : Le W1 (W1.add (.cells [.string (bytesL name)])) := (Le.refl W1).add _
  have hc : ∀ W', Le (W1.add (.cells [.string (bytesL name)])) W' → ldC (.pointer (some ⟨W1.next, 0, none⟩)) W' = some (.string (bytesL name), W') := fun W' h => ldC_ok (by rw [h.cellsAt (by rw [AW.add_next]; omega)]; exact cellsAt_new) rfl
  simp only [SX, hB, oBox_string]
  generalize W1.add (.cells [.string (bytesL name)]) = W2 at *
  have l02 := hle.trans l2
  have hs2 := hs.mono l02
  simp only [SX, c4 _ l2, venCheck_ok hs2 hv]
  by_cases he : (venE v).2 = 0
  case neg =>
    simp only [SX, he, if_false, Ok_some]
    exact ⟨trivial, l02⟩
  simp only [SX, decide_eq_true he, if_pos he, c3 _ l2, idxSec_ok (p := fun s => s.name == name) hs2.1 hv (fun s rv => findName_ok hc s rv)]
  unfold idxI
  cases hf : v.secs.findIdx? (fun s => s.name == name) with
  | none =>
    simp only [SX, Int.reduceLT, decide_true, Ok_some]
    exact ⟨trivial, l02⟩
  | some i =>
    have : ¬ ((i : Int) < 0) := by omega
    simp only [SX, decide_eq_false this, Ok_some]
    exact ⟨trivial, l02⟩
theorem refFind_ok {v : Ven} {sv : Value} {W : AW} {name : List UInt8} (hs : Secs W sv v.secs) (hv : v.secs.length < 1000) (hr : ∀ s ∈ v.secs, s.rows.length < 1000) : omS (.func (.func 29) #[] #[]) [venV v sv, .string (bytesL name)] W = some (.tuple #[.int .i64 (findN v name).1, .int .i64 (findN v name).2], W) := by
  refine om_drop rfl ?_ ref15_Find_om
  unfold ref15_Find findN
  obtain ⟨W1, hB, hle, hn, c4, c0, c3⟩ := venBox v sv W
  have hs1 := hs.mono hle
  simp only [SX, hB, c4 _ (.refl _), refVen_ok hs1 hv hr]
  by_cases he : (venE v).2 = 0
  case neg =>
    simp only [SX, he, if_false, Ok_some]
    exact ⟨trivial, hle⟩
  have add1 : ∀ (k : Nat) (W' : AW), k < 1000000 → oBin Tryz.prog .add 3 false true (.int .i64 (k : Int)) (.int .i64 1) W' = some (.int .i64 ((k + 1 : Nat) : Int), W') := fun k W' hk => oBin_add (by omega) (by omega)
  simp only [SX, decide_eq_true he, if_pos he]
  refine Ok_loop v.secs.length (by omega) (fun i R W' => W' = W1 ∧ R 1 = .string (bytesL name) ∧ R 2 = .pointer (some ⟨W.next, 0, none⟩) ∧ R 8 = .int .i64 (i : Int) ∧ ∀ j (h : j < v.secs.length), j < i → (v.secs[j].name == name) = false)
    (fun q => q.2.2 = W1 ∧ ((q.1 = .exit 0 ∧ v.secs.findIdx? (fun s => s.name == name) = none) ∨ (q.1 = .ret ∧ ∃ i : Nat, v.secs.findIdx? (fun s => s.name == name) = some i ∧ q.2.1 4 = .int .i64 (i : Int) ∧ q.2.1 5 = .int .i64 0))) ⟨rfl, rfl, rfl, rfl, fun j _ h => by omega⟩ ?_ ?_ ?_
  · rintro i R W' hi ⟨rfl, f1, f2, f8, hj⟩
    unfold ref15_Find_L1
    have e1 : ((i : Int) < (v.secs.length : Int)) := by omega
    obtain ⟨b, o, rv, p1, -, -, p4, -, -⟩ := hs1.get hi
    simp only [SX, f1, f2, f8, Nat.zero_add, c3 _ (.refl _), hs1.len lenV, e1, decide_true, p1, Nat.add_zero, p4 _ (.refl _), str_eql]
    cases t : v.secs[i].name == name with
    | true =>
      have hf : v.secs.findIdx? (fun s => s.name == name) = some i := List.findIdx?_eq_some_iff_getElem.2 ⟨hi, t, fun j hji => by simp [hj j (by omega) hji]⟩
      simp only [SX, f8, Ok_some]
      exact .inr ⟨by simp, trivial, .inr ⟨trivial, i, hf, rfl, rfl⟩⟩
    | false =>
      simp only [SX, f8, add1 i _ (by omega), Ok_some]
      refine .inl ⟨trivial, trivial, f1, f2, rfl, fun j hjl hji => ?_⟩
      by_cases hji2 : j < i
      · exact hj j hjl hji2
      · obtain rfl : j = i := by omega
        exact t
  · rintro R W' ⟨rfl, f1, f2, f8, hj⟩
    unfold ref15_Find_L1
    have e1 : ¬ ((v.secs.length : Int) < (v.secs.length : Int)) := by omega
    simp only [SX, f2, f8, Nat.zero_add, c3 _ (.refl _), hs1.len lenV, e1, decide_false, Ok_some]
    refine ⟨by simp, trivial, .inl ⟨trivial, ?_⟩⟩
    rw [List.findIdx?_eq_none_iff]
    intro x hx
    obtain ⟨j, hj2, rfl⟩ := List.getElem_of_mem hx
    exact hj j hj2 hj2
  · rintro ⟨x, R, W'⟩ ⟨hW, hq⟩
    simp only at hW hq
    subst hW
    rcases hq with ⟨rfl, h⟩ | ⟨rfl, i, h, f4, f5⟩
    · rw [h]
      simp only [SX, Ok_some]
      exact ⟨trivial, hle⟩
    · rw [h]
      simp only [SX, f4, f5, Ok_some]
      exact ⟨trivial, hle⟩
end Go.Proofs.YtfcfglpkgcheiaaGreatDoor
/- VenueChecks, VenuePlaces, VenueSides: what they answer. -/
namespace Go.Proofs.YtfcfglpkgcheiaaGreatDoor
open Go Go.Eng
set_option linter.unusedVariables false
set_option linter.unusedSimpArgs false
set_option linter.unusedSectionVars false
set_option maxRecDepth 100000
theorem near_rows {v : Ven} (h : Near v) : v.secs.length < 1000 ∧ ∀ s ∈ v.secs, s.rows.length < 1000 := ⟨by have := h.1; omega, fun s hs => by have := h.2.1 s hs; omega⟩
theorem ints_ok {a b : Value} {la lb : List Int} {W : AW} (ha : Ints W a la) (hb : Ints W b lb) (hl : la.length < 900000) : omS (.func (.func 30) #[] #[]) [a, b] W = some (.bool (decide (la = lb)), W) := Ints_ok ha hb hl
theorem venueSides_om {v : Ven} {sv : Value} {W : AW} {seat : Int} {name : List UInt8} (hs : SecsC W sv v.secs) (hG : GW W) : omS (.func (.func 5) #[] #[]) [venV v sv, .int .i64 seat, .string (bytesL name)] W = some (.bool true, W) := by
  refine om_drop rfl ?_ law15_VenueSides_om
  unfold law15_VenueSides
  obtain ⟨W1, hB, hle, hn, c4, c0, c3⟩ := venBox v sv W
  have hs1 := hs.mono hle
  have hG1 := hG.mono hle
  obtain ⟨bb, w1, w2⟩ := far_ok hs1.1
  simp only [SX, hB, c4 _ (.refl _), w1]
  cases bb
  case true =>
    simp only [SX, awake_ok hG1, Ok_some]
    exact ⟨trivial, hle⟩
  simp only [SX, str_len len9]
  by_cases t0 : 100 < (name.length : Int)
  · simp only [SX, decide_eq_true t0, awake_ok hG1, Ok_some]
    exact ⟨trivial, hle⟩
  obtain ⟨hv, hr⟩ := near_rows (w2 rfl)
  obtain ⟨u, W2, g1, g2, g3⟩ := cover_ok (sec := seat) hs1 hv
  obtain ⟨u', W3, g1', g2', g3'⟩ := refCover_ok (sec := seat) (hs1.mono g2).1 hv hr
  have l3 := g2.trans g2'
  have hs3 := hs1.mono l3
  have hlen : (coverE v seat).1.length < 900000 := by
    unfold coverE
    split
    · rename_i h
      have := venE_sh (ofE_zero h).1
      rw [sortL_len, covL_len]; omega
    · simp
  simp only [SX, decide_eq_false t0, c4 _ (.refl _), sides_ok hs1 hv, refSides_ok hs1.1 hv hr, shard_ok hs1 hv, refShard_ok hs1.1 hv hr, decide_true, g1, c4 _ g2, g1', c4 _ l3, lock_ok hs3 hv, refLock_ok hs3.1 hv hr, venFind_ok hs3 hv, refFind_ok hs3.1 hv hr,
    ints_ok (g3.mono g2') g3' hlen, awake_ok (hG1.mono l3), Ok_some]
  exact ⟨trivial, hle.trans l3⟩
end Go.Proofs.YtfcfglpkgcheiaaGreatDoor
/- A venue that is handed in, opened. -/
namespace Go.Proofs.YtfcfglpkgcheiaaGreatDoor
open Go Go.Eng Go.RowKit
set_option linter.unusedVariables false
set_option linter.unusedSimpArgs false
set_option maxRecDepth 100000
theorem sec_of {W : AW} {n : Nat} {c : List Value} (h : DR Tryz.prog W (n + 3) 28 c) : ∃ s : Sec, ∀ pre post, SecAt W (pre ++ (c ++ post)) pre.length s := by
  obtain ⟨c1, c2, rfl, h1, h2⟩ := (h.struct Tryz.underlying28).cons
  obtain ⟨c3, c4, rfl, h3, h4⟩ := h2.cons
  obtain ⟨c5, c6, rfl, h5, h6⟩ := h4.cons
  obtain rfl := h6.nil
  obtain ⟨s, rfl, _⟩ := h1.str Tryz.underlying9
  obtain ⟨rv, zs, rfl, hz, _⟩ := h3.ints Tryz.underlying26 Tryz.underlying3 (by kernel_rfl)
  obtain ⟨q, rfl⟩ := h5.int Tryz.underlying3
  refine ⟨⟨s.data.toList, zs, q⟩, fun pre post => ⟨?_, ?_, rv, ?_, hz⟩⟩
  · rw [List.getElem?_append_right (by omega), bytesL_back]; simp
  · rw [List.getElem?_append_right (by omega), Nat.add_sub_cancel_left]; rfl
  · rw [List.getElem?_append_right (by omega), Nat.add_sub_cancel_left]; rfl
theorem ven_of {W : AW} {n : Nat} {c : List Value} (h : DR Tryz.prog W (n + 5) 24 c) : ∃ (v : Ven) (sv : Value), c = [.int .i64 v.sh, .int .i64 v.ttl, .int .i64 v.ses, sv] ∧ SecsC W sv v.secs := by
  obtain ⟨c1, c2, rfl, h1, h2⟩ := (h.struct Tryz.underlying24).cons
  obtain ⟨c3, c4, rfl, h3, h4⟩ := h2.cons
  obtain ⟨c5, c6, rfl, h5, h6⟩ := h4.cons
  obtain ⟨c7, c8, rfl, h7, h8⟩ := h6.cons
  obtain rfl := h8.nil
  obtain ⟨a, rfl⟩ := h1.int Tryz.underlying3
  obtain ⟨b, rfl⟩ := h3.int Tryz.underlying2
  obtain ⟨d, rfl⟩ := h5.int Tryz.underlying2
  obtain ⟨sv, l, rfl, hr⟩ := h7.row Tryz.underlying22 (at_ := SecAt W) (fun c _ hc => sec_of hc)
  exact ⟨⟨a, b, d, l⟩, sv, rfl, hr⟩
section
variable {H : Type} {enc : TypeId × Value → H} {w : World} {σ : Inj} {W : AW} {v0 : Value} {d : DataW H} {p : List MemPlace} {r : Reach} {b0 : Nat}
theorem agg_of {t : TypeId} {fs : Array Field} (ht : Tryz.prog.underlying t = some (.struct fs)) (hv : Value.okWide Tryz.prog w r b0 t v0) : ∃ cs, v0 = .agg cs := by
  unfold Value.okWide at hv
  rw [ht] at hv
  obtain ⟨cs, h, _⟩ := hv
  exact ⟨cs, h⟩
theorem sim36 : simT Tryz.prog 6 24 = true := by kernel_rfl
theorem openVen (ho : Opened σ W w) (hv : Value.okWide Tryz.prog w r b0 24 v0) (h : DataW.Trod enc Tryz.prog w 0 (fun _ => true) true 24 v0 d p) :
    ∃ (σ2 : Inj) (W2 : AW) (v : Ven) (sv : Value), Opened σ2 W2 w ∧ Sub σ σ2 ∧ Le W W2 ∧ VR σ2 (venV v sv) v0 ∧ SecsC W2 sv v.secs := by
  obtain ⟨cs, rfl⟩ := agg_of Tryz.underlying24 hv
  obtain ⟨m, hm⟩ := h
  obtain ⟨σ2, W2, cs2, o2, s2, l2, r2, a2⟩ := opens_trod sim36 hm σ W ho
  obtain ⟨v, sv, rfl, hs⟩ := ven_of a2
  exact ⟨σ2, W2, v, sv, o2, s2, l2, .agg' (a := #[.int .i64 v.sh, .int .i64 v.ttl, .int .i64 v.ses, sv]) r2, hs⟩
end
theorem openStr {w : World} {v0 : Value} {r : Reach} {b0 : Nat} {t : TypeId} (ht : Tryz.prog.underlying t = some .string) (hv : Value.okWide Tryz.prog w r b0 t v0) : ∃ l : List UInt8, v0 = .string (bytesL l) := by
  obtain ⟨s, rfl⟩ := Go.WideShapes.okWide_string ht hv
  exact ⟨s.data.toList, by rw [bytesL_back]⟩
theorem openG {w : World} (hl : LaidG globW w.heap) : Opened (σG globW) (WG globW 4) w := ⟨rel_G rfl hl, allRo_G, 0, _, rfl⟩
theorem gw_W : GW (WG globW 4) := globW_G rfl (fun x hx => by
  have h2 : x = (0, pow10V) ∨ x = (2, bru32V) ∨ x = (3, bru64V) := by simpa [globW] using hx
  rcases h2 with rfl | rfl | rfl <;> rfl)
theorem gw_le {W : AW} (h : Le (WG globW 4) W) : GW W := gw_W.mono h
theorem kidsT : Kids Tryz.prog (· < Tryz.prog.types.size) := kids_rows (by kernel_rfl) (by kernel_rfl)
theorem fullT : ∀ t e, t < Tryz.prog.types.size → Tryz.prog.underlying t = some (.slice e) → 0 < Tryz.prog.cellsOf e := slices_full_of Tryz.prog (by kernel_rfl)
/-- what is opened is called -/
theorem open_calls (hok : CalleeOK Tryz.prog PlanTab.ng omS) {w : World} {σ : Inj} {W : AW} (ho : Opened σ W w) (hs : Sub (σG globW) σ) {i : Nat} {args args' : List Value} (hr : LR σ args args') (h : omS (.func (.func i) #[] #[]) args W = some (.bool true, W)) :
    Calls Tryz.prog i args'.toArray w fun e w' => e = .returned (.bool true) ∧ Quiet w w' := by
  have hG : Glob σ [0, 2, 3] := fun g hg => by
    obtain ⟨e, he⟩ := (glob_G (gs := globW) (ng := [0, 2, 3]) rfl) g hg
    exact ⟨e, hs _ _ he⟩
  exact om_calls hok ho.rel hG ho.ro hr rfl h
end Go.Proofs.YtfcfglpkgcheiaaGreatDoor
