/- Contracts of functions, and their laws. -/
import Derived.Test.YtnigceddndemkaaGreatDoorSDec
import Derived.Test.YtnigceddndemkaaGreatDoorOpnA
import Derived.KernelRfl
namespace Go.Proofs.YtnigceddndemkaaGreatDoor
open Go Go.Eng
set_option linter.unusedVariables false
set_option linter.unusedSimpArgs false
theorem lenI : ((#[69] : Array TypeId)[0]?).bind Tryz.prog.underlying = some (.slice 3) := by kernel_rfl
theorem lenS : ((#[22] : Array TypeId)[0]?).bind Tryz.prog.underlying = some (.slice 130) := by kernel_rfl
def outB (n lo hi : Int) : Bool := decide (n < lo) || decide (hi < n)
theorem outsideint_ok (n lo hi : Int) (W : AW) : omS (.func (.func 187) #[] #[]) [.int .i64 n, .int .i64 lo, .int .i64 hi] W = some (.bool (outB n lo hi), W) := by
  have h : venue_outsideint omS (.int .i64 n) (.int .i64 lo) (.int .i64 hi) W = some (.bool (outB n lo hi), W) := by
    unfold venue_outsideint outB
    by_cases h : n < lo <;> simp only [SX, h, Bool.true_or, Bool.false_or]
  rw [venue_outsideint_om h, gc_bool (.refl _)]
theorem outsideint64_ok (n lo hi : Int) (W : AW) : omS (.func (.func 188) #[] #[]) [.int .i64 n, .int .i64 lo, .int .i64 hi] W = some (.bool (outB n lo hi), W) := by
  have h : venue_outsideint64 omS (.int .i64 n) (.int .i64 lo) (.int .i64 hi) W = some (.bool (outB n lo hi), W) := by
    unfold venue_outsideint64 outB
    by_cases h : n < lo <;> simp only [SX, h, Bool.true_or, Bool.false_or]
  rw [venue_outsideint64_om h, gc_bool (.refl _)]
def inB (n lo hi : Int) : Bool := decide (lo ≤ n) && decide (n ≤ hi)
theorem inB_not (n lo hi : Int) : inB n lo hi = !outB n lo hi := by
  unfold inB outB
  rw [Bool.eq_iff_iff]; simp
theorem within_ok (n lo hi : Int) (W : AW) : omS (.func (.func 163) #[] #[]) [.int .i64 n, .int .i64 lo, .int .i64 hi] W = some (.bool (inB n lo hi), W) := by
  have h : ref15_within omS (.int .i64 n) (.int .i64 lo) (.int .i64 hi) W = some (.bool (inB n lo hi), W) := by
    unfold ref15_within inB
    by_cases h : lo ≤ n <;> simp only [SX, h, Bool.true_and, Bool.false_and]
  rw [ref15_within_om h, gc_bool (.refl _)]
theorem Ints_ok {a b : Value} {la lb : List Int} {W : AW} (ha : Ints W a la) (hb : Ints W b lb) (hl : la.length < 900000) : omS (.func (.func 33) #[] #[]) [a, b] W = some (.bool (decide (la = lb)), W) := by
  refine om_drop rfl ?_ ref15_Ints_om
  unfold ref15_Ints
  simp only [SX, ha.len lenI, hb.len lenI]
  by_cases hlen : la.length = lb.length
  · have e : ((la.length : Int) = (lb.length : Int)) := by omega
    simp only [SX, e]
    refine Ok_loop la.length (by omega) (fun k R W' => W' = W ∧ R 0 = a ∧ R 1 = b ∧ R 5 = .int .i64 (k : Int) ∧ la.take k = lb.take k)
        (fun r => r.2.2 = W ∧ ((r.1 = .exit 0 ∧ la = lb) ∨ (r.1 = .ret ∧ r.2.1 4 = .bool false ∧ la ≠ lb))) ⟨rfl, rfl, rfl, rfl, rfl⟩ ?_ ?_ ?_
    · rintro k R W' hk ⟨rfl, h0, h1, h5, ht⟩
      unfold ref15_Ints_L1
      obtain ⟨p, p1, p2⟩ := ha.get hk
      obtain ⟨q, q1, q2⟩ := hb.get (i := k) (by omega)
      have e1 : ((k : Int) < (la.length : Int)) := by omega
      simp only [SX, h0, h1, h5, ha.len lenI, e1, p1, p2 _ (.refl _), q1, q2 _ (.refl _)]
      by_cases hx : la[k] = lb[k]'(by omega)
      · have e2 : (k : Int) + 1 = ((k + 1 : Nat) : Int) := by omega
        simp only [SX, hx, oBin_add (show -9223372036854775808 ≤ (k : Int) + 1 by omega) (show (k : Int) + 1 < 9223372036854775808 by omega), Ok_some]
        refine .inl ⟨trivial, trivial, h0, h1, by rw [← e2]; rfl, ?_⟩
        rw [List.take_succ_eq_append_getElem hk, List.take_succ_eq_append_getElem (by omega), ht, hx]
      · simp only [SX, hx, decide_false, Ok_some]
        refine .inr ⟨by simp, trivial, .inr ⟨trivial, rfl, fun e => hx (by simp only [e])⟩⟩
    · rintro R W' ⟨rfl, h0, h1, h5, ht⟩
      unfold ref15_Ints_L1
      have e1 : ¬ ((la.length : Int) < (la.length : Int)) := by omega
      simp only [SX, h0, h1, h5, ha.len lenI, e1, Ok_some]
      refine ⟨by simp, trivial, .inl ⟨trivial, ?_⟩⟩
      rw [List.take_length] at ht
      rw [ht, hlen, List.take_length]
    · rintro ⟨x, R, W'⟩ ⟨hW, h⟩
      simp only at hW h
      subst hW
      rcases h with ⟨rfl, h⟩ | ⟨rfl, h4, h⟩
      · simp only [SX, Ok_some, h]
        exact ⟨trivial, .refl _⟩
      · simp only [SX, Ok_some, h4, h]
        exact ⟨trivial, .refl _⟩
  · have e : ¬ ((la.length : Int) = (lb.length : Int)) := by omega
    have e2 : la ≠ lb := fun h => hlen (by rw [h])
    simp only [SX, e, e2, Ok_some]
    exact ⟨trivial, .refl _⟩
end Go.Proofs.YtnigceddndemkaaGreatDoor
namespace Go.Proofs.YtnigceddndemkaaGreatDoor
open Go Go.Eng
set_option linter.unusedVariables false
set_option linter.unusedSimpArgs false
set_option maxRecDepth 100000
theorem un9 : Tryz.prog.underlying 9 = some .string := by kernel_rfl
theorem len9 : ((#[9] : Array TypeId)[0]?).bind Tryz.prog.underlying = some .string := by kernel_rfl
def setL (l : List UInt8) : List Value := (List.range 256).map fun i => .bool (l.any fun c => c.toNat == i)
theorem setL_len (l : List UInt8) : (setL l).length = 256 := by simp [setL]
theorem setL_get (l : List UInt8) {i : Nat} (h : i < 256) : (setL l)[i]? = some (.bool (l.any fun c => c.toNat == i)) := by simp [setL, h]
theorem setL_one (l : List UInt8) : (setL l).all Eng.one = true := by
  unfold setL
  rw [List.all_map, List.all_eq_true]
  intro x _
  rfl
theorem setL_plain (l : List UInt8) : (plain (.tuple #[.agg (setL l).toArray, .bool true]) && !isU (.tuple #[.agg (setL l).toArray, .bool true])) = true := by
  have h : plain1 (.agg (setL l).toArray) = true := by
    show (setL l).toArray.toList.all scalar = true
    unfold setL
    rw [List.toList_toArray, List.all_map, List.all_eq_true]
    intro x _
    rfl
  have h2 : plain (.tuple #[.agg (setL l).toArray, .bool true]) = true := by
    show (plain1 (.agg (setL l).toArray) && (plain1 (.bool true) && true)) = true
    rw [h]; rfl
  rw [h2]; rfl
theorem setL_set (l : List UInt8) (c : UInt8) : (setL l).set c.toNat (.bool true) = setL (l ++ [c]) := by
  apply List.ext_getElem?
  intro i
  by_cases hi : i < 256
  · rw [List.getElem?_set, setL_get _ hi, setL_get _ hi, setL_len]
    by_cases hc : c.toNat = i
    · rw [if_pos hc, if_pos (by omega)]
      simp [hc]
    · rw [if_neg hc]
      have : (c.toNat == i) = false := by simpa using hc
      simp [this]
  · rw [List.getElem?_eq_none (by rw [List.length_set, setL_len]; omega), List.getElem?_eq_none (by rw [setL_len]; omega)]
theorem al156 (W : AW) : oAlloc Tryz.prog 398 W = some (.pointer (some ⟨W.next, 0, none⟩), W.add (.cells (setL []))) := Eq.trans (by kernel_rfl) rfl
theorem oL156 (x : Value) (W : AW) : oLoad Tryz.prog 398 x W = ldA 256 x W := by kernel_rfl
theorem setHas_ok {b : Nat} {l : List UInt8} {W : AW} (hb : cellsAt W b = some (setL l)) (c : UInt8) : omS (.func (.func 327) #[] #[]) [.pointer (some ⟨b, 0, none⟩), .int .u8 (c.toNat : Int)] W = some (.bool (l.any fun x => x == c), W) := by
  refine om_drop rfl ?_ strings_asciiSet_contains_om
  unfold strings_asciiSet_contains
  have hc : c.toNat < 256 := c.toNat_lt
  simp only [SX, oNilCheck_ptr, ixA_ok hc, ldC_eq, hb, Option.bind_some, Nat.mul_one, Nat.zero_add, setL_get l hc, Option.map_some, Ok_some]
  refine ⟨?_, .refl _⟩
  congr 2
  funext x
  rw [Bool.eq_iff_iff]; simp [UInt8.toNat_inj]
theorem mkSet_ok {l : List UInt8} (hl : l.length < 1000) (ha : ∀ c ∈ l, c.toNat < 128) (W : AW) : omS (.func (.func 305) #[] #[]) [.string (bytesL l)] W = some (.tuple #[.agg (setL l).toArray, .bool true], W) := by
  refine om_drop (setL_plain l) ?_ strings_makeASCIISet_om
  unfold strings_makeASCIISet
  simp only [SX, al156]
  refine Ok_loop l.length (by omega) (fun k R W' => R 0 = .string (bytesL l) ∧ R 2 = .pointer (some ⟨W.next, 0, none⟩) ∧ R 4 = .int .i64 (k : Int) ∧ rwCells W' W.next = some (setL (l.take k)) ∧ Le W W')
        (fun r => r.1 = .exit 0 ∧ r.2.1 2 = .pointer (some ⟨W.next, 0, none⟩) ∧ rwCells r.2.2 W.next = some (setL l) ∧ Le W r.2.2) ⟨rfl, rfl, rfl, rwCells_new, (Le.refl _).add _⟩ ?_ ?_ ?_
  · rintro k R W' hk ⟨h0, h2, h4, hb, hle⟩
    unfold strings_makeASCIISet_L1
    have hc : l[k].toNat < 128 := ha _ (List.getElem_mem hk)
    have e1 : ((k : Int) < (l.length : Int)) := by omega
    have e2 : ¬ (128 : Int) ≤ (l[k].toNat : Int) := by omega
    simp only [SX, h0, h2, h4, str_len len9, e1, str_index un9 hk, e2, ixA_ok (show l[k].toNat < 256 by omega), stV_bool, hb, Option.bind_some, Nat.mul_one, Nat.zero_add, setL_len, show l[k].toNat < 256 by omega, if_true, setL_set,
      oBin_add (show -9223372036854775808 ≤ (k : Int) + 1 by omega) (show (k : Int) + 1 < 9223372036854775808 by omega), Ok_some]
    have e2 : (k : Int) + 1 = ((k + 1 : Nat) : Int) := by omega
    refine .inl ⟨trivial, h0, h2, by rw [← e2]; rfl, ?_, hle.put (Nat.le_refl _) _⟩
    rw [rwCells_put, ← List.take_append_getElem hk]
  · rintro R W' ⟨h0, h2, h4, hb, hle⟩
    unfold strings_makeASCIISet_L1
    have e1 : ¬ ((l.length : Int) < (l.length : Int)) := by omega
    simp only [SX, h0, h2, h4, str_len len9, e1, Ok_some]
    rw [List.take_length] at hb
    exact ⟨by simp, trivial, h2, hb, hle⟩
  · rintro ⟨x, R, W'⟩ ⟨rfl, h2, hb, hle⟩
    simp only at h2 hb hle
    have h1 := stV_all hb (setL_one l)
    rw [setL_len] at h1
    have h3 := ldA_all (rwCells_cellsAt hb) (setL_len l)
    have h4 := ldA_all (W := W'.put W.next (.cells (setL l))) (cellsAt_put _) (setL_len l)
    simp only [SX, h2, h3, h1, oRes_L1n, oL156, h4, Option.bind_some, Ok_some]
    exact ⟨trivial, hle.put (Nat.le_refl _) _⟩
def rtrim (p : UInt8 → Bool) (l : List UInt8) : List UInt8 := (l.reverse.dropWhile p).reverse
theorem drop_all {p : UInt8 → Bool} : ∀ {l : List UInt8} {k : Nat}, (∀ c ∈ l.take k, p c = true) → (l.drop k).dropWhile p = l.dropWhile p
  | l, 0, _ => by simp
  | [], k + 1, _ => by simp
  | c :: l, k + 1, h => by
    have hc : p c = true := h c (by simp)
    rw [List.drop_succ_cons, List.dropWhile_cons, if_pos hc]
    exact drop_all fun d hd => h d (by simp [hd])
abbrev inS (S : List UInt8) (c : UInt8) : Bool := S.any fun x => x == c
theorem trimL_ok {b : Nat} {S l : List UInt8} {W : AW} (hb : cellsAt W b = some (setL S)) (hl : l.length < 1000) : omS (.func (.func 306) #[] #[]) [.string (bytesL l), .pointer (some ⟨b, 0, none⟩)] W = some (.string (bytesL (l.dropWhile (inS S))), W) := by
  refine om_drop rfl ?_ strings_trimLeftASCII_om
  unfold strings_trimLeftASCII
  simp only [SX]
  refine Ok_loop l.length (by omega) (fun k R W' => W' = W ∧ R 0 = .string (bytesL (l.drop k)) ∧ R 1 = .pointer (some ⟨b, 0, none⟩) ∧ ∀ c ∈ l.take k, inS S c = true)
        (fun r => r.2.2 = W ∧ r.1 = .exit 0 ∧ r.2.1 0 = .string (bytesL (l.dropWhile (inS S)))) ⟨rfl, rfl, rfl, by simp⟩ ?_ ?_ ?_
  · rintro k R W' hk ⟨rfl, h0, h1, ha⟩
    unfold strings_trimLeftASCII_L1
    have hd : l.drop k = l[k] :: l.drop (k + 1) := List.drop_eq_getElem_cons hk
    have e1 : (0 : Int) < ((l.drop k).length : Int) := by rw [List.length_drop]; omega
    have e0 : oIndex Tryz.prog 9 (.string (bytesL (l.drop k))) (.int .i64 0) W' = some (.int .u8 (l[k].toNat : Int), W') := by
      have := str_index (P := Tryz.prog) (W := W') (k := .i64) un9 (l := l.drop k) (i := 0) (by rw [List.length_drop]; omega)
      simpa using this
    have e3 : oSlice Tryz.prog 9 (.string (bytesL (l.drop k))) (some (.int .i64 1)) none none W' = some (.string (bytesL (l.drop (k + 1))), W') := by
      have := str_from (P := Tryz.prog) (W := W') (k := .i64) un9 (l := l.drop k) (a := 1) (by rw [List.length_drop]; omega)
      rw [List.drop_drop] at this
      exact this
    simp only [SX, h0, h1, str_len len9, e1, e0, setHas_ok hb, e3]
    cases hp : inS S l[k]
    · simp only [SX, show (S.any fun x => x == l[k]) = false from hp, Ok_some]
      refine .inr ⟨by simp, trivial, trivial, ?_⟩
      show R 0 = _
      rw [h0, ← drop_all ha, hd, List.dropWhile_cons, hp]; rfl
    · simp only [SX, show (S.any fun x => x == l[k]) = true from hp, Ok_some]
      refine .inl ⟨trivial, trivial, rfl, h1, ?_⟩
      rw [← List.take_append_getElem hk]
      intro c hc
      rcases List.mem_append.1 hc with h | h
      · exact ha c h
      · rw [List.mem_singleton.1 h]; exact hp
  · rintro R W' ⟨rfl, h0, h1, ha⟩
    unfold strings_trimLeftASCII_L1
    rw [List.drop_length] at h0
    have e1 : ¬ (0 : Int) < (([] : List UInt8).length : Int) := by simp
    simp only [SX, h0, h1, str_len len9, e1, Ok_some]
    refine ⟨by simp, trivial, trivial, ?_⟩
    show R 0 = _
    rw [h0, ← drop_all ha, List.drop_length]; rfl
  · rintro ⟨x, R, W'⟩ ⟨hW, hx, h0⟩
    simp only at hW hx h0
    subst hW hx
    simp only [SX, Ok_some, h0]
    exact ⟨trivial, .refl _⟩
theorem rtrim_take {p : UInt8 → Bool} {l : List UInt8} {n : Nat} (h : ∀ c ∈ l.drop n, p c = true) : rtrim p (l.take n) = rtrim p l := by
  unfold rtrim
  have h2 : l.reverse = (l.drop n).reverse ++ (l.take n).reverse := by rw [← List.reverse_append, List.take_append_drop]
  have h3 := drop_all (p := p) (l := l.reverse) (k := (l.drop n).reverse.length) (by
    rw [h2, List.take_left]
    intro c hc
    exact h c (List.mem_reverse.1 hc))
  rw [← h3, h2, List.drop_left]
theorem trimR_ok {b : Nat} {S l : List UInt8} {W : AW} (hb : cellsAt W b = some (setL S)) (hl : l.length < 1000) : omS (.func (.func 307) #[] #[]) [.string (bytesL l), .pointer (some ⟨b, 0, none⟩)] W = some (.string (bytesL (rtrim (inS S) l)), W) := by
  refine om_drop rfl ?_ strings_trimRightASCII_om
  unfold strings_trimRightASCII
  simp only [SX]
  refine Ok_loop l.length (by omega) (fun k R W' => W' = W ∧ R 0 = .string (bytesL (l.take (l.length - k))) ∧ R 1 = .pointer (some ⟨b, 0, none⟩) ∧ ∀ c ∈ l.drop (l.length - k), inS S c = true)
        (fun r => r.2.2 = W ∧ r.1 = .exit 0 ∧ r.2.1 0 = .string (bytesL (rtrim (inS S) l))) ⟨rfl, by simp; rfl, rfl, by simp⟩ ?_ ?_ ?_
  · rintro k R W' hk ⟨rfl, h0, h1, ha⟩
    unfold strings_trimRightASCII_L1
    obtain ⟨m, hm⟩ : ∃ m, l.length - k = m + 1 := ⟨l.length - k - 1, by omega⟩
    have hm2 : l.length - (k + 1) = m := by omega
    have hml : m < l.length := by omega
    rw [hm] at h0 ha
    have hlen : (l.take (m + 1)).length = m + 1 := by rw [List.length_take]; omega
    have e1 : (0 : Int) < (((m + 1 : Nat) : Int)) := by omega
    have e2 : ((m + 1 : Nat) : Int) - 1 = (m : Int) := by omega
    have e0 : oIndex Tryz.prog 9 (.string (bytesL (l.take (m + 1)))) (.int .i64 (m : Int)) W' = some (.int .u8 (l[m].toNat : Int), W') := by
      have := str_index (P := Tryz.prog) (W := W') (k := .i64) un9 (l := l.take (m + 1)) (i := m) (by rw [List.length_take]; omega)
      simpa using this
    have e3 : oSlice Tryz.prog 9 (.string (bytesL (l.take (m + 1)))) none (some (.int .i64 (m : Int))) none W' = some (.string (bytesL (l.take m)), W') := by
      have := str_to (P := Tryz.prog) (W := W') (k := .i64) un9 (l := l.take (m + 1)) (a := m) (by rw [List.length_take]; omega)
      rw [List.take_take, Nat.min_eq_left (by omega)] at this
      exact this
    have es := oBin_sub (P := Tryz.prog) (W := W') (t := 3) (c := false) (d := true) (a := ((m + 1 : Nat) : Int)) (b := 1) (by omega) (by omega)
    rw [e2] at es
    simp only [SX, h0, h1, str_len len9, hlen, e1, es, e0, setHas_ok hb, e3]
    cases hp : inS S l[m]
    · simp only [SX, show (S.any fun x => x == l[m]) = false from hp, Ok_some]
      refine .inr ⟨by simp, trivial, trivial, ?_⟩
      show R 0 = _
      rw [h0, ← rtrim_take ha, ← List.take_append_getElem hml]
      unfold rtrim
      rw [List.reverse_append, List.reverse_singleton, List.singleton_append, List.dropWhile_cons, hp]
      simp
    · simp only [SX, show (S.any fun x => x == l[m]) = true from hp, Ok_some]
      refine .inl ⟨trivial, trivial, by rw [hm2]; rfl, h1, ?_⟩
      rw [hm2, List.drop_eq_getElem_cons hml]
      intro c hc
      rcases List.mem_cons.1 hc with h | h
      · rw [h]; exact hp
      · exact ha c h
  · rintro R W' ⟨rfl, h0, h1, ha⟩
    unfold strings_trimRightASCII_L1
    rw [Nat.sub_self, List.take_zero] at h0
    rw [Nat.sub_self, List.drop_zero] at ha
    have e1 : ¬ (0 : Int) < (([] : List UInt8).length : Int) := by simp
    simp only [SX, h0, h1, str_len len9, e1, Ok_some]
    refine ⟨by simp, trivial, trivial, ?_⟩
    show R 0 = _
    rw [h0, ← rtrim_take (n := 0) (by simpa using ha)]; rfl
  · rintro ⟨x, R, W'⟩ ⟨hW, hx, h0⟩
    simp only at hW hx h0
    subst hW hx
    simp only [SX, Ok_some, h0]
    exact ⟨trivial, .refl _⟩
theorem dropW_nil {p : UInt8 → Bool} : ∀ {l : List UInt8}, l.dropWhile p = [] ↔ ∀ c ∈ l, p c = true
  | [] => by simp
  | c :: l => by
    rw [List.dropWhile_cons]
    cases hp : p c
    · simp [hp]
    · simp [hp, dropW_nil]
theorem trim_nil {p : UInt8 → Bool} {l : List UInt8} : (((rtrim p l).dropWhile p) == []) = l.all p := by
  rw [Bool.eq_iff_iff, beq_iff_eq, dropW_nil, List.all_eq_true]
  unfold rtrim
  constructor
  · intro h
    have h2 : l.reverse.dropWhile p = [] := by
      cases hd : l.reverse.dropWhile p with
      | nil => rfl
      | cons x xs =>
        have := List.head_dropWhile_not (p := p) (l := l.reverse) (by rw [hd]; simp)
        rw [hd] at h
        have h3 := h x (by simp)
        simp only [hd, List.head_cons] at this
        rw [h3] at this; cases this
    rw [dropW_nil] at h2
    exact fun c hc => h2 c (List.mem_reverse.2 hc)
  · intro h c hc
    exact h c (by
      have := List.mem_reverse.1 hc
      have := (List.dropWhile_sublist p).subset this
      exact List.mem_reverse.1 this)
def charsN : List Nat := [97, 98, 99, 100, 101, 102, 103, 104, 105, 106, 107, 108, 109, 110, 111, 112, 113, 114, 115, 116, 117, 118, 119, 120, 121, 122, 48, 49, 50, 51, 52, 53, 54, 55, 56, 57, 45]
def charsL : List UInt8 := charsN.map UInt8.ofNat
theorem charsL_in : ∀ n, n < 256 → inS charsL (UInt8.ofNat n) = nameC (UInt8.ofNat n) := by decide +kernel
theorem charsL_name (c : UInt8) : inS charsL c = nameC c := by
  have := charsL_in c.toNat c.toNat_lt
  rwa [UInt8.ofNat_toNat] at this
theorem trim_ok {l : List UInt8} (hl : l.length < 1000) (h0 : l ≠ []) (W : AW) : omS (.func (.func 271) #[] #[]) [.string (bytesL l), strV charsN] W = some (.string (bytesL ((rtrim (inS charsL) l).dropWhile (inS charsL))), W) := by
  refine om_drop rfl ?_ strings_Trim_om
  unfold strings_Trim
  have hs := mkSet_ok (l := charsL) (by decide) (by decide +kernel) W
  have e1 : (l == []) = false := by simpa using h0
  have e2 : (charsL == []) = false := by decide +kernel
  have e3 : ¬ ((charsL.length : Int) = 1) := by decide +kernel
  have hz : (setL []).length = 256 := setL_len []
  have hst : stV 256 (.pointer (some ⟨W.next, 0, none⟩)) (.agg (setL charsL).toArray) (W.add (.cells (setL []))) = some (undef, (W.add (.cells (setL []))).put W.next (.cells (setL charsL))) := by
    rw [stV_agg, rwCells_new]
    simp only [Option.bind_some, List.size_toArray, setL_len, Nat.zero_add, Nat.le_refl, setL_one, and_self, if_true, setN, List.take_zero, List.nil_append]
    rw [List.drop_of_length_le (by simp [setL_len]), List.append_nil]
  have hc : cellsAt ((W.add (.cells (setL []))).put W.next (.cells (setL charsL))) W.next = some (setL charsL) := cellsAt_put _
  have hr := trimR_ok (l := l) hc hl
  have hlt : (rtrim (inS charsL) l).length < 1000 := by
    have := (List.dropWhile_sublist (inS charsL) (l := l.reverse)).length_le
    unfold rtrim
    rw [List.length_reverse]
    rw [List.length_reverse] at this
    omega
  have hL := trimL_ok hc hlt
  show Ok _ _
  rw [strV_L]
  change omS (.func (.func 305) #[] #[]) [.string (bytesL (charsN.map UInt8.ofNat))] W = _ at hs
  simp only [SX, strV_L, List.map_nil, str_eql, e1, str_len len9]
  simp only [SX, show (charsN.map UInt8.ofNat == []) = false from e2, show ¬ (((charsN.map UInt8.ofNat).length : Int) = 1) from e3, hs, al156, hst, hr, hL, Ok_some]
  exact ⟨trivial, ((Le.refl _).add _).put (Nat.le_refl _) _⟩
theorem name_ok (l : List UInt8) (W : AW) : omS (.func (.func 233) #[] #[]) [.string (bytesL l)] W = some (.bool (nameL l), W) := by
  refine om_drop rfl ?_ words_Name_om
  unfold words_Name
  cases l with
  | nil =>
    simp only [SX, strV_L, List.map_nil, str_eql, BEq.rfl, Ok_some]
    exact ⟨rfl, .refl _⟩
  | cons c l =>
    have e1 : (c :: l == []) = false := rfl
    have e0 : oIndex Tryz.prog 9 (.string (bytesL (c :: l))) (.int .i64 0) W = some (.int .u8 (c.toNat : Int), W) := by
      have := str_index (P := Tryz.prog) (W := W) (k := .i64) un9 (l := c :: l) (i := 0) (by simp)
      simpa using this
    by_cases h1 : (16 : Int) < (((c :: l).length : Nat) : Int)
    · simp only [SX, strV_L, List.map_nil, str_eql, e1, str_len len9, h1, Ok_some]
      refine ⟨?_, .refl _⟩
      have : decide ((c :: l).length ≤ 16) = false := by simpa using (by omega : ¬ ((c :: l).length ≤ 16))
      simp only [nameL, this, Bool.and_false, Bool.false_and]
    · have h16 : decide ((c :: l).length ≤ 16) = true := by simpa using (by omega : ((c :: l).length ≤ 16))
      by_cases h2 : (c.toNat : Int) < 97
      · simp only [SX, strV_L, List.map_nil, str_eql, e1, str_len len9, h1, e0, h2, Ok_some]
        refine ⟨?_, .refl _⟩
        have : decide (97 ≤ c.toNat) = false := by simpa using (by omega : ¬ (97 ≤ c.toNat))
        simp only [nameL, this, Bool.and_false, Bool.false_and]
      · by_cases h3 : (122 : Int) < (c.toNat : Int)
        · simp only [SX, strV_L, List.map_nil, str_eql, e1, str_len len9, h1, e0, h2, h3, Ok_some]
          refine ⟨?_, .refl _⟩
          have : decide (c.toNat ≤ 122) = false := by simpa using (by omega : ¬ (c.toNat ≤ 122))
          simp only [nameL, this, Bool.and_false, Bool.false_and]
        · have ht := trim_ok (l := c :: l) (by omega) (by simp) W
          have hv : (strV [97, 98, 99, 100, 101, 102, 103, 104, 105, 106, 107, 108, 109, 110, 111, 112, 113, 114, 115, 116, 117, 118, 119, 120, 121, 122, 48, 49, 50, 51, 52, 53, 54, 55, 56, 57, 45]) = strV charsN := rfl
          rw [hv]
          simp only [SX, strV_L [], List.map_nil, str_eql, e1, str_len len9, h1, e0, h2, h3, ht, trim_nil, Ok_some]
          refine ⟨?_, .refl _⟩
          have i1 : decide (97 ≤ c.toNat) = true := by simpa using (by omega : (97 ≤ c.toNat))
          have i2 : decide (c.toNat ≤ 122) = true := by simpa using (by omega : (c.toNat ≤ 122))
          have i3 : inS charsL = nameC := funext charsL_name
          simp only [nameL, i1, i2, i3, h16, Bool.true_and]
def lowC (c : UInt8) : Bool := decide (97 ≤ c.toNat) && decide (c.toNat ≤ 122)
def digC (c : UInt8) : Bool := decide (48 ≤ c.toNat) && decide (c.toNat ≤ 57)
theorem lower_ok (c : UInt8) (W : AW) : omS (.func (.func 252) #[] #[]) [.int .u8 (c.toNat : Int)] W = some (.bool (lowC c), W) := by
  refine om_drop rfl ?_ ref01_lower_om
  unfold ref01_lower lowC
  by_cases h : 97 ≤ c.toNat
  · have h1 : (97 : Int) ≤ (c.toNat : Int) := by omega
    simp only [SX, h, h1, Bool.true_and, Ok_some]
    exact ⟨by congr 2; exact propext ⟨fun _ => by omega, fun _ => by omega⟩, .refl _⟩
  · have h1 : ¬ (97 : Int) ≤ (c.toNat : Int) := by omega
    simp only [SX, h, h1, Bool.false_and, Ok_some]
    exact ⟨trivial, .refl _⟩
theorem digit_ok (c : UInt8) (W : AW) : omS (.func (.func 253) #[] #[]) [.int .u8 (c.toNat : Int)] W = some (.bool (digC c), W) := by
  refine om_drop rfl ?_ ref01_digit_om
  unfold ref01_digit digC
  by_cases h : 48 ≤ c.toNat
  · have h1 : (48 : Int) ≤ (c.toNat : Int) := by omega
    simp only [SX, h, h1, Bool.true_and, Ok_some]
    exact ⟨by congr 2; exact propext ⟨fun _ => by omega, fun _ => by omega⟩, .refl _⟩
  · have h1 : ¬ (48 : Int) ≤ (c.toNat : Int) := by omega
    simp only [SX, h, h1, Bool.false_and, Ok_some]
    exact ⟨trivial, .refl _⟩
theorem nameC_is (c : UInt8) : nameC c = (lowC c || digC c || decide ((c.toNat : Int) = 45)) := by
  unfold nameC lowC digC
  congr 1
  rw [Bool.eq_iff_iff, beq_iff_eq, decide_eq_true_iff]
  exact ⟨fun _ => by omega, fun _ => by omega⟩
theorem refName_ok (l : List UInt8) (W : AW) : omS (.func (.func 221) #[] #[]) [.string (bytesL l)] W = some (.bool (nameL l), W) := by
  refine om_drop rfl ?_ ref01_Name_om
  unfold ref01_Name
  cases l with
  | nil =>
    simp only [SX, str_len len9, List.length_nil, show ((0 : Nat) : Int) < 1 by omega, Ok_some]
    exact ⟨rfl, .refl _⟩
  | cons c l =>
    have e1 : ¬ (((c :: l).length : Int) < 1) := by rw [List.length_cons]; omega
    have e0 : oIndex Tryz.prog 9 (.string (bytesL (c :: l))) (.int .i64 0) W = some (.int .u8 (c.toNat : Int), W) := by
      have := str_index (P := Tryz.prog) (W := W) (k := .i64) un9 (l := c :: l) (i := 0) (by simp)
      simpa using this
    by_cases h1 : (16 : Int) < (((c :: l).length : Nat) : Int)
    · simp only [SX, str_len len9, e1, h1, Ok_some]
      refine ⟨?_, .refl _⟩
      have : decide ((c :: l).length ≤ 16) = false := by simpa using (by omega : ¬ ((c :: l).length ≤ 16))
      simp only [nameL, this, Bool.and_false, Bool.false_and]
    · have h16 : decide ((c :: l).length ≤ 16) = true := by simpa using (by omega : ((c :: l).length ≤ 16))
      cases hlow : lowC c
      · simp only [SX, str_len len9, e1, h1, e0, lower_ok, hlow, Ok_some]
        refine ⟨?_, .refl _⟩
        have : (decide (97 ≤ c.toNat) && decide (c.toNat ≤ 122)) = false := hlow
        simp only [nameL, this, Bool.false_and]
      · simp only [SX, str_len len9, e1, h1, e0, lower_ok, hlow]
        have hn : nameL (c :: l) = (c :: l).all nameC := by
          have : (decide (97 ≤ c.toNat) && decide (c.toNat ≤ 122)) = true := hlow
          simp only [nameL, this, h16, Bool.true_and]
        rw [hn]
        generalize hL : c :: l = L
        rw [hL] at h1
        refine Ok_loop L.length (by omega) (fun k R W' => W' = W ∧ R 0 = .string (bytesL L) ∧ R 3 = .int .i64 (k : Int) ∧ (L.take k).all nameC = true)
          (fun r => r.2.2 = W ∧ ((r.1 = .exit 0 ∧ L.all nameC = true) ∨ (r.1 = .ret ∧ r.2.1 2 = .bool false ∧ L.all nameC = false))) ⟨rfl, rfl, rfl, rfl⟩ ?_ ?_ ?_
        · rintro k R W' hk ⟨rfl, h0, h3, ha⟩
          unfold ref01_Name_L1
          have e1 : ((k : Int) < (L.length : Int)) := by omega
          have hx := nameC_is L[k]
          have yes : nameC L[k] = true → (L.take (k + 1)).all nameC = true := fun h => by
            rw [← List.take_append_getElem hk, List.all_append, ha]; simpa using h
          have no : nameC L[k] = false → L.all nameC = false := fun h => by
            rw [List.all_eq_false]
            exact ⟨L[k], List.getElem_mem hk, by simp [h]⟩
          have e2 : (k : Int) + 1 = ((k + 1 : Nat) : Int) := by omega
          have ea := oBin_add (P := Tryz.prog) (W := W') (t := 3) (c := false) (d := true) (a := (k : Int)) (b := 1) (by omega) (by omega)
          cases i1 : lowC L[k]
          · cases i2 : digC L[k]
            · by_cases i3 : (L[k].toNat : Int) = 45
              · simp only [SX, h0, h3, str_len len9, e1, str_index un9 hk, lower_ok, digit_ok, i1, i2, show decide ((L[k].toNat : Int) = 45) = true from decide_eq_true i3, ea, Ok_some]
                refine .inl ⟨trivial, trivial, h0, by rw [← e2]; rfl, yes (by rw [hx, i1, i2]; simp [i3])⟩
              · simp only [SX, h0, h3, str_len len9, e1, str_index un9 hk, lower_ok, digit_ok, i1, i2, i3, ea, Ok_some]
                refine .inr ⟨by simp, trivial, .inr ⟨trivial, rfl, no (by rw [hx, i1, i2]; simp [i3])⟩⟩
            · simp only [SX, h0, h3, str_len len9, e1, str_index un9 hk, lower_ok, digit_ok, i1, i2, ea, Ok_some]
              refine .inl ⟨trivial, trivial, h0, by rw [← e2]; rfl, yes (by rw [hx, i1, i2]; simp)⟩
          · simp only [SX, h0, h3, str_len len9, e1, str_index un9 hk, lower_ok, digit_ok, i1, ea, Ok_some]
            refine .inl ⟨trivial, trivial, h0, by rw [← e2]; rfl, yes (by rw [hx, i1]; simp)⟩
        · rintro R W' ⟨rfl, h0, h3, ha⟩
          unfold ref01_Name_L1
          have e1 : ¬ ((L.length : Int) < (L.length : Int)) := by omega
          rw [List.take_length] at ha
          simp only [SX, h0, h3, str_len len9, e1, Ok_some]
          exact ⟨by simp, trivial, .inl ⟨trivial, ha⟩⟩
        · rintro ⟨x, R, W'⟩ ⟨hW, h⟩
          simp only at hW h
          subst hW
          rcases h with ⟨rfl, h⟩ | ⟨rfl, h2, h⟩
          · simp only [SX, Ok_some, h]
            exact ⟨trivial, .refl _⟩
          · simp only [SX, Ok_some, h, h2]
            exact ⟨trivial, .refl _⟩
structure Sec where
  name : List UInt8
  rows : List Int
  q : Int
structure Ven where
  sh : Int
  ttl : Int
  ses : Int
  secs : List Sec
def SecAt (W : AW) (cs : List Value) (p : Nat) (s : Sec) : Prop := cs[p]? = some (.string (bytesL s.name)) ∧ cs[p + 2]? = some (.int .i64 s.q) ∧ ∃ rv, cs[p + 1]? = some rv ∧ Ints W rv s.rows
abbrev Secs (W : AW) (v : Value) (l : List Sec) : Prop := Row W 3 (SecAt W) v l
theorem Row.imp {α : Type} {W W' : AW} {z : Nat} {f g : List Value → Nat → α → Prop} {v : Value} {l : List α} (h : Row W z f v l) (hle : Le W W') (hfg : ∀ cs p a, f cs p a → g cs p a) : Row W' z g v l := by
  obtain ⟨a, c, rfl, k⟩ := h.mono hle
  refine ⟨a, c, rfl, ?_⟩
  rcases k with h | ⟨b, o, cs, h1, h2, h3, h4⟩
  · exact .inl h
  · exact .inr ⟨b, o, cs, h1, h2, h3, fun i hi => hfg _ _ _ (h4 i hi)⟩
theorem Secs.mono {W W' : AW} {v : Value} {l : List Sec} (h : Secs W v l) (hle : Le W W') : Secs W' v l :=
  Row.imp h hle fun cs p s ⟨h1, h2, rv, h3, h4⟩ => ⟨h1, h2, rv, h3, h4.mono hle⟩
theorem take3 {cs : List Value} {p : Nat} {a b c : Value} (h0 : cs[p]? = some a) (h1 : cs[p + 1]? = some b) (h2 : cs[p + 2]? = some c) : (cs.drop p).take 3 = [a, b, c] := by
  obtain ⟨i0, e0⟩ := List.getElem?_eq_some_iff.1 h0
  obtain ⟨i1, e1⟩ := List.getElem?_eq_some_iff.1 h1
  obtain ⟨i2, e2⟩ := List.getElem?_eq_some_iff.1 h2
  rw [List.drop_eq_getElem_cons i0, List.drop_eq_getElem_cons i1, List.drop_eq_getElem_cons i2, e0, e1, e2]
  rfl
abbrev secV (s : Sec) (rv : Value) : Value := .agg #[.string (bytesL s.name), rv, .int .i64 s.q]
theorem Secs.get {W : AW} {v : Value} {l : List Sec} (h : Secs W v l) {i : Nat} (hi : i < l.length) : ∃ b o rv, (∀ W' k, ixS 3 v (.int k (i : Int)) W' = some (.pointer (some ⟨b, o, none⟩), W')) ∧ Ints W rv l[i].rows ∧
    (∀ W', Le W W' → ldA 3 (.pointer (some ⟨b, o, none⟩)) W' = some (secV l[i] rv, W')) ∧ (∀ W', Le W W' → ldC (.pointer (some ⟨b, o, none⟩)) W' = some (.string (bytesL l[i].name), W')) ∧
    (∀ W', Le W W' → ldC (.pointer (some ⟨b, o + 1, none⟩)) W' = some (rv, W')) ∧ (∀ W', Le W W' → ldC (.pointer (some ⟨b, o + 2, none⟩)) W' = some (.int .i64 l[i].q, W')) := by
  obtain ⟨b, o, cs, h1, h2, h3, h4, h5, rv, h6, h7⟩ := h.elem hi
  refine ⟨b, o, rv, h1, h7, fun W' hle => ?_, fun W' hle => ldC_ok (by rw [hle.cellsAt h2]; exact h3) h4, fun W' hle => ldC_ok (by rw [hle.cellsAt h2]; exact h3) h6, fun W' hle => ldC_ok (by rw [hle.cellsAt h2]; exact h3) h5⟩
  rw [ldA_eq, hle.cellsAt h2, h3]
  simp only [Option.bind_some, take3 h4 h6 h5, List.length_cons, List.length_nil, if_true]
def secE (s : Sec) (before : List Sec) : Int :=
  if nameL s.name = false then 6 else if (before.any fun x => x.name == s.name) = true then 8 else if s.rows.length = 0 then 6 else if 16 < s.rows.length then 3 else
  if (s.rows.any fun n => outB n 1 64) = true then 7 else if outB s.q 0 64 = true then 7 else 0
def badK (l : List Sec) : Nat → Option (Nat × Int)
  | 0 => none
  | k + 1 => match badK l k with
    | some r => some r
    | none => match l[k]? with
      | some s => if secE s (l.take k) = 0 then none else some (k, secE s (l.take k))
      | none => none
theorem badK_mono {l : List Sec} {k n : Nat} {r : Nat × Int} (h : badK l k = some r) (hn : k ≤ n) : badK l n = some r := by
  induction n with
  | zero => obtain rfl : k = 0 := by omega
            exact h
  | succ n ih =>
    by_cases hk : k = n + 1
    · rw [← hk]; exact h
    · show (match badK l n with | some r => some r | none => _) = _
      rw [ih (by omega)]
def sumI (l : List Int) : Int := l.foldr (· + ·) 0
theorem sumI_app (l : List Int) (n : Int) : sumI (l ++ [n]) = sumI l + n := by
  induction l with
  | nil => simp [sumI]
  | cons a l ih => simp only [sumI, List.cons_append, List.foldr_cons] at ih ⊢; omega
def total (l : List Sec) : Int := sumI (l.map fun s => sumI s.rows)
def headBad (v : Ven) : Bool := outB v.sh 1 16 || outB v.ttl 1 1000000000 || outB v.ses 1 1000000000
def venE (v : Ven) : Int × Int :=
  if headBad v = true then (-1, 7) else if v.secs.length = 0 then (-1, 6) else if 8 < v.secs.length then (-1, 3) else
  match badK v.secs v.secs.length with
  | some (i, e) => ((i : Int), e)
  | none => if 4096 < total v.secs then (-1, 3) else (0, 0)
abbrev venV (v : Ven) (sv : Value) : Value := .agg #[.int .i64 v.sh, .int .i64 v.ttl, .int .i64 v.ses, sv]
def SecsC (W : AW) (sv : Value) (l : List Sec) : Prop := Secs W sv l ∧ (∃ a c, sv = .slice a l.length c ∧ l.length ≤ c ∧ c < BIG ∧ (l ≠ [] → ∃ b o, a = some ⟨b, o, none⟩))
theorem SecsC.mono {W W' : AW} {v : Value} {l : List Sec} (h : SecsC W v l) (hle : Le W W') : SecsC W' v l := ⟨h.1.mono hle, h.2⟩
theorem Row.take {α : Type} {W : AW} {z : Nat} {f : List Value → Nat → α → Prop} {b o c : Nat} {l : List α} (h : Row W z f (.slice (some ⟨b, o, none⟩) l.length c) l) {k : Nat} (hk : k ≤ l.length) (h0 : l ≠ []) : Row W z f (.slice (some ⟨b, o, none⟩) k c) (l.take k) := by
  obtain ⟨a, c', he, h⟩ := h
  injection he with e1 e2 e3
  subst e1 e3
  refine ⟨_, c, by rw [List.length_take, Nat.min_eq_left hk], ?_⟩
  rcases h with h | ⟨b', o', cs, h1, h2, h3, h4⟩
  · exact absurd h h0
  · refine .inr ⟨b', o', cs, h1, h2, h3, fun i hi => ?_⟩
    rw [List.getElem_take]
    exact h4 i (by rw [List.length_take] at hi; omega)
theorem sl34 : sliceZ Tryz.prog 22 = some 3 := by kernel_rfl
theorem SecsC.pre {W : AW} {sv : Value} {l : List Sec} (h : SecsC W sv l) {k : Nat} (hk : k < l.length) : ∃ u, (∀ W', oSlice Tryz.prog 22 sv none (some (.int .i64 (k : Int))) none W' = some (u, W')) ∧ Secs W u (l.take k) := by
  obtain ⟨h1, a, c, rfl, h2, h3, h4⟩ := h
  have h0 : l ≠ [] := by intro e; rw [e] at hk; simp at hk
  obtain ⟨b, o, rfl⟩ := h4 h0
  exact ⟨_, fun W' => oSlice_to sl34 (by omega) h3, Row.take h1 (by omega) h0⟩
theorem al62 (W : AW) : oAlloc Tryz.prog 130 W = some (.pointer (some ⟨W.next, 0, none⟩), W.add (.cells [.string (bytesL []), .slice none 0 0, .int .i64 0])) := Eq.trans (by kernel_rfl) rfl
def idxI {α : Type} (p : α → Bool) (l : List α) : Int := match l.findIdx? p with
  | some i => (i : Int)
  | none => -1
theorem idxI_some {α : Type} {p : α → Bool} {l : List α} {k : Nat} (hk : k < l.length) (h1 : p l[k] = true) (h2 : (l.take k).any p = false) : idxI p l = (k : Int) := by
  have : l.findIdx? p = some k := by
    rw [List.findIdx?_eq_some_iff_getElem]
    refine ⟨hk, h1, fun j hj => ?_⟩
    rw [List.any_eq_false] at h2
    exact h2 _ (by rw [List.mem_take_iff_getElem]; exact ⟨j, by omega, rfl⟩)
  unfold idxI
  rw [this]
theorem idxI_none {α : Type} {p : α → Bool} {l : List α} (h : l.any p = false) : idxI p l = -1 := by
  have : l.findIdx? p = none := by
    rw [List.findIdx?_eq_none_iff]
    intro x hx
    rw [List.any_eq_false] at h
    simpa using h x hx
  unfold idxI
  rw [this]
theorem any_take {α : Type} {p : α → Bool} {l : List α} {k : Nat} (hk : k < l.length) (h1 : p l[k] = false) (h2 : (l.take k).any p = false) : (l.take (k + 1)).any p = false := by
  rw [← List.take_append_getElem hk, List.any_append, h2]
  simpa using h1
theorem any_some {α : Type} {p : α → Bool} {l : List α} {k : Nat} (hk : k < l.length) (h1 : p l[k] = true) : l.any p = true := by
  rw [List.any_eq_true]; exact ⟨_, List.getElem_mem hk, h1⟩
theorem idxI_pos {α : Type} {p : α → Bool} {l : List α} : decide (0 ≤ idxI p l) = l.any p := by
  unfold idxI
  cases h : l.findIdx? p with
  | none =>
    rw [List.findIdx?_eq_none_iff] at h
    have : l.any p = false := by rw [List.any_eq_false]; intro x hx; simpa using h x hx
    rw [this]; rfl
  | some i =>
    rw [List.findIdx?_eq_some_iff_getElem] at h
    obtain ⟨h1, h2, h3⟩ := h
    rw [any_some h1 h2]; simp
theorem idxSec_ok {f v : Value} {p : Sec → Bool} {l : List Sec} {W : AW} (h : Secs W v l) (hl : l.length < 1000) (hp : ∀ s rv, omS f [secV s rv] W = some (.bool (p s), W)) : omS (.func (.func 272) #[] #[]) [v, f] W = some (.int .i64 (idxI p l), W) := by
  refine om_drop rfl ?_ slices_IndexFuncapi_VnSectionapi_VnSection_om
  unfold slices_IndexFuncapi_VnSectionapi_VnSection
  simp only [SX, h.len lenS]
  refine Ok_loop l.length (by omega) (fun k R W' => W' = W ∧ R 0 = v ∧ R 1 = f ∧ R 7 = .int .i64 (l.length : Int) ∧ R 8 = .int .i64 (k : Int) ∧ (l.take k).any p = false)
    (fun r => r.2.2 = W ∧ ((r.1 = .exit 0 ∧ idxI p l = -1) ∨ (r.1 = .ret ∧ r.2.1 4 = .int .i64 (idxI p l)))) ⟨rfl, rfl, rfl, rfl, rfl, rfl⟩ ?_ ?_ ?_
  · rintro k R W' hk ⟨rfl, h0, h1, h7, h8, ha⟩
    unfold slices_IndexFuncapi_VnSectionapi_VnSection_L1
    obtain ⟨b, o, rv, g1, g2, g3, _⟩ := h.get hk
    have e1 : ((k : Int) < (l.length : Int)) := by omega
    have e2 : (k : Int) + 1 = ((k + 1 : Nat) : Int) := by omega
    have ea := oBin_add (P := Tryz.prog) (W := W') (t := 3) (c := false) (d := true) (a := (k : Int)) (b := 1) (by omega) (by omega)
    simp only [SX, h0, h1, h7, h8, e1, g1, g3 _ (.refl _), hp]
    cases hx : p l[k]
    · simp only [SX, ea, Ok_some]
      exact .inl ⟨trivial, trivial, h0, h1, h7, by rw [← e2]; rfl, any_take hk hx ha⟩
    · simp only [SX, Ok_some]
      exact .inr ⟨by simp, trivial, .inr ⟨trivial, by rw [idxI_some hk hx ha]; rfl⟩⟩
  · rintro R W' ⟨rfl, h0, h1, h7, h8, ha⟩
    unfold slices_IndexFuncapi_VnSectionapi_VnSection_L1
    have e1 : ¬ ((l.length : Int) < (l.length : Int)) := by omega
    rw [List.take_length] at ha
    simp only [SX, h7, h8, e1, Ok_some]
    exact ⟨by simp, trivial, .inl ⟨trivial, idxI_none ha⟩⟩
  · rintro ⟨x, R, W'⟩ ⟨hW, hq⟩
    simp only at hW hq
    subst hW
    rcases hq with ⟨rfl, hq⟩ | ⟨rfl, h4⟩
    · simp only [SX, Ok_some, hq]
      exact ⟨trivial, .refl _⟩
    · simp only [SX, Ok_some, h4]
      exact ⟨trivial, .refl _⟩
theorem idxInt_ok {f v : Value} {p : Int → Bool} {l : List Int} {W : AW} (h : Ints W v l) (hl : l.length < 1000) (hp : ∀ n, omS f [.int .i64 n] W = some (.bool (p n), W)) : omS (.func (.func 222) #[] #[]) [v, f] W = some (.int .i64 (idxI p l), W) := by
  refine om_drop rfl ?_ slices_IndexFuncintint_om
  unfold slices_IndexFuncintint
  simp only [SX, h.len lenI]
  refine Ok_loop l.length (by omega) (fun k R W' => W' = W ∧ R 0 = v ∧ R 1 = f ∧ R 7 = .int .i64 (l.length : Int) ∧ R 8 = .int .i64 (k : Int) ∧ (l.take k).any p = false)
    (fun r => r.2.2 = W ∧ ((r.1 = .exit 0 ∧ idxI p l = -1) ∨ (r.1 = .ret ∧ r.2.1 4 = .int .i64 (idxI p l)))) ⟨rfl, rfl, rfl, rfl, rfl, rfl⟩ ?_ ?_ ?_
  · rintro k R W' hk ⟨rfl, h0, h1, h7, h8, ha⟩
    unfold slices_IndexFuncintint_L1
    obtain ⟨q, g1, g2⟩ := h.get hk
    have e1 : ((k : Int) < (l.length : Int)) := by omega
    have e2 : (k : Int) + 1 = ((k + 1 : Nat) : Int) := by omega
    have ea := oBin_add (P := Tryz.prog) (W := W') (t := 3) (c := false) (d := true) (a := (k : Int)) (b := 1) (by omega) (by omega)
    simp only [SX, h0, h1, h7, h8, e1, g1, g2 _ (.refl _), hp]
    cases hx : p l[k]
    · simp only [SX, ea, Ok_some]
      exact .inl ⟨trivial, trivial, h0, h1, h7, by rw [← e2]; rfl, any_take hk hx ha⟩
    · simp only [SX, Ok_some]
      exact .inr ⟨by simp, trivial, .inr ⟨trivial, by rw [idxI_some hk hx ha]; rfl⟩⟩
  · rintro R W' ⟨rfl, h0, h1, h7, h8, ha⟩
    unfold slices_IndexFuncintint_L1
    have e1 : ¬ ((l.length : Int) < (l.length : Int)) := by omega
    rw [List.take_length] at ha
    simp only [SX, h7, h8, e1, Ok_some]
    exact ⟨by simp, trivial, .inl ⟨trivial, idxI_none ha⟩⟩
  · rintro ⟨x, R, W'⟩ ⟨hW, hq⟩
    simp only at hW hq
    subst hW
    rcases hq with ⟨rfl, hq⟩ | ⟨rfl, h4⟩
    · simp only [SX, Ok_some, hq]
      exact ⟨trivial, .refl _⟩
    · simp only [SX, Ok_some, h4]
      exact ⟨trivial, .refl _⟩
theorem hasSec_ok {f v : Value} {p : Sec → Bool} {l : List Sec} {W : AW} (h : Secs W v l) (hl : l.length < 1000) (hp : ∀ s rv, omS f [secV s rv] W = some (.bool (p s), W)) : omS (.func (.func 234) #[] #[]) [v, f] W = some (.bool (l.any p), W) := by
  refine om_drop rfl ?_ slices_ContainsFuncapi_VnSectionapi_VnSection_om
  unfold slices_ContainsFuncapi_VnSectionapi_VnSection
  simp only [SX, idxSec_ok h hl hp, idxI_pos, Ok_some]
  exact ⟨trivial, .refl _⟩
theorem hasInt_ok {f v : Value} {p : Int → Bool} {l : List Int} {W : AW} (h : Ints W v l) (hl : l.length < 1000) (hp : ∀ n, omS f [.int .i64 n] W = some (.bool (p n), W)) : omS (.func (.func 169) #[] #[]) [v, f] W = some (.bool (l.any p), W) := by
  refine om_drop rfl ?_ slices_ContainsFuncintint_om
  unfold slices_ContainsFuncintint
  simp only [SX, idxInt_ok h hl hp, idxI_pos, Ok_some]
  exact ⟨trivial, .refl _⟩
theorem outRow_ok (n : Int) (W : AW) : omS (.func (.func 236) #[] #[]) [.int .i64 n] W = some (.bool (outB n 1 64), W) := by
  refine om_drop rfl ?_ venue_check_2_om
  unfold venue_check_2
  simp only [SX, outsideint_ok, Ok_some]
  exact ⟨trivial, .refl _⟩
theorem oBox3 (a b c : Value) (W : AW) : oBox (.agg #[a, b, c]) W = some (.pointer (some ⟨W.next, 0, none⟩), W.add (.cells [a, b, c])) := oBox_agg _
theorem sameName_ok {c : Nat} {m : List UInt8} {W : AW} (hc : ∀ W', Le W W' → ldC (.pointer (some ⟨c, 0, none⟩)) W' = some (.string (bytesL m), W')) (s : Sec) (rv : Value) :
    omS (.func (.func 235) #[] #[.pointer (some ⟨c, 0, none⟩)]) [secV s rv] W = some (.bool (s.name == m), W) := by
  refine om_drop rfl ?_ venue_check_1_om
  unfold venue_check_1
  have h0 := hc _ ((Le.refl W).add (.cells [.string (bytesL s.name), rv, .int .i64 s.q]))
  have h1 : ldC (.pointer (some ⟨W.next, 0, none⟩)) (W.add (.cells [.string (bytesL s.name), rv, .int .i64 s.q])) = some (.string (bytesL s.name), W.add (.cells [.string (bytesL s.name), rv, .int .i64 s.q])) := ldC_ok cellsAt_new rfl
  simp only [SX, oBox3, h0, h1, Nat.zero_add, str_eql, Ok_some]
  exact ⟨trivial, (Le.refl _).add _⟩
theorem check_ok' {s : Sec} {rv bv : Value} {before : List Sec} {W : AW} (hs : Ints W rv s.rows) (hb : Secs W bv before) (hl : before.length < 1000) : omS (.func (.func 189) #[] #[]) [secV s rv, bv] W = some (.int .i64 (secE s before), W) := by
  refine om_drop rfl ?_ venue_check_om
  unfold venue_check
  have hle : Le W (W.add (.cells [.string (bytesL s.name), rv, .int .i64 s.q])) := (Le.refl W).add _
  simp only [SX, oBox3, Nat.zero_add]
  generalize hW1 : W.add (.cells [.string (bytesL s.name), rv, .int .i64 s.q]) = W1 at *
  have hcs : cellsAt W1 W.next = some [.string (bytesL s.name), rv, .int .i64 s.q] := by rw [← hW1]; exact cellsAt_new
  have hn : W.next < W1.next := by rw [← hW1, AW.add_next]; omega
  have h0 : ∀ W', Le W1 W' → ldC (.pointer (some ⟨W.next, 0, none⟩)) W' = some (.string (bytesL s.name), W') := fun W' k => ldC_ok (by rw [k.cellsAt hn]; exact hcs) rfl
  have h1 : ldC (.pointer (some ⟨W.next, 1, none⟩)) W1 = some (rv, W1) := ldC_ok hcs rfl
  have h2 : ldC (.pointer (some ⟨W.next, 2, none⟩)) W1 = some (.int .i64 s.q, W1) := ldC_ok hcs rfl
  have hf := hasSec_ok (W := W1) (hb.mono hle) hl (p := fun x => x.name == s.name) (fun x rv => sameName_ok h0 x rv)
  unfold secE
  cases n1 : nameL s.name
  · simp only [SX, h0 _ (.refl _), name_ok, n1, if_true, Ok_some]
    exact ⟨trivial, hle⟩
  · cases n2 : before.any fun x => x.name == s.name
    · by_cases n3 : s.rows.length = 0
      · have e : ((s.rows.length : Int) = 0) := by omega
        simp only [SX, h0 _ (.refl _), name_ok, n1, hf, n2, h1, (hs.mono hle).len lenI, e, if_pos n3, if_true, if_false, Bool.true_eq_false, Bool.false_eq_true, Ok_some]
        exact ⟨trivial, hle⟩
      · have e : ¬ ((s.rows.length : Int) = 0) := by omega
        by_cases n4 : 16 < s.rows.length
        · have e2 : ((16 : Int) < (s.rows.length : Int)) := by omega
          simp only [SX, h0 _ (.refl _), name_ok, n1, hf, n2, h1, (hs.mono hle).len lenI, e, n3, e2, n4, if_true, if_false, Bool.true_eq_false, Bool.false_eq_true, Ok_some]
          exact ⟨trivial, hle⟩
        · have e2 : ¬ ((16 : Int) < (s.rows.length : Int)) := by omega
          have hg := hasInt_ok (W := W1) (hs.mono hle) (by omega) (p := fun n => outB n 1 64) (fun n => outRow_ok n W1)
          cases n5 : s.rows.any fun n => outB n 1 64
          · cases n6 : outB s.q 0 64
            · simp only [SX, h0 _ (.refl _), name_ok, n1, hf, n2, h1, (hs.mono hle).len lenI, e, n3, e2, n4, hg, n5, h2, outsideint_ok, n6, if_true, if_false, Bool.true_eq_false, Bool.false_eq_true, Ok_some]
              exact ⟨trivial, hle⟩
            · simp only [SX, h0 _ (.refl _), name_ok, n1, hf, n2, h1, (hs.mono hle).len lenI, e, n3, e2, n4, hg, n5, h2, outsideint_ok, n6, if_true, if_false, Bool.true_eq_false, Bool.false_eq_true, Ok_some]
              exact ⟨trivial, hle⟩
          · simp only [SX, h0 _ (.refl _), name_ok, n1, hf, n2, h1, (hs.mono hle).len lenI, e, n3, e2, n4, hg, n5, if_true, if_false, Bool.true_eq_false, Bool.false_eq_true, Ok_some]
            exact ⟨trivial, hle⟩
    · simp only [SX, h0 _ (.refl _), name_ok, n1, hf, n2, if_true, if_false, Bool.true_eq_false, Bool.false_eq_true, Ok_some]
      exact ⟨trivial, hle⟩
theorem oBox4 (a b c d : Value) (W : AW) : oBox (.agg #[a, b, c, d]) W = some (.pointer (some ⟨W.next, 0, none⟩), W.add (.cells [a, b, c, d])) := oBox_agg _
theorem put_add_cells (W : AW) (cs ds : List Value) : (W.add (.cells cs)).put W.next (.cells ds) = W.add (.cells ds) := add_put W _ _
theorem stV3 {b : Nat} {a c d x y z : Value} {W : AW} (h : rwCells W b = some [x, y, z]) (h1 : Eng.one a = true) (h2 : Eng.one c = true) (h3 : Eng.one d = true) : stV 3 (.pointer (some ⟨b, 0, none⟩)) (.agg #[a, c, d]) W = some (undef, W.put b (.cells [a, c, d])) := by
  rw [stV_agg, h]
  have e : (#[a, c, d] : Array Value).toList.all Eng.one = true := by simp [h1, h2, h3]
  simp only [Option.bind_some, e, and_true]
  rfl
theorem Row.one {α : Type} {W : AW} {z : Nat} {f : List Value → Nat → α → Prop} {v : Value} {l : List α} (h : Row W z f v l) : Eng.one v = true := by
  obtain ⟨a, c, rfl, _⟩ := h; rfl
theorem section_ok {v : Ven} {sv : Value} {W : AW} (hs : Secs W sv v.secs) (hv : v.secs.length < 1000) {i : Nat} (hi : i < v.secs.length) (hr : v.secs[i].rows.length < 1000) : omS (.func (.func 164) #[] #[]) [venV v sv, .int .i64 (i : Int)] W = some (.int .i64 (secE v.secs[i] (v.secs.take i)), W) := by
  refine om_drop rfl ?_ ref15_section_om
  unfold ref15_section
  have hle : Le W (W.add (.cells [.int .i64 v.sh, .int .i64 v.ttl, .int .i64 v.ses, sv])) := (Le.refl W).add _
  obtain ⟨b, o, rv, g1, g2, g3, _⟩ := hs.get hi
  have c3 : ldC (.pointer (some ⟨W.next, 3, none⟩)) (W.add (.cells [.int .i64 v.sh, .int .i64 v.ttl, .int .i64 v.ses, sv])) = some (sv, W.add (.cells [.int .i64 v.sh, .int .i64 v.ttl, .int .i64 v.ses, sv])) := ldC_ok cellsAt_new rfl
  simp only [SX, oBox4, Nat.zero_add, c3, g1, g3 _ hle, al62, stV3 rwCells_new (one_string _) (Row.one g2) (one_int _ _), put_add_cells]
  generalize hW1 : W.add (.cells [.int .i64 v.sh, .int .i64 v.ttl, .int .i64 v.ses, sv]) = W1 at *
  have hle2 : Le W (W1.add (.cells [.string (bytesL v.secs[i].name), rv, .int .i64 v.secs[i].q])) := hle.add _
  have hb1 : cellsAt (W1.add (.cells [.string (bytesL v.secs[i].name), rv, .int .i64 v.secs[i].q])) W.next = some [.int .i64 v.sh, .int .i64 v.ttl, .int .i64 v.ses, sv] := by
    rw [cellsAt_add _ (by rw [← hW1, AW.add_next]; omega), ← hW1]; exact cellsAt_new
  have hb2 : cellsAt (W1.add (.cells [.string (bytesL v.secs[i].name), rv, .int .i64 v.secs[i].q])) W1.next = some [.string (bytesL v.secs[i].name), rv, .int .i64 v.secs[i].q] := cellsAt_new
  generalize hW2 : W1.add (.cells [.string (bytesL v.secs[i].name), rv, .int .i64 v.secs[i].q]) = W2 at *
  have d0 : ldC (.pointer (some ⟨W1.next, 0, none⟩)) W2 = some (.string (bytesL v.secs[i].name), W2) := ldC_ok hb2 rfl
  have d1 : ldC (.pointer (some ⟨W1.next, 1, none⟩)) W2 = some (rv, W2) := ldC_ok hb2 rfl
  have d2 : ldC (.pointer (some ⟨W1.next, 2, none⟩)) W2 = some (.int .i64 v.secs[i].q, W2) := ldC_ok hb2 rfl
  have c3 : ldC (.pointer (some ⟨W.next, 3, none⟩)) W2 = some (sv, W2) := ldC_ok hb1 rfl
  have hlr := (g2.mono hle2).len (P := Tryz.prog) lenI
  simp only [SX, d0, refName_ok]
  generalize hs' : v.secs[i] = s at *
  unfold secE
  cases n1 : nameL s.name
  · simp only [SX, if_true, Ok_some]
    exact ⟨trivial, hle2⟩
  · simp only [SX]
    refine Ok_loop i (by omega) (fun k R W' => W' = W2 ∧ R 1 = .int .i64 (i : Int) ∧ R 2 = .pointer (some ⟨W.next, 0, none⟩) ∧ R 5 = .pointer (some ⟨W1.next, 0, none⟩) ∧ R 6 = .int .i64 (k : Int) ∧ ((v.secs.take i).take k).any (fun x => x.name == s.name) = false)
      (fun r => r.2.2 = W2 ∧ ((r.1 = .exit 0 ∧ r.2.1 5 = .pointer (some ⟨W1.next, 0, none⟩) ∧ (v.secs.take i).any (fun x => x.name == s.name) = false) ∨ (r.1 = .ret ∧ r.2.1 4 = .int .i64 8 ∧ (v.secs.take i).any (fun x => x.name == s.name) = true))) ⟨rfl, rfl, rfl, rfl, rfl, rfl⟩ ?_ ?_ ?_
    · rintro k R W' hk ⟨rfl, h1, h2, h5, h6, ha⟩
      unfold ref15_section_L1
      have hk2 : k < v.secs.length := by omega
      have hk3 : k < (v.secs.take i).length := by rw [List.length_take]; omega
      have hke : (v.secs.take i)[k] = v.secs[k] := List.getElem_take
      obtain ⟨b', o', rv', f1, f2, f3, f4, _⟩ := hs.get hk2
      have e1 : ((k : Int) < (i : Int)) := by omega
      have e2 : (k : Int) + 1 = ((k + 1 : Nat) : Int) := by omega
      have ea := oBin_add (P := Tryz.prog) (W := W') (t := 3) (c := false) (d := true) (a := (k : Int)) (b := 1) (by omega) (by omega)
      simp only [SX, h1, h2, h5, h6, e1, Nat.zero_add, c3, f1, Nat.add_zero, f4 _ hle2, d0, str_eql]
      cases hx : v.secs[k].name == s.name
      · simp only [SX, ea, Ok_some]
        exact .inl ⟨trivial, trivial, h1, h2, h5, by rw [← e2]; rfl, any_take hk3 (by rw [hke]; exact hx) ha⟩
      · simp only [SX, Ok_some]
        exact .inr ⟨by simp, trivial, .inr ⟨trivial, rfl, any_some hk3 (by rw [hke]; exact hx)⟩⟩
    · rintro R W' ⟨rfl, h1, h2, h5, h6, ha⟩
      unfold ref15_section_L1
      have e1 : ¬ ((i : Int) < (i : Int)) := by omega
      rw [List.take_of_length_le (by rw [List.length_take]; omega)] at ha
      simp only [SX, h1, h6, e1, Ok_some]
      exact ⟨by simp, trivial, .inl ⟨trivial, h5, ha⟩⟩
    · rintro ⟨x, R, W'⟩ ⟨hW, hq⟩
      simp only at hW hq
      subst hW
      rcases hq with ⟨rfl, h5, hq⟩ | ⟨rfl, h4, hq⟩
      · by_cases n3 : s.rows.length = 0
        · have e : ((s.rows.length : Int) = 0) := by omega
          simp only [SX, h5, Nat.zero_add, d1, hlr, e, hq, if_pos n3, if_false, Bool.true_eq_false, Bool.false_eq_true, Ok_some]
          exact ⟨trivial, hle2⟩
        · have e : ¬ ((s.rows.length : Int) = 0) := by omega
          by_cases n4 : 16 < s.rows.length
          · have e2 : ((16 : Int) < (s.rows.length : Int)) := by omega
            simp only [SX, h5, Nat.zero_add, d1, hlr, e, e2, hq, if_neg n3, if_pos n4, if_false, Bool.true_eq_false, Bool.false_eq_true, Ok_some]
            exact ⟨trivial, hle2⟩
          · have e2 : ¬ ((16 : Int) < (s.rows.length : Int)) := by omega
            simp only [SX, h5, Nat.zero_add, d1, hlr, e, e2, hq, if_neg n3, if_neg n4, if_false, Bool.true_eq_false, Bool.false_eq_true]
            refine Ok_loop s.rows.length (by omega) (fun k R W3 => W3 = W' ∧ R 5 = .pointer (some ⟨W1.next, 0, none⟩) ∧ R 7 = .int .i64 (k : Int) ∧ (s.rows.take k).any (fun n => outB n 1 64) = false)
              (fun r => r.2.2 = W' ∧ ((r.1 = .exit 2 ∧ r.2.1 5 = .pointer (some ⟨W1.next, 0, none⟩) ∧ s.rows.any (fun n => outB n 1 64) = false) ∨ (r.1 = .ret ∧ r.2.1 4 = .int .i64 7 ∧ s.rows.any (fun n => outB n 1 64) = true))) ⟨rfl, h5, rfl, rfl⟩ ?_ ?_ ?_
            · rintro k R W3 hk ⟨rfl, h5, h7, ha⟩
              unfold ref15_section_L2
              obtain ⟨p, p1, p2⟩ := g2.get hk
              have e1 : ((k : Int) < (s.rows.length : Int)) := by omega
              have e2 : (k : Int) + 1 = ((k + 1 : Nat) : Int) := by omega
              have ea := oBin_add (P := Tryz.prog) (W := W3) (t := 3) (c := false) (d := true) (a := (k : Int)) (b := 1) (by omega) (by omega)
              simp only [SX, h5, h7, Nat.zero_add, d1, hlr, e1, p1, p2 _ hle2, within_ok, inB_not]
              cases hx : outB s.rows[k] 1 64
              · simp only [SX, ea, Ok_some]
                exact .inl ⟨trivial, trivial, h5, by rw [← e2]; rfl, any_take hk hx ha⟩
              · simp only [SX, Ok_some]
                exact .inr ⟨by simp, trivial, .inr ⟨trivial, rfl, any_some hk hx⟩⟩
            · rintro R W3 ⟨rfl, h5, h7, ha⟩
              unfold ref15_section_L2
              have e1 : ¬ ((s.rows.length : Int) < (s.rows.length : Int)) := by omega
              rw [List.take_length] at ha
              simp only [SX, h5, h7, Nat.zero_add, d1, hlr, e1, Ok_some]
              exact ⟨by simp, trivial, .inl ⟨trivial, h5, ha⟩⟩
            · rintro ⟨x, R, W3⟩ ⟨hW, hq⟩
              simp only at hW hq
              subst hW
              rcases hq with ⟨rfl, h5, hq⟩ | ⟨rfl, h4, hq⟩
              · simp only [SX, h5, hq, Nat.zero_add, d2, within_ok, inB_not, Bool.false_eq_true, if_false]
                cases n6 : outB s.q 0 64
                · simp only [SX, Bool.false_eq_true, if_false, Ok_some]
                  exact ⟨trivial, hle2⟩
                · simp only [SX, if_true, Ok_some]
                  exact ⟨trivial, hle2⟩
              · simp only [SX, hq, h4, if_true, Ok_some]
                exact ⟨trivial, hle2⟩
      · simp only [SX, h4, hq, if_true, if_false, Bool.true_eq_false, Ok_some]
        exact ⟨trivial, hle2⟩
theorem secE_zero {s : Sec} {b : List Sec} (h : secE s b = 0) : nameL s.name = true ∧ (b.any fun x => x.name == s.name) = false ∧ s.rows.length ≠ 0 ∧ s.rows.length ≤ 16 ∧ (∀ n ∈ s.rows, 1 ≤ n ∧ n ≤ 64) ∧ 0 ≤ s.q ∧ s.q ≤ 64 := by
  unfold secE at h
  split at h
  · exact absurd h (by decide)
  rename_i h1
  split at h
  · exact absurd h (by decide)
  rename_i h2
  split at h
  · exact absurd h (by decide)
  rename_i h3
  split at h
  · exact absurd h (by decide)
  rename_i h4
  split at h
  · exact absurd h (by decide)
  rename_i h5
  split at h
  · exact absurd h (by decide)
  rename_i h6
  refine ⟨by simpa using h1, by simpa using h2, h3, by omega, ?_, ?_⟩
  · intro n hn
    have : outB n 1 64 = false := by
      cases ho : outB n 1 64
      · rfl
      · exact absurd (List.any_eq_true.2 ⟨n, hn, ho⟩) h5
    unfold outB at this
    simp only [Bool.or_eq_false_iff, decide_eq_false_iff_not] at this
    omega
  · unfold outB at h6
    simp only [Bool.or_eq_true, decide_eq_true_iff] at h6
    omega
theorem sumI_take {l : List Int} {k : Nat} (hk : k < l.length) : sumI (l.take (k + 1)) = sumI (l.take k) + l[k] := by
  rw [← List.take_append_getElem hk, sumI_app]
theorem total_take {l : List Sec} {k : Nat} (hk : k < l.length) : total (l.take (k + 1)) = total (l.take k) + sumI l[k].rows := by
  unfold total
  rw [List.map_take, List.map_take, sumI_take (by rw [List.length_map]; exact hk), List.getElem_map]
theorem sumI_bound {l : List Int} (h : ∀ n ∈ l, 1 ≤ n ∧ n ≤ 64) (k : Nat) : (0 ≤ sumI (l.take k) ∧ sumI (l.take k) ≤ 64 * k) ∧ (min k l.length : Int) ≤ sumI (l.take k) := by
  induction k with
  | zero => simp [sumI]; omega
  | succ k ih =>
    by_cases hk : k < l.length
    · rw [sumI_take hk]
      have := h _ (List.getElem_mem hk)
      omega
    · rw [List.take_of_length_le (by omega)] at ih ⊢
      omega
theorem badK_step {l : List Sec} {k : Nat} (h : badK l k = none) (hk : k < l.length) : badK l (k + 1) = if secE l[k] (l.take k) = 0 then none else some (k, secE l[k] (l.take k)) := by
  show (match badK l k with | some r => some r | none => match l[k]? with | some s => if secE s (l.take k) = 0 then none else some (k, secE s (l.take k)) | none => none) = _
  rw [h, List.getElem?_eq_getElem hk]
theorem badK_none {l : List Sec} {k : Nat} (h : badK l k = none) : ∀ i (hi : i < k) (hl : i < l.length), secE l[i] (l.take i) = 0 := by
  induction k with
  | zero => intro i hi; omega
  | succ k ih =>
    have h1 : badK l k = none := by
      cases hb : badK l k with
      | none => rfl
      | some r => rw [badK_mono hb (Nat.le_succ k)] at h; cases h
    intro i hi hl
    by_cases e : i = k
    · subst e
      rw [badK_step h1 hl] at h
      split at h
      · assumption
      · cases h
    · exact ih h1 i (by omega) hl
theorem total_bound {l : List Sec} {k : Nat} (h : badK l k = none) (hk : k ≤ l.length) : 0 ≤ total (l.take k) ∧ total (l.take k) ≤ 1024 * k := by
  induction k with
  | zero => simp [total, sumI]
  | succ k ih =>
    have h1 : badK l k = none := by
      cases hb : badK l k with
      | none => rfl
      | some r => rw [badK_mono hb (Nat.le_succ k)] at h; cases h
    have h2 := ih h1 (by omega)
    have hk' : k < l.length := by omega
    obtain ⟨_, _, _, h3, h4, _⟩ := secE_zero (badK_none h k (by omega) hk')
    rw [total_take hk']
    have h5 := (sumI_bound h4 l[k].rows.length).1
    rw [List.take_length] at h5
    omega
theorem venCheck_ok {v : Ven} {sv : Value} {W : AW} (hs : SecsC W sv v.secs) (hv : v.secs.length < 1000) : omS (.func (.func 129) #[] #[]) [venV v sv] W = some (.tuple #[.int .i64 (venE v).1, .int .i64 (venE v).2], W) := by
  refine om_drop rfl ?_ venue_Check_om
  unfold venue_Check
  have hle : Le W (W.add (.cells [.int .i64 v.sh, .int .i64 v.ttl, .int .i64 v.ses, sv])) := (Le.refl W).add _
  have hc : cellsAt (W.add (.cells [.int .i64 v.sh, .int .i64 v.ttl, .int .i64 v.ses, sv])) W.next = some [.int .i64 v.sh, .int .i64 v.ttl, .int .i64 v.ses, sv] := cellsAt_new
  have hn : W.next < (W.add (.cells [.int .i64 v.sh, .int .i64 v.ttl, .int .i64 v.ses, sv])).next := by rw [AW.add_next]; omega
  simp only [SX, oBox4, Nat.zero_add]
  generalize hW1 : W.add (.cells [.int .i64 v.sh, .int .i64 v.ttl, .int .i64 v.ses, sv]) = W1 at *
  have c0 : ldC (.pointer (some ⟨W.next, 0, none⟩)) W1 = some (.int .i64 v.sh, W1) := ldC_ok hc rfl
  have c1 : ldC (.pointer (some ⟨W.next, 1, none⟩)) W1 = some (.int .i64 v.ttl, W1) := ldC_ok hc rfl
  have c2 : ldC (.pointer (some ⟨W.next, 2, none⟩)) W1 = some (.int .i64 v.ses, W1) := ldC_ok hc rfl
  have c3 : ∀ W', Le W1 W' → ldC (.pointer (some ⟨W.next, 3, none⟩)) W' = some (sv, W') := fun W' k => ldC_ok (by rw [k.cellsAt hn]; exact hc) rfl
  simp only [SX, c0, outsideint_ok]
  unfold venE headBad
  cases n1 : outB v.sh 1 16
  case true => simp only [SX, Bool.true_or, if_true, Ok_some]; exact ⟨trivial, hle⟩
  simp only [SX, Nat.zero_add, c1, outsideint64_ok]
  cases n2 : outB v.ttl 1 1000000000
  case true => simp only [SX, Bool.true_or, Bool.or_true, if_true, Ok_some]; exact ⟨trivial, hle⟩
  simp only [SX, Nat.zero_add, c2, outsideint64_ok]
  cases n3 : outB v.ses 1 1000000000
  case true => simp only [SX, Bool.true_or, Bool.or_true, if_true, Ok_some]; exact ⟨trivial, hle⟩
  simp only [SX, Nat.zero_add, c3 _ (.refl _), hs.1.len lenS, Bool.or_self, Bool.false_eq_true, if_false]
  by_cases n4 : v.secs.length = 0
  case pos =>
    have e : ((v.secs.length : Int) = 0) := by omega
    simp only [SX, e, if_pos n4, Ok_some]; exact ⟨trivial, hle⟩
  have e4 : ¬ ((v.secs.length : Int) = 0) := by omega
  simp only [SX, e4, if_neg n4, Nat.zero_add, c3 _ (.refl _), hs.1.len lenS]
  by_cases n5 : 8 < v.secs.length
  case pos =>
    have e : ((8 : Int) < (v.secs.length : Int)) := by omega
    simp only [SX, e, if_pos n5, Ok_some]; exact ⟨trivial, hle⟩
  have e5 : ¬ ((8 : Int) < (v.secs.length : Int)) := by omega
  simp only [SX, e5, if_neg n5, Nat.zero_add, c3 _ (.refl _), hs.1.len lenS]
  refine Ok_loop v.secs.length (by omega) (fun k R W' => Le W1 W' ∧ R 1 = .pointer (some ⟨W.next, 0, none⟩) ∧ R 4 = .int .i64 (total (v.secs.take k)) ∧ R 35 = sv ∧ R 36 = .int .i64 (v.secs.length : Int) ∧ R 37 = .int .i64 (k : Int) ∧ badK v.secs k = none)
    (fun r => Le W1 r.2.2 ∧ ((r.1 = .exit 1 ∧ r.2.1 4 = .int .i64 (total v.secs) ∧ badK v.secs v.secs.length = none) ∨ (r.1 = .ret ∧ ∃ i e, r.2.1 2 = .int .i64 ((i : Nat) : Int) ∧ r.2.1 3 = .int .i64 e ∧ badK v.secs v.secs.length = some (i, e)))) ⟨.refl _, rfl, rfl, rfl, rfl, rfl, rfl⟩ ?_ ?_ ?_
  · rintro k R W' hk ⟨hl, h1, h4, h35, h36, h37, hb⟩
    unfold venue_Check_L1
    obtain ⟨b, o, rv, g1, g2, g3, _⟩ := hs.1.get hk
    obtain ⟨u, u1, u2⟩ := hs.pre hk
    have e1 : ((k : Int) < (v.secs.length : Int)) := by omega
    simp only [SX, h35, h36, h37, e1, g1, g3 _ (hle.trans hl), al62, stV3 rwCells_new (one_string _) (Row.one g2) (one_int _ _), put_add_cells]
    have hl2 : Le W1 (W'.add (.cells [.string (bytesL v.secs[k].name), rv, .int .i64 v.secs[k].q])) := hl.add _
    have hc2 : cellsAt (W'.add (.cells [.string (bytesL v.secs[k].name), rv, .int .i64 v.secs[k].q])) W'.next = some [.string (bytesL v.secs[k].name), rv, .int .i64 v.secs[k].q] := cellsAt_new
    generalize hW2 : W'.add (.cells [.string (bytesL v.secs[k].name), rv, .int .i64 v.secs[k].q]) = W2 at *
    have d3 : ldA 3 (.pointer (some ⟨W'.next, 0, none⟩)) W2 = some (secV v.secs[k] rv, W2) := ldA_all hc2 rfl
    have d1 : ldC (.pointer (some ⟨W'.next, 1, none⟩)) W2 = some (rv, W2) := ldC_ok hc2 rfl
    have hlr := (g2.mono (hle.trans hl2)).len (P := Tryz.prog) lenI
    simp only [SX, d3, h1, Nat.zero_add, c3 _ hl2, u1, check_ok' (g2.mono (hle.trans hl2)) (u2.mono (hle.trans hl2)) (by rw [List.length_take]; omega)]
    have hbs := badK_step hb hk
    by_cases hz : secE v.secs[k] (v.secs.take k) = 0
    · rw [if_pos hz] at hbs
      obtain ⟨_, _, _, hr1, hr2, _⟩ := secE_zero hz
      have htb := total_bound hb (by omega)
      simp only [SX, hz, d1, hlr]
      refine Ok_loop v.secs[k].rows.length (by omega) (fun j R' W3 => W3 = W2 ∧ R' 1 = .pointer (some ⟨W.next, 0, none⟩) ∧ R' 4 = .int .i64 (total (v.secs.take k) + sumI (v.secs[k].rows.take j)) ∧ R' 35 = sv ∧ R' 36 = .int .i64 (v.secs.length : Int) ∧ R' 37 = .int .i64 (k : Int) ∧ R' 53 = rv ∧ R' 54 = .int .i64 (v.secs[k].rows.length : Int) ∧ R' 55 = .int .i64 (j : Int))
        (fun r => r.2.2 = W2 ∧ r.1 = .exit 3 ∧ r.2.1 1 = .pointer (some ⟨W.next, 0, none⟩) ∧ r.2.1 4 = .int .i64 (total (v.secs.take (k + 1))) ∧ r.2.1 35 = sv ∧ r.2.1 36 = .int .i64 (v.secs.length : Int) ∧ r.2.1 37 = .int .i64 (k : Int)) ⟨rfl, h1, by rw [List.take_zero, show sumI [] = 0 from rfl, Int.add_zero]; exact h4, h35, h36, h37, rfl, rfl, rfl⟩ ?_ ?_ ?_
      · rintro j R' W3 hj ⟨rfl, h1, h4, h35, h36, h37, h53, h54, h55⟩
        unfold venue_Check_L1_L2
        obtain ⟨p, p1, p2⟩ := g2.get hj
        have e1 : ((j : Int) < (v.secs[k].rows.length : Int)) := by omega
        have e2 : (j : Int) + 1 = ((j + 1 : Nat) : Int) := by omega
        have ea := oBin_add (P := Tryz.prog) (W := W3) (t := 3) (c := false) (d := true) (a := (j : Int)) (b := 1) (by omega) (by omega)
        have hsb := (sumI_bound hr2 j).1
        have hsn := hr2 _ (List.getElem_mem hj)
        have eb := oBin_add (P := Tryz.prog) (W := W3) (t := 3) (c := false) (d := false) (a := total (v.secs.take k) + sumI (v.secs[k].rows.take j)) (b := v.secs[k].rows[j]) (by omega) (by omega)
        simp only [SX, h4, h53, h54, h55, e1, p1, p2 _ (hle.trans hl2), ea, eb, Ok_some]
        refine .inl ⟨trivial, trivial, h1, ?_, h35, h36, h37, h53, h54, by rw [← e2]; rfl⟩
        rw [sumI_take hj, ← Int.add_assoc]; rfl
      · rintro R' W3 ⟨rfl, h1, h4, h35, h36, h37, h53, h54, h55⟩
        unfold venue_Check_L1_L2
        have e1 : ¬ ((v.secs[k].rows.length : Int) < (v.secs[k].rows.length : Int)) := by omega
        simp only [SX, h54, h55, e1, Ok_some]
        refine ⟨by simp, trivial, trivial, h1, ?_, h35, h36, h37⟩
        rw [total_take hk]
        rw [List.take_length] at h4
        exact h4
      · rintro ⟨x, R', W3⟩ ⟨hW, rfl, h1, h4, h35, h36, h37⟩
        simp only at hW h1 h4 h35 h36 h37
        subst hW
        have e2 : (k : Int) + 1 = ((k + 1 : Nat) : Int) := by omega
        have ea := oBin_add (P := Tryz.prog) (W := W3) (t := 3) (c := false) (d := true) (a := (k : Int)) (b := 1) (by omega) (by omega)
        simp only [SX, h37, ea, Ok_some]
        exact .inl ⟨trivial, hl2, h1, h4, h35, h36, by rw [← e2]; rfl, hbs⟩
    · rw [if_neg hz] at hbs
      simp only [SX, hz, Ok_some]
      exact .inr ⟨by simp, hl2, .inr ⟨trivial, k, _, rfl, rfl, badK_mono hbs (by omega)⟩⟩
  · rintro R W' ⟨hl, h1, h4, h35, h36, h37, hb⟩
    unfold venue_Check_L1
    have e1 : ¬ ((v.secs.length : Int) < (v.secs.length : Int)) := by omega
    rw [List.take_length] at h4
    simp only [SX, h36, h37, e1, Ok_some]
    exact ⟨by simp, hl, .inl ⟨trivial, h4, hb⟩⟩
  · rintro ⟨x, R, W'⟩ ⟨hl, hq⟩
    simp only at hl hq
    rcases hq with ⟨rfl, h4, hb⟩ | ⟨rfl, i, e, h2, h3, hb⟩
    · rw [hb]
      by_cases n6 : 4096 < total v.secs
      · simp only [SX, h4, n6, if_true, Ok_some]
        exact ⟨trivial, hle.trans hl⟩
      · simp only [SX, h4, n6, if_false, Ok_some]
        exact ⟨trivial, hle.trans hl⟩
    · rw [hb]
      simp only [SX, h2, h3, Ok_some]
      exact ⟨trivial, hle.trans hl⟩
abbrev Plc := Nat × Nat × Nat
def rowP (i k m : Nat) : List Plc := (List.range m).map fun j => (i, k, j)
def secP (i : Nat) (rows : List Int) (k : Nat) : List Plc := (List.range k).flatMap fun j => rowP i j (rows.getD j 0).toNat
def plcK (l : List Sec) (n : Nat) : List Plc := (List.range n).flatMap fun i => match l[i]? with
  | some s => secP i s.rows s.rows.length
  | none => []
def places (l : List Sec) : List Plc := plcK l l.length
theorem rowP_succ (i k m : Nat) : rowP i k (m + 1) = rowP i k m ++ [(i, k, m)] := by simp [rowP, List.range_succ]
theorem secP_succ (i : Nat) (rows : List Int) {k : Nat} (hk : k < rows.length) : secP i rows (k + 1) = secP i rows k ++ rowP i k rows[k].toNat := by
  unfold secP
  rw [List.range_succ, List.flatMap_append, List.flatMap_cons, List.flatMap_nil, List.append_nil, List.getD_eq_getElem?_getD, List.getElem?_eq_getElem hk, Option.getD_some]
theorem plcK_succ (l : List Sec) {n : Nat} (hn : n < l.length) : plcK l (n + 1) = plcK l n ++ secP n l[n].rows l[n].rows.length := by
  unfold plcK
  rw [List.range_succ, List.flatMap_append, List.flatMap_cons, List.flatMap_nil, List.append_nil, List.getElem?_eq_getElem hn]
structure Good (l : List Sec) : Prop where
  len : l.length ≤ 8
  rows : ∀ s ∈ l, s.rows.length ≠ 0 ∧ s.rows.length ≤ 16 ∧ ∀ n ∈ s.rows, 1 ≤ n ∧ n ≤ 64
theorem Good.of {l : List Sec} (h : l.length ≤ 8) (hb : badK l l.length = none) : Good l :=
  ⟨h, fun s hs => by
    obtain ⟨i, hi, rfl⟩ := List.getElem_of_mem hs
    obtain ⟨_, _, h3, h4, h5, _⟩ := secE_zero (badK_none hb i hi hi)
    exact ⟨h3, h4, h5⟩⟩
theorem rowP_len (i k m : Nat) : (rowP i k m).length = m := by simp [rowP]
theorem secP_len {i : Nat} {rows : List Int} (h : ∀ n ∈ rows, 1 ≤ n ∧ n ≤ 64) : ∀ {k : Nat}, k ≤ rows.length → ((secP i rows k).length : Int) = sumI (rows.take k)
  | 0, _ => by simp [secP, sumI]
  | k + 1, hk => by
    have hk' : k < rows.length := by omega
    rw [secP_succ i rows hk', List.length_append, rowP_len, sumI_take hk', ← secP_len (i := i) h (by omega : k ≤ rows.length)]
    have := h _ (List.getElem_mem hk')
    omega
theorem plcK_len {l : List Sec} (h : Good l) : ∀ {n : Nat}, n ≤ l.length → ((plcK l n).length : Int) = total (l.take n) ∧ (plcK l n).length ≤ 1024 * n
  | 0, _ => by simp [plcK, total, sumI]
  | n + 1, hn => by
    have hn' : n < l.length := by omega
    obtain ⟨h1, h2, h3⟩ := h.rows _ (List.getElem_mem hn')
    have ih := plcK_len h (by omega : n ≤ l.length)
    have hl := secP_len (i := n) h3 (Nat.le_refl _)
    have hb := (sumI_bound h3 l[n].rows.length).1
    rw [List.take_length] at hl hb
    rw [plcK_succ l hn', List.length_append, total_take hn']
    omega
theorem places_len {l : List Sec} (h : Good l) : ((places l).length : Int) = total l := by
  have := (plcK_len h (Nat.le_refl l.length)).1
  rwa [List.take_length] at this
def plcC (p : Plc) : List Value := [.int .i64 (p.1 : Int), .int .i64 (p.2.1 : Int), .int .i64 (p.2.2 : Int)]
def plcAt (cs : List Value) (p : Nat) (a : Plc) : Prop := cs[p]? = some (.int .i64 (a.1 : Int)) ∧ cs[p + 1]? = some (.int .i64 (a.2.1 : Int)) ∧ cs[p + 2]? = some (.int .i64 (a.2.2 : Int))
theorem plcC_len (p : Plc) : (plcC p).length = 3 := rfl
theorem plcC_one (p : Plc) : (plcC p).all Eng.one = true := rfl
theorem plcC_at (a : Plc) (pre post : List Value) : plcAt (pre ++ (plcC a ++ post)) pre.length a := by
  refine ⟨?_, ?_, ?_⟩ <;> (rw [List.getElem?_append_right (by omega)]; simp [plcC])
abbrev Plcs (W : AW) (v : Value) (l : List Plc) : Prop := Row W 3 plcAt v l
theorem ap100 : appOk Tryz.prog #[238, 238] 3 24 = true := by kernel_rfl
theorem bd65 (a b c : Int) (W : AW) : oBuild Tryz.prog 309 [(0, .int .i64 a), (1, .int .i64 b), (2, .int .i64 c)] W = some (.agg #[.int .i64 a, .int .i64 b, .int .i64 c], W) := Eq.trans (by kernel_rfl) rfl
theorem bs100 (a b c : Int) (W : AW) : oBuildSlice Tryz.prog 238 1 [(0, .agg #[.int .i64 a, .int .i64 b, .int .i64 c])] W = some (.slice (some ⟨W.next, 0, none⟩) 1 1, W.add (.cells [.int .i64 a, .int .i64 b, .int .i64 c])) := Eq.trans (by kernel_rfl) rfl
theorem Places_ok {v : Ven} {sv : Value} {W : AW} (hs : Secs W sv v.secs) (hg : Good v.secs) : ∃ r W', omS (.func (.func 152) #[] #[]) [venV v sv] W = some (r, W') ∧ Le W W' ∧ Plcs W' r (places v.secs) := by
  have hle : Le W (W.add (.cells [.int .i64 v.sh, .int .i64 v.ttl, .int .i64 v.ses, sv])) := (Le.refl W).add _
  have hc : cellsAt (W.add (.cells [.int .i64 v.sh, .int .i64 v.ttl, .int .i64 v.ses, sv])) W.next = some [.int .i64 v.sh, .int .i64 v.ttl, .int .i64 v.ses, sv] := cellsAt_new
  have hn : W.next < (W.add (.cells [.int .i64 v.sh, .int .i64 v.ttl, .int .i64 v.ses, sv])).next := by rw [AW.add_next]; omega
  refine om_row ?_ ref15_Places_om
  unfold ref15_Places
  simp only [SX, oBox4]
  generalize hW1 : W.add (.cells [.int .i64 v.sh, .int .i64 v.ttl, .int .i64 v.ses, sv]) = W1 at *
  have c3 : ∀ W', Le W1 W' → ldC (.pointer (some ⟨W.next, 3, none⟩)) W' = some (sv, W') := fun W' k => ldC_ok (by rw [k.cellsAt hn]; exact hc) rfl
  have add1 : ∀ (k : Nat) (W' : AW), k < 1000000 → oBin Tryz.prog .add 3 false true (.int .i64 (k : Int)) (.int .i64 1) W' = some (.int .i64 ((k + 1 : Nat) : Int), W') := fun k W' hk => oBin_add (by omega) (by omega)
  have hlen := hg.len
  refine Ok_loop v.secs.length (by omega) (fun i R W' => Le W1 W' ∧ R 1 = .pointer (some ⟨W.next, 0, none⟩) ∧ R 4 = .int .i64 (i : Int) ∧ Lst W1.next W' 3 plcC (R 3) (plcK v.secs i))
    (fun r => Le W1 r.2.2 ∧ r.1 = .exit 0 ∧ Lst W1.next r.2.2 3 plcC (r.2.1 3) (plcK v.secs v.secs.length)) ⟨.refl _, rfl, rfl, Lst.nil _ _ _ _⟩ ?_ ?_ ?_
  · rintro i R W' hi ⟨hl, h1, h4, hG⟩
    unfold ref15_Places_L1
    have e1 : ((i : Int) < (v.secs.length : Int)) := by omega
    simp only [SX, h1, h4, Nat.zero_add, c3 _ hl, hs.len lenS, e1]
    obtain ⟨b, o, rv, g1, g2, _, _, g5, _⟩ := hs.get hi
    obtain ⟨r1, r2, r3⟩ := hg.rows _ (List.getElem_mem hi)
    have hpl := (plcK_len hg (by omega : i ≤ v.secs.length)).2
    refine Ok_loop v.secs[i].rows.length (by omega) (fun k R W' => Le W1 W' ∧ R 1 = .pointer (some ⟨W.next, 0, none⟩) ∧ R 4 = .int .i64 (i : Int) ∧ R 5 = .int .i64 (k : Int) ∧ Lst W1.next W' 3 plcC (R 3) (plcK v.secs i ++ secP i v.secs[i].rows k))
      (fun r => Le W1 r.2.2 ∧ r.1 = .exit 2 ∧ r.2.1 1 = .pointer (some ⟨W.next, 0, none⟩) ∧ r.2.1 4 = .int .i64 (i : Int) ∧ Lst W1.next r.2.2 3 plcC (r.2.1 3) (plcK v.secs (i + 1))) ⟨hl, h1, h4, rfl, by rw [show secP i v.secs[i].rows 0 = [] from rfl, List.append_nil]; exact hG⟩ ?_ ?_ ?_
    · rintro k R W' hk ⟨hl, h1, h4, h5, hG⟩
      unfold ref15_Places_L1_L2
      have e1 : ((k : Int) < (v.secs[i].rows.length : Int)) := by omega
      have g2' := g2.mono (hle.trans hl)
      simp only [SX, h1, h4, h5, Nat.zero_add, c3 _ hl, g1, g5 _ (hle.trans hl), g2'.len lenI, e1]
      obtain ⟨p, p1, p2⟩ := g2.get hk
      have hrk := r3 _ (List.getElem_mem hk)
      have hsl := secP_len (i := i) r3 (by omega : k ≤ v.secs[i].rows.length)
      have hsb := (sumI_bound r3 k).1
      refine Ok_loop v.secs[i].rows[k].toNat (by omega) (fun m R W' => Le W1 W' ∧ R 1 = .pointer (some ⟨W.next, 0, none⟩) ∧ R 4 = .int .i64 (i : Int) ∧ R 5 = .int .i64 (k : Int) ∧ R 6 = .int .i64 (m : Int) ∧ Lst W1.next W' 3 plcC (R 3) (plcK v.secs i ++ secP i v.secs[i].rows k ++ rowP i k m))
        (fun r => Le W1 r.2.2 ∧ r.1 = .exit 4 ∧ r.2.1 1 = .pointer (some ⟨W.next, 0, none⟩) ∧ r.2.1 4 = .int .i64 (i : Int) ∧ r.2.1 5 = .int .i64 (k : Int) ∧ Lst W1.next r.2.2 3 plcC (r.2.1 3) (plcK v.secs i ++ secP i v.secs[i].rows (k + 1))) ⟨hl, h1, h4, h5, rfl, by rw [show rowP i k 0 = [] from rfl, List.append_nil]; exact hG⟩ ?_ ?_ ?_
      · rintro m R W' hm ⟨hl, h1, h4, h5, h6, hG⟩
        unfold ref15_Places_L1_L2_L3
        have e1 : ((m : Int) < v.secs[i].rows[k]) := by omega
        simp only [SX, h1, h4, h5, h6, Nat.zero_add, c3 _ hl, g1, g5 _ (hle.trans hl), p1, p2 _ (hle.trans hl), e1, bd65, bs100]
        have hGm := hG.mono ((Le.refl W').add (.cells [.int .i64 (i : Int), .int .i64 (k : Int), .int .i64 (m : Int)]))
        have hlb : (plcK v.secs i ++ secP i v.secs[i].rows k ++ rowP i k m).length + 1 < 100000 := by
          rw [List.length_append, List.length_append, rowP_len]; omega
        obtain ⟨v', W2, q1, q2, q3, q4⟩ := Lst.push (P := Tryz.prog) (a := (i, k, m)) (b := W'.next) (c := 1) ap100 plcC_len plcC_one hGm cellsAt_new (by omega) (by omega) (by rw [AW.add_next]; have := hl.next; omega)
        simp only [SX, q1, add1 m _ (by omega), Ok_some]
        refine .inl ⟨trivial, q4 _ (hl.add _) (Nat.le_refl _), h1, h4, h5, rfl, ?_⟩
        rw [rowP_succ, ← List.append_assoc]
        exact q2
      · rintro R W' ⟨hl, h1, h4, h5, h6, hG⟩
        unfold ref15_Places_L1_L2_L3
        have e1 : ¬ ((v.secs[i].rows[k].toNat : Int) < v.secs[i].rows[k]) := by omega
        simp only [SX, h1, h4, h5, h6, Nat.zero_add, c3 _ hl, g1, g5 _ (hle.trans hl), p1, p2 _ (hle.trans hl), e1, Ok_some]
        refine ⟨by simp, hl, trivial, h1, h4, h5, ?_⟩
        rw [secP_succ _ _ hk, ← List.append_assoc]
        exact hG
      · rintro ⟨x, R, W'⟩ ⟨hl, rfl, h1, h4, h5, hG⟩
        simp only at hl h1 h4 h5 hG
        simp only [SX, h5, add1 k _ (by omega), Ok_some]
        exact .inl ⟨trivial, hl, h1, h4, rfl, hG⟩
    · rintro R W' ⟨hl, h1, h4, h5, hG⟩
      unfold ref15_Places_L1_L2
      have e1 : ¬ ((v.secs[i].rows.length : Int) < (v.secs[i].rows.length : Int)) := by omega
      have g2' := g2.mono (hle.trans hl)
      simp only [SX, h1, h4, h5, Nat.zero_add, c3 _ hl, g1, g5 _ (hle.trans hl), g2'.len lenI, e1, Ok_some]
      refine ⟨by simp, hl, trivial, h1, h4, ?_⟩
      rw [plcK_succ _ hi]
      exact hG
    · rintro ⟨x, R, W'⟩ ⟨hl, rfl, h1, h4, hG⟩
      simp only at hl h1 h4 hG
      simp only [SX, h4, add1 i _ (by omega), Ok_some]
      exact .inl ⟨trivial, hl, h1, rfl, hG⟩
  · rintro R W' ⟨hl, h1, h4, hG⟩
    unfold ref15_Places_L1
    have e1 : ¬ ((v.secs.length : Int) < (v.secs.length : Int)) := by omega
    simp only [SX, h1, h4, Nat.zero_add, c3 _ hl, hs.len lenS, e1, Ok_some]
    exact ⟨by simp, hl, trivial, hG⟩
  · rintro ⟨x, R, W'⟩ ⟨hl, rfl, hG⟩
    simp only at hl hG
    simp only [SX, Ok_some]
    exact ⟨hle.trans hl, hG.row plcC_len plcC_at⟩
theorem lenP : ((#[238] : Array TypeId)[0]?).bind Tryz.prog.underlying = some (.slice 309) := by kernel_rfl
theorem refVen_ok {v : Ven} {sv : Value} {W : AW} (hs : Secs W sv v.secs) (hv : v.secs.length < 1000) (hr : ∀ s ∈ v.secs, s.rows.length < 1000) : omS (.func (.func 108) #[] #[]) [venV v sv] W = some (.tuple #[.int .i64 (venE v).1, .int .i64 (venE v).2], W) := by
  refine om_drop rfl ?_ ref15_Check_om
  unfold ref15_Check
  have hle : Le W (W.add (.cells [.int .i64 v.sh, .int .i64 v.ttl, .int .i64 v.ses, sv])) := (Le.refl W).add _
  have hc : cellsAt (W.add (.cells [.int .i64 v.sh, .int .i64 v.ttl, .int .i64 v.ses, sv])) W.next = some [.int .i64 v.sh, .int .i64 v.ttl, .int .i64 v.ses, sv] := cellsAt_new
  have hn : W.next < (W.add (.cells [.int .i64 v.sh, .int .i64 v.ttl, .int .i64 v.ses, sv])).next := by rw [AW.add_next]; omega
  simp only [SX, oBox4, Nat.zero_add]
  generalize hW1 : W.add (.cells [.int .i64 v.sh, .int .i64 v.ttl, .int .i64 v.ses, sv]) = W1 at *
  have c0 : ldC (.pointer (some ⟨W.next, 0, none⟩)) W1 = some (.int .i64 v.sh, W1) := ldC_ok hc rfl
  have c1 : ldC (.pointer (some ⟨W.next, 1, none⟩)) W1 = some (.int .i64 v.ttl, W1) := ldC_ok hc rfl
  have c2 : ldC (.pointer (some ⟨W.next, 2, none⟩)) W1 = some (.int .i64 v.ses, W1) := ldC_ok hc rfl
  have c3 : ldC (.pointer (some ⟨W.next, 3, none⟩)) W1 = some (sv, W1) := ldC_ok hc rfl
  have c4 : ldA 4 (.pointer (some ⟨W.next, 0, none⟩)) W1 = some (venV v sv, W1) := ldA_all hc rfl
  have hs1 := hs.mono hle
  simp only [SX, c0, within_ok, inB_not]
  unfold venE headBad
  cases n1 : outB v.sh 1 16
  case true => simp only [SX, Bool.true_or, if_true, Ok_some]; exact ⟨trivial, hle⟩
  simp only [SX, Nat.zero_add, c1, within_ok, inB_not]
  cases n2 : outB v.ttl 1 1000000000
  case true => simp only [SX, Bool.true_or, Bool.or_true, if_true, Ok_some]; exact ⟨trivial, hle⟩
  simp only [SX, Nat.zero_add, c2, within_ok, inB_not]
  cases n3 : outB v.ses 1 1000000000
  case true => simp only [SX, Bool.true_or, Bool.or_true, if_true, Ok_some]; exact ⟨trivial, hle⟩
  simp only [SX, Nat.zero_add, c3, hs.len lenS, Bool.or_self, Bool.false_eq_true, if_false]
  by_cases n4 : v.secs.length = 0
  case pos =>
    have e : ((v.secs.length : Int) = 0) := by omega
    simp only [SX, e, if_pos n4, Ok_some]; exact ⟨trivial, hle⟩
  have e4 : ¬ ((v.secs.length : Int) = 0) := by omega
  simp only [SX, e4, if_neg n4, Nat.zero_add, c3, hs.len lenS]
  by_cases n5 : 8 < v.secs.length
  case pos =>
    have e : ((8 : Int) < (v.secs.length : Int)) := by omega
    simp only [SX, e, if_pos n5, Ok_some]; exact ⟨trivial, hle⟩
  have e5 : ¬ ((8 : Int) < (v.secs.length : Int)) := by omega
  simp only [SX, e5, if_neg n5]
  refine Ok_loop v.secs.length (by omega) (fun k R W' => W' = W1 ∧ R 1 = .pointer (some ⟨W.next, 0, none⟩) ∧ R 4 = .int .i64 (k : Int) ∧ badK v.secs k = none)
    (fun r => r.2.2 = W1 ∧ ((r.1 = .exit 0 ∧ r.2.1 1 = .pointer (some ⟨W.next, 0, none⟩) ∧ badK v.secs v.secs.length = none) ∨ (r.1 = .ret ∧ ∃ i e, r.2.1 2 = .int .i64 ((i : Nat) : Int) ∧ r.2.1 3 = .int .i64 e ∧ badK v.secs v.secs.length = some (i, e)))) ⟨rfl, rfl, rfl, rfl⟩ ?_ ?_ ?_
  · rintro k R W' hk ⟨rfl, h1, h4, hb⟩
    unfold ref15_Check_L1
    have e1 : ((k : Int) < (v.secs.length : Int)) := by omega
    have e2 : (k : Int) + 1 = ((k + 1 : Nat) : Int) := by omega
    have ea := oBin_add (P := Tryz.prog) (W := W') (t := 3) (c := false) (d := true) (a := (k : Int)) (b := 1) (by omega) (by omega)
    simp only [SX, h1, h4, Nat.zero_add, c3, hs.len lenS, e1, c4, section_ok hs1 hv hk (hr _ (List.getElem_mem hk))]
    have hbs := badK_step hb hk
    by_cases hz : secE v.secs[k] (v.secs.take k) = 0
    · rw [if_pos hz] at hbs
      simp only [SX, hz, ea, Ok_some]
      exact .inl ⟨trivial, trivial, h1, by rw [← e2]; rfl, hbs⟩
    · rw [if_neg hz] at hbs
      simp only [SX, hz, Ok_some]
      exact .inr ⟨by simp, trivial, .inr ⟨trivial, k, _, rfl, rfl, badK_mono hbs (by omega)⟩⟩
  · rintro R W' ⟨rfl, h1, h4, hb⟩
    unfold ref15_Check_L1
    have e1 : ¬ ((v.secs.length : Int) < (v.secs.length : Int)) := by omega
    simp only [SX, h1, h4, Nat.zero_add, c3, hs.len lenS, e1, Ok_some]
    exact ⟨by simp, trivial, .inl ⟨trivial, h1, hb⟩⟩
  · rintro ⟨x, R, W'⟩ ⟨hW, hq⟩
    simp only at hW hq
    subst hW
    rcases hq with ⟨rfl, h1, hb⟩ | ⟨rfl, i, e, h2, h3, hb⟩
    · rw [hb]
      have hg := Good.of (by omega) hb
      obtain ⟨r, W2, q1, q2, q3⟩ := Places_ok hs1 hg
      simp only [SX, h1, c4, q1, q3.len lenP, places_len hg]
      by_cases n6 : 4096 < total v.secs
      · simp only [SX, n6, if_true, Ok_some]
        exact ⟨trivial, hle.trans q2⟩
      · simp only [SX, n6, if_false, Ok_some]
        exact ⟨trivial, hle.trans q2⟩
    · rw [hb]
      simp only [SX, h2, h3, Ok_some]
      exact ⟨trivial, hle⟩
def seatsE (v : Ven) : Int × Int := if (venE v).2 = 0 then (total v.secs, 0) else (0, (venE v).2)
structure RowT where
  sec : Nat
  row : Nat
  first : Int
  many : Int
abbrev rowV (r : RowT) : Value := .agg #[.int .i64 (r.sec : Int), .int .i64 (r.row : Int), .int .i64 r.first, .int .i64 r.many]
def secR (l : List Sec) (i : Nat) (rows : List Int) (k : Nat) : List RowT := (List.range k).map fun j => ⟨i, j, total (l.take i) + sumI (rows.take j), rows.getD j 0⟩
def rowsK (l : List Sec) (n : Nat) : List RowT := (List.range n).flatMap fun i => match l[i]? with
  | some s => secR l i s.rows s.rows.length
  | none => []
def rowsL (l : List Sec) : List RowT := rowsK l l.length
theorem g27 : Tryz.prog.eqGuardType Tryz.prog.depth 117 = false := by kernel_rfl
noncomputable def eqThen (r : Option Bool) : List (Int × Int) → Option Bool
  | [] => r
  | p :: l => match some (p.1 == p.2) with
    | some true => eqThen r l
    | some false => some false
    | none => none
theorem eqThen_eq (b : Bool) : ∀ l : List (Int × Int), eqThen (some b) l = some ((l.all fun p => p.1 == p.2) && b)
  | [] => rfl
  | p :: l => by
    unfold eqThen
    cases h : p.1 == p.2 with
    | true => simp only [List.all_cons, h, Bool.true_and]; exact eqThen_eq b l
    | false => simp only [List.all_cons, h, Bool.false_and]
theorem q27 (k ow un se sc n to t1 t2 t3 t4 nw k' ow' un' se' sc' n' to' t1' t2' t3' t4' nw' : Int) : aEqS Tryz.prog 8 117 (.agg (opArr k ow un se sc n to t1 t2 t3 t4 nw)) (.agg (opArr k' ow' un' se' sc' n' to' t1' t2' t3' t4' nw')) =
  eqThen (match eqAll [(t1, t1'), (t2, t2'), (t3, t3'), (t4, t4')] with | some true => eqAll [(nw, nw')] | some false => some false | none => none) [(k, k'), (ow, ow'), (un, un'), (se, se'), (sc, sc'), (n, n'), (to, to')] := by kernel_rfl
def opEq (k ow un se sc n to t1 t2 t3 t4 nw k' ow' un' se' sc' n' to' t1' t2' t3' t4' nw' : Int) : Bool :=
  ([(k, k'), (ow, ow'), (un, un'), (se, se'), (sc, sc'), (n, n'), (to, to')] : List (Int × Int)).all (fun p => p.1 == p.2) && (([(t1, t1'), (t2, t2'), (t3, t3'), (t4, t4')] : List (Int × Int)).all (fun p => p.1 == p.2) && ([(nw, nw')] : List (Int × Int)).all (fun p => p.1 == p.2))
theorem neq27 (k ow un se sc n to t1 t2 t3 t4 nw k' ow' un' se' sc' n' to' t1' t2' t3' t4' nw' : Int) (c d : Bool) (W : AW) :
    oBin Tryz.prog .neq 117 c d (.agg #[.int .i64 k, .int .u32 ow, .int .i64 un, .int .i64 se, .int .i64 sc, .int .i64 n, .int .u32 to, .int .u32 t1, .int .u32 t2, .int .u64 t3, .int .u64 t4, .int .i64 nw]) (.agg #[.int .i64 k', .int .u32 ow', .int .i64 un', .int .i64 se', .int .i64 sc', .int .i64 n', .int .u32 to', .int .u32 t1', .int .u32 t2', .int .u64 t3', .int .u64 t4', .int .i64 nw']) W =
      some (.bool (!opEq k ow un se sc n to t1 t2 t3 t4 nw k' ow' un' se' sc' n' to' t1' t2' t3' t4' nw'), W) := by
  refine oBin_agg_neq g27 ((q27 ..).trans ?_)
  have h : (match eqAll [(t1, t1'), (t2, t2'), (t3, t3'), (t4, t4')] with | some true => eqAll [(nw, nw')] | some false => some false | none => none) = some (([(t1, t1'), (t2, t2'), (t3, t3'), (t4, t4')] : List (Int × Int)).all (fun p => p.1 == p.2) && ([(nw, nw')] : List (Int × Int)).all (fun p => p.1 == p.2)) := by
    rw [eqAll_eq]
    cases ([(t1, t1'), (t2, t2'), (t3, t3'), (t4, t4')] : List (Int × Int)).all (fun p => p.1 == p.2) with
    | true => rw [Bool.true_and]; exact eqAll_eq _
    | false => rfl
  rw [h, eqThen_eq]
  rfl
theorem e1 : ∀ b0 b1 b2 b3 b4 b5 b6 b7 : Bool, errB b0 b1 b2 b3 b4 b5 b6 b7 1 = if (b1 || (b2 || (b3 || (b4 || (b5 || (b6 || b7)))))) = true then 2 else 0 := by decide +kernel
theorem e7 : ∀ b0 b1 b2 b3 b4 b5 b6 b7 : Bool, errB b0 b1 b2 b3 b4 b5 b6 b7 7 = if (b3 || (b4 || (b5 || (b6 || b7)))) = true then 2 else 0 := by decide +kernel
theorem e27 : ∀ b0 b1 b2 b3 b4 b5 b6 b7 : Bool, errB b0 b1 b2 b3 b4 b5 b6 b7 27 = if (b2 || (b5 || (b6 || b7))) = true then 2 else 0 := by decide +kernel
theorem e99 : ∀ b0 b1 b2 b3 b4 b5 b6 b7 : Bool, errB b0 b1 b2 b3 b4 b5 b6 b7 99 = if (b2 || (b3 || (b4 || b7))) = true then 2 else 0 := by decide +kernel
theorem e67 : ∀ b0 b1 b2 b3 b4 b5 b6 b7 : Bool, errB b0 b1 b2 b3 b4 b5 b6 b7 67 = if (b2 || (b3 || (b4 || (b5 || b7)))) = true then 2 else 0 := by decide +kernel
theorem e64 : ∀ b0 b1 b2 b3 b4 b5 b6 b7 : Bool, errB b0 b1 b2 b3 b4 b5 b6 b7 64 = if (b0 || (b1 || (b2 || (b3 || (b4 || (b5 || b7)))))) = true then 2 else 0 := by decide +kernel
theorem e11 : ∀ b0 b1 b2 b3 b4 b5 b6 b7 : Bool, errB b0 b1 b2 b3 b4 b5 b6 b7 11 = if (b2 || (b4 || (b5 || (b6 || b7)))) = true then 2 else 0 := by decide +kernel
theorem e128 : ∀ b0 b1 b2 b3 b4 b5 b6 b7 : Bool, errB b0 b1 b2 b3 b4 b5 b6 b7 128 = if (b0 || (b1 || (b2 || (b3 || (b4 || (b5 || b6)))))) = true then 2 else 0 := by decide +kernel
theorem al27 (W : AW) : oAlloc Tryz.prog 117 W = some (.pointer (some ⟨W.next, 0, none⟩), W.add (.cells [.int .i64 0, .int .u32 0, .int .i64 0, .int .i64 0, .int .i64 0, .int .i64 0, .int .u32 0, .int .u32 0, .int .u32 0, .int .u64 0, .int .u64 0, .int .i64 0])) := Eq.trans (by kernel_rfl) rfl
theorem bd27 (k : Int) (W : AW) : oBuild Tryz.prog 117 [(0, .int .i64 k)] W = some (.agg #[.int .i64 k, .int .u32 0, .int .i64 0, .int .i64 0, .int .i64 0, .int .i64 0, .int .u32 0, .int .u32 0, .int .u32 0, .int .u64 0, .int .u64 0, .int .i64 0], W) := Eq.trans (by kernel_rfl) rfl
theorem ck1 (ow un se sc n to t1 t2 t3 t4 nw : Int) : chkE 1 ow un se sc n to t1 t2 t3 t4 nw = if opEq 1 ow 0 0 0 0 0 0 0 0 0 0 1 ow un se sc n to t1 t2 t3 t4 nw = true then 0 else 2 := by
  have h : chkE 1 ow un se sc n to t1 t2 t3 t4 nw = errOp ow un se sc n to t1 t2 t3 t4 nw 1 := rfl
  rw [h]
  unfold errOp
  rw [e1]
  unfold opEq
  simp only [List.all_cons, List.all_nil, Bool.and_true, Bool.or_eq_true, Bool.and_eq_true, beq_iff_eq, Bool.not_eq_true', decide_eq_false_iff_not, Bool.and_eq_false_iff, beq_eq_false_iff_ne, true_and, and_true, ne_eq]
  split <;> split <;> first | rfl | (exfalso; omega)
theorem ck2 (ow un se sc n to t1 t2 t3 t4 nw : Int) : chkE 2 ow un se sc n to t1 t2 t3 t4 nw = if opEq 2 ow un se 0 0 0 0 0 0 0 0 2 ow un se sc n to t1 t2 t3 t4 nw = true then 0 else 2 := by
  have h : chkE 2 ow un se sc n to t1 t2 t3 t4 nw = errOp ow un se sc n to t1 t2 t3 t4 nw 7 := rfl
  rw [h]
  unfold errOp
  rw [e7]
  unfold opEq
  simp only [List.all_cons, List.all_nil, Bool.and_true, Bool.or_eq_true, Bool.and_eq_true, beq_iff_eq, Bool.not_eq_true', decide_eq_false_iff_not, Bool.and_eq_false_iff, beq_eq_false_iff_ne, true_and, and_true, ne_eq]
  split <;> split <;> first | rfl | (exfalso; omega)
theorem ck3 (ow un se sc n to t1 t2 t3 t4 nw : Int) : chkE 3 ow un se sc n to t1 t2 t3 t4 nw = if opEq 3 ow un 0 sc n 0 0 0 0 0 0 3 ow un se sc n to t1 t2 t3 t4 nw = true then 0 else 2 := by
  have h : chkE 3 ow un se sc n to t1 t2 t3 t4 nw = errOp ow un se sc n to t1 t2 t3 t4 nw 27 := rfl
  rw [h]
  unfold errOp
  rw [e27]
  unfold opEq
  simp only [List.all_cons, List.all_nil, Bool.and_true, Bool.or_eq_true, Bool.and_eq_true, beq_iff_eq, Bool.not_eq_true', decide_eq_false_iff_not, Bool.and_eq_false_iff, beq_eq_false_iff_ne, true_and, and_true, ne_eq]
  split <;> split <;> first | rfl | (exfalso; omega)
theorem ck4 (ow un se sc n to t1 t2 t3 t4 nw : Int) : chkE 4 ow un se sc n to t1 t2 t3 t4 nw = if opEq 4 ow un se 0 0 0 0 0 0 0 0 4 ow un se sc n to t1 t2 t3 t4 nw = true then 0 else 2 := by
  have h : chkE 4 ow un se sc n to t1 t2 t3 t4 nw = errOp ow un se sc n to t1 t2 t3 t4 nw 7 := rfl
  rw [h]
  unfold errOp
  rw [e7]
  unfold opEq
  simp only [List.all_cons, List.all_nil, Bool.and_true, Bool.or_eq_true, Bool.and_eq_true, beq_iff_eq, Bool.not_eq_true', decide_eq_false_iff_not, Bool.and_eq_false_iff, beq_eq_false_iff_ne, true_and, and_true, ne_eq]
  split <;> split <;> first | rfl | (exfalso; omega)
theorem ck5 (ow un se sc n to t1 t2 t3 t4 nw : Int) : chkE 5 ow un se sc n to t1 t2 t3 t4 nw = if opEq 5 ow un se 0 0 0 0 0 0 0 0 5 ow un se sc n to t1 t2 t3 t4 nw = true then 0 else 2 := by
  have h : chkE 5 ow un se sc n to t1 t2 t3 t4 nw = errOp ow un se sc n to t1 t2 t3 t4 nw 7 := rfl
  rw [h]
  unfold errOp
  rw [e7]
  unfold opEq
  simp only [List.all_cons, List.all_nil, Bool.and_true, Bool.or_eq_true, Bool.and_eq_true, beq_iff_eq, Bool.not_eq_true', decide_eq_false_iff_not, Bool.and_eq_false_iff, beq_eq_false_iff_ne, true_and, and_true, ne_eq]
  split <;> split <;> first | rfl | (exfalso; omega)
theorem ck6 (ow un se sc n to t1 t2 t3 t4 nw : Int) : chkE 6 ow un se sc n to t1 t2 t3 t4 nw = if opEq 6 ow un 0 0 0 to t1 t2 t3 t4 0 6 ow un se sc n to t1 t2 t3 t4 nw = true then 0 else 2 := by
  have h : chkE 6 ow un se sc n to t1 t2 t3 t4 nw = errOp ow un se sc n to t1 t2 t3 t4 nw 99 := rfl
  rw [h]
  unfold errOp
  rw [e99]
  unfold opEq
  simp only [List.all_cons, List.all_nil, Bool.and_true, Bool.or_eq_true, Bool.and_eq_true, beq_iff_eq, Bool.not_eq_true', decide_eq_false_iff_not, Bool.and_eq_false_iff, beq_eq_false_iff_ne, true_and, and_true, ne_eq]
  split <;> split <;> first | rfl | (exfalso; omega)
theorem ck7 (ow un se sc n to t1 t2 t3 t4 nw : Int) : chkE 7 ow un se sc n to t1 t2 t3 t4 nw = if opEq 7 ow un 0 0 0 0 t1 t2 t3 t4 0 7 ow un se sc n to t1 t2 t3 t4 nw = true then 0 else 2 := by
  have h : chkE 7 ow un se sc n to t1 t2 t3 t4 nw = errOp ow un se sc n to t1 t2 t3 t4 nw 67 := rfl
  rw [h]
  unfold errOp
  rw [e67]
  unfold opEq
  simp only [List.all_cons, List.all_nil, Bool.and_true, Bool.or_eq_true, Bool.and_eq_true, beq_iff_eq, Bool.not_eq_true', decide_eq_false_iff_not, Bool.and_eq_false_iff, beq_eq_false_iff_ne, true_and, and_true, ne_eq]
  split <;> split <;> first | rfl | (exfalso; omega)
theorem ck8 (ow un se sc n to t1 t2 t3 t4 nw : Int) : chkE 8 ow un se sc n to t1 t2 t3 t4 nw = if opEq 8 ow un se 0 0 0 0 0 0 0 0 8 ow un se sc n to t1 t2 t3 t4 nw = true then 0 else 2 := by
  have h : chkE 8 ow un se sc n to t1 t2 t3 t4 nw = errOp ow un se sc n to t1 t2 t3 t4 nw 7 := rfl
  rw [h]
  unfold errOp
  rw [e7]
  unfold opEq
  simp only [List.all_cons, List.all_nil, Bool.and_true, Bool.or_eq_true, Bool.and_eq_true, beq_iff_eq, Bool.not_eq_true', decide_eq_false_iff_not, Bool.and_eq_false_iff, beq_eq_false_iff_ne, true_and, and_true, ne_eq]
  split <;> split <;> first | rfl | (exfalso; omega)
theorem ck9 (ow un se sc n to t1 t2 t3 t4 nw : Int) : chkE 9 ow un se sc n to t1 t2 t3 t4 nw = if opEq 9 0 0 0 0 0 0 t1 t2 t3 t4 0 9 ow un se sc n to t1 t2 t3 t4 nw = true then 0 else 2 := by
  have h : chkE 9 ow un se sc n to t1 t2 t3 t4 nw = errOp ow un se sc n to t1 t2 t3 t4 nw 64 := rfl
  rw [h]
  unfold errOp
  rw [e64]
  unfold opEq
  simp only [List.all_cons, List.all_nil, Bool.and_true, Bool.or_eq_true, Bool.and_eq_true, beq_iff_eq, Bool.not_eq_true', decide_eq_false_iff_not, Bool.and_eq_false_iff, beq_eq_false_iff_ne, true_and, and_true, ne_eq]
  split <;> split <;> first | rfl | (exfalso; omega)
theorem ck10 (ow un se sc n to t1 t2 t3 t4 nw : Int) : chkE 10 ow un se sc n to t1 t2 t3 t4 nw = if opEq 10 ow un 0 sc 0 0 0 0 0 0 0 10 ow un se sc n to t1 t2 t3 t4 nw = true then 0 else 2 := by
  have h : chkE 10 ow un se sc n to t1 t2 t3 t4 nw = errOp ow un se sc n to t1 t2 t3 t4 nw 11 := rfl
  rw [h]
  unfold errOp
  rw [e11]
  unfold opEq
  simp only [List.all_cons, List.all_nil, Bool.and_true, Bool.or_eq_true, Bool.and_eq_true, beq_iff_eq, Bool.not_eq_true', decide_eq_false_iff_not, Bool.and_eq_false_iff, beq_eq_false_iff_ne, true_and, and_true, ne_eq]
  split <;> split <;> first | rfl | (exfalso; omega)
theorem ck11 (ow un se sc n to t1 t2 t3 t4 nw : Int) : chkE 11 ow un se sc n to t1 t2 t3 t4 nw = if opEq 11 ow un 0 sc 0 0 0 0 0 0 0 11 ow un se sc n to t1 t2 t3 t4 nw = true then 0 else 2 := by
  have h : chkE 11 ow un se sc n to t1 t2 t3 t4 nw = errOp ow un se sc n to t1 t2 t3 t4 nw 11 := rfl
  rw [h]
  unfold errOp
  rw [e11]
  unfold opEq
  simp only [List.all_cons, List.all_nil, Bool.and_true, Bool.or_eq_true, Bool.and_eq_true, beq_iff_eq, Bool.not_eq_true', decide_eq_false_iff_not, Bool.and_eq_false_iff, beq_eq_false_iff_ne, true_and, and_true, ne_eq]
  split <;> split <;> first | rfl | (exfalso; omega)
theorem ck12 (ow un se sc n to t1 t2 t3 t4 nw : Int) : chkE 12 ow un se sc n to t1 t2 t3 t4 nw = if opEq 12 0 0 0 0 0 0 0 0 0 0 nw 12 ow un se sc n to t1 t2 t3 t4 nw = true then 0 else 2 := by
  have h : chkE 12 ow un se sc n to t1 t2 t3 t4 nw = errOp ow un se sc n to t1 t2 t3 t4 nw 128 := rfl
  rw [h]
  unfold errOp
  rw [e128]
  unfold opEq
  simp only [List.all_cons, List.all_nil, Bool.and_true, Bool.or_eq_true, Bool.and_eq_true, beq_iff_eq, Bool.not_eq_true', decide_eq_false_iff_not, Bool.and_eq_false_iff, beq_eq_false_iff_ne, true_and, and_true, ne_eq]
  split <;> split <;> first | rfl | (exfalso; omega)
theorem refCheck_1 (ow un se sc n to t1 t2 t3 t4 nw : Int) (W : AW) : Ok (ref22_Check omS (.agg (opArr 1 ow un se sc n to t1 t2 t3 t4 nw)) W) fun r => r.1 = .int .i64 (chkE 1 ow un se sc n to t1 t2 t3 t4 nw) ∧ Le W r.2 := by
  unfold ref22_Check opArr
  repeat (first | (refine Ok_step (by simp (disch := first | omega | (simp only [vs1_int, vs1_string, vs1_bool, vs1_slice, vs1_snil, vs1_ptr]; done) | (simp only [AW.add_next, AW.put_next, AW.kill_next]; omega)) only [SX, MX, setN, Nat.reduceAdd, Int.reduceEq, Int.reduceLT, Int.reduceLE, Int.reduceNeg, Nat.reduceLT, Nat.reduceLeDiff, Nat.reduceEqDiff, Int.reduceToNat, Nat.reduceMul, bd27, al27, neq27]; rfl) ?_; dsimp only) | refine Ok_bT (by simp (disch := first | omega | (simp only [vs1_int, vs1_string, vs1_bool, vs1_slice, vs1_snil, vs1_ptr]; done) | (simp only [AW.add_next, AW.put_next, AW.kill_next]; omega)) only [SX, MX, setN, Nat.reduceAdd, Int.reduceEq, Int.reduceLT, Int.reduceLE, Int.reduceNeg, Nat.reduceLT, Nat.reduceLeDiff, Nat.reduceEqDiff, Int.reduceToNat, Nat.reduceMul, bd27, al27, neq27]) ?_ | refine Ok_bF (by simp (disch := first | omega | (simp only [vs1_int, vs1_string, vs1_bool, vs1_slice, vs1_snil, vs1_ptr]; done) | (simp only [AW.add_next, AW.put_next, AW.kill_next]; omega)) only [SX, MX, setN, Nat.reduceAdd, Int.reduceEq, Int.reduceLT, Int.reduceLE, Int.reduceNeg, Nat.reduceLT, Nat.reduceLeDiff, Nat.reduceEqDiff, Int.reduceToNat, Nat.reduceMul, bd27, al27, neq27]) ?_)
  cases hb : opEq 1 ow 0 0 0 0 0 0 0 0 0 0 1 ow un se sc n to t1 t2 t3 t4 nw <;> repeat (first | (refine Ok_step (by simp (disch := first | omega | (simp only [vs1_int, vs1_string, vs1_bool, vs1_slice, vs1_snil, vs1_ptr]; done) | (simp only [AW.add_next, AW.put_next, AW.kill_next]; omega)) only [SX, MX, setN, Nat.reduceAdd, Int.reduceEq, Int.reduceLT, Int.reduceLE, Int.reduceNeg, Nat.reduceLT, Nat.reduceLeDiff, Nat.reduceEqDiff, Int.reduceToNat, Nat.reduceMul]; rfl) ?_; dsimp only) | refine Ok_bT (by simp (disch := first | omega | (simp only [vs1_int, vs1_string, vs1_bool, vs1_slice, vs1_snil, vs1_ptr]; done) | (simp only [AW.add_next, AW.put_next, AW.kill_next]; omega)) only [SX, MX, setN, Nat.reduceAdd, Int.reduceEq, Int.reduceLT, Int.reduceLE, Int.reduceNeg, Nat.reduceLT, Nat.reduceLeDiff, Nat.reduceEqDiff, Int.reduceToNat, Nat.reduceMul]) ?_ | refine Ok_bF (by simp (disch := first | omega | (simp only [vs1_int, vs1_string, vs1_bool, vs1_slice, vs1_snil, vs1_ptr]; done) | (simp only [AW.add_next, AW.put_next, AW.kill_next]; omega)) only [SX, MX, setN, Nat.reduceAdd, Int.reduceEq, Int.reduceLT, Int.reduceLE, Int.reduceNeg, Nat.reduceLT, Nat.reduceLeDiff, Nat.reduceEqDiff, Int.reduceToNat, Nat.reduceMul]) ?_) <;> exact Ok_some.2 ⟨by rw [ck1, hb]; rfl, ((Le.refl _).add _).add _⟩
theorem refCheck_2 (ow un se sc n to t1 t2 t3 t4 nw : Int) (W : AW) : Ok (ref22_Check omS (.agg (opArr 2 ow un se sc n to t1 t2 t3 t4 nw)) W) fun r => r.1 = .int .i64 (chkE 2 ow un se sc n to t1 t2 t3 t4 nw) ∧ Le W r.2 := by
  unfold ref22_Check opArr
  repeat (first | (refine Ok_step (by simp (disch := first | omega | (simp only [vs1_int, vs1_string, vs1_bool, vs1_slice, vs1_snil, vs1_ptr]; done) | (simp only [AW.add_next, AW.put_next, AW.kill_next]; omega)) only [SX, MX, setN, Nat.reduceAdd, Int.reduceEq, Int.reduceLT, Int.reduceLE, Int.reduceNeg, Nat.reduceLT, Nat.reduceLeDiff, Nat.reduceEqDiff, Int.reduceToNat, Nat.reduceMul, bd27, al27, neq27]; rfl) ?_; dsimp only) | refine Ok_bT (by simp (disch := first | omega | (simp only [vs1_int, vs1_string, vs1_bool, vs1_slice, vs1_snil, vs1_ptr]; done) | (simp only [AW.add_next, AW.put_next, AW.kill_next]; omega)) only [SX, MX, setN, Nat.reduceAdd, Int.reduceEq, Int.reduceLT, Int.reduceLE, Int.reduceNeg, Nat.reduceLT, Nat.reduceLeDiff, Nat.reduceEqDiff, Int.reduceToNat, Nat.reduceMul, bd27, al27, neq27]) ?_ | refine Ok_bF (by simp (disch := first | omega | (simp only [vs1_int, vs1_string, vs1_bool, vs1_slice, vs1_snil, vs1_ptr]; done) | (simp only [AW.add_next, AW.put_next, AW.kill_next]; omega)) only [SX, MX, setN, Nat.reduceAdd, Int.reduceEq, Int.reduceLT, Int.reduceLE, Int.reduceNeg, Nat.reduceLT, Nat.reduceLeDiff, Nat.reduceEqDiff, Int.reduceToNat, Nat.reduceMul, bd27, al27, neq27]) ?_)
  cases hb : opEq 2 ow un se 0 0 0 0 0 0 0 0 2 ow un se sc n to t1 t2 t3 t4 nw <;> repeat (first | (refine Ok_step (by simp (disch := first | omega | (simp only [vs1_int, vs1_string, vs1_bool, vs1_slice, vs1_snil, vs1_ptr]; done) | (simp only [AW.add_next, AW.put_next, AW.kill_next]; omega)) only [SX, MX, setN, Nat.reduceAdd, Int.reduceEq, Int.reduceLT, Int.reduceLE, Int.reduceNeg, Nat.reduceLT, Nat.reduceLeDiff, Nat.reduceEqDiff, Int.reduceToNat, Nat.reduceMul]; rfl) ?_; dsimp only) | refine Ok_bT (by simp (disch := first | omega | (simp only [vs1_int, vs1_string, vs1_bool, vs1_slice, vs1_snil, vs1_ptr]; done) | (simp only [AW.add_next, AW.put_next, AW.kill_next]; omega)) only [SX, MX, setN, Nat.reduceAdd, Int.reduceEq, Int.reduceLT, Int.reduceLE, Int.reduceNeg, Nat.reduceLT, Nat.reduceLeDiff, Nat.reduceEqDiff, Int.reduceToNat, Nat.reduceMul]) ?_ | refine Ok_bF (by simp (disch := first | omega | (simp only [vs1_int, vs1_string, vs1_bool, vs1_slice, vs1_snil, vs1_ptr]; done) | (simp only [AW.add_next, AW.put_next, AW.kill_next]; omega)) only [SX, MX, setN, Nat.reduceAdd, Int.reduceEq, Int.reduceLT, Int.reduceLE, Int.reduceNeg, Nat.reduceLT, Nat.reduceLeDiff, Nat.reduceEqDiff, Int.reduceToNat, Nat.reduceMul]) ?_) <;> exact Ok_some.2 ⟨by rw [ck2, hb]; rfl, ((Le.refl _).add _).add _⟩
theorem refCheck_3 (ow un se sc n to t1 t2 t3 t4 nw : Int) (W : AW) : Ok (ref22_Check omS (.agg (opArr 3 ow un se sc n to t1 t2 t3 t4 nw)) W) fun r => r.1 = .int .i64 (chkE 3 ow un se sc n to t1 t2 t3 t4 nw) ∧ Le W r.2 := by
  unfold ref22_Check opArr
  repeat (first | (refine Ok_step (by simp (disch := first | omega | (simp only [vs1_int, vs1_string, vs1_bool, vs1_slice, vs1_snil, vs1_ptr]; done) | (simp only [AW.add_next, AW.put_next, AW.kill_next]; omega)) only [SX, MX, setN, Nat.reduceAdd, Int.reduceEq, Int.reduceLT, Int.reduceLE, Int.reduceNeg, Nat.reduceLT, Nat.reduceLeDiff, Nat.reduceEqDiff, Int.reduceToNat, Nat.reduceMul, bd27, al27, neq27]; rfl) ?_; dsimp only) | refine Ok_bT (by simp (disch := first | omega | (simp only [vs1_int, vs1_string, vs1_bool, vs1_slice, vs1_snil, vs1_ptr]; done) | (simp only [AW.add_next, AW.put_next, AW.kill_next]; omega)) only [SX, MX, setN, Nat.reduceAdd, Int.reduceEq, Int.reduceLT, Int.reduceLE, Int.reduceNeg, Nat.reduceLT, Nat.reduceLeDiff, Nat.reduceEqDiff, Int.reduceToNat, Nat.reduceMul, bd27, al27, neq27]) ?_ | refine Ok_bF (by simp (disch := first | omega | (simp only [vs1_int, vs1_string, vs1_bool, vs1_slice, vs1_snil, vs1_ptr]; done) | (simp only [AW.add_next, AW.put_next, AW.kill_next]; omega)) only [SX, MX, setN, Nat.reduceAdd, Int.reduceEq, Int.reduceLT, Int.reduceLE, Int.reduceNeg, Nat.reduceLT, Nat.reduceLeDiff, Nat.reduceEqDiff, Int.reduceToNat, Nat.reduceMul, bd27, al27, neq27]) ?_)
  cases hb : opEq 3 ow un 0 sc n 0 0 0 0 0 0 3 ow un se sc n to t1 t2 t3 t4 nw <;> repeat (first | (refine Ok_step (by simp (disch := first | omega | (simp only [vs1_int, vs1_string, vs1_bool, vs1_slice, vs1_snil, vs1_ptr]; done) | (simp only [AW.add_next, AW.put_next, AW.kill_next]; omega)) only [SX, MX, setN, Nat.reduceAdd, Int.reduceEq, Int.reduceLT, Int.reduceLE, Int.reduceNeg, Nat.reduceLT, Nat.reduceLeDiff, Nat.reduceEqDiff, Int.reduceToNat, Nat.reduceMul]; rfl) ?_; dsimp only) | refine Ok_bT (by simp (disch := first | omega | (simp only [vs1_int, vs1_string, vs1_bool, vs1_slice, vs1_snil, vs1_ptr]; done) | (simp only [AW.add_next, AW.put_next, AW.kill_next]; omega)) only [SX, MX, setN, Nat.reduceAdd, Int.reduceEq, Int.reduceLT, Int.reduceLE, Int.reduceNeg, Nat.reduceLT, Nat.reduceLeDiff, Nat.reduceEqDiff, Int.reduceToNat, Nat.reduceMul]) ?_ | refine Ok_bF (by simp (disch := first | omega | (simp only [vs1_int, vs1_string, vs1_bool, vs1_slice, vs1_snil, vs1_ptr]; done) | (simp only [AW.add_next, AW.put_next, AW.kill_next]; omega)) only [SX, MX, setN, Nat.reduceAdd, Int.reduceEq, Int.reduceLT, Int.reduceLE, Int.reduceNeg, Nat.reduceLT, Nat.reduceLeDiff, Nat.reduceEqDiff, Int.reduceToNat, Nat.reduceMul]) ?_) <;> exact Ok_some.2 ⟨by rw [ck3, hb]; rfl, ((Le.refl _).add _).add _⟩
theorem refCheck_4 (ow un se sc n to t1 t2 t3 t4 nw : Int) (W : AW) : Ok (ref22_Check omS (.agg (opArr 4 ow un se sc n to t1 t2 t3 t4 nw)) W) fun r => r.1 = .int .i64 (chkE 4 ow un se sc n to t1 t2 t3 t4 nw) ∧ Le W r.2 := by
  unfold ref22_Check opArr
  repeat (first | (refine Ok_step (by simp (disch := first | omega | (simp only [vs1_int, vs1_string, vs1_bool, vs1_slice, vs1_snil, vs1_ptr]; done) | (simp only [AW.add_next, AW.put_next, AW.kill_next]; omega)) only [SX, MX, setN, Nat.reduceAdd, Int.reduceEq, Int.reduceLT, Int.reduceLE, Int.reduceNeg, Nat.reduceLT, Nat.reduceLeDiff, Nat.reduceEqDiff, Int.reduceToNat, Nat.reduceMul, bd27, al27, neq27]; rfl) ?_; dsimp only) | refine Ok_bT (by simp (disch := first | omega | (simp only [vs1_int, vs1_string, vs1_bool, vs1_slice, vs1_snil, vs1_ptr]; done) | (simp only [AW.add_next, AW.put_next, AW.kill_next]; omega)) only [SX, MX, setN, Nat.reduceAdd, Int.reduceEq, Int.reduceLT, Int.reduceLE, Int.reduceNeg, Nat.reduceLT, Nat.reduceLeDiff, Nat.reduceEqDiff, Int.reduceToNat, Nat.reduceMul, bd27, al27, neq27]) ?_ | refine Ok_bF (by simp (disch := first | omega | (simp only [vs1_int, vs1_string, vs1_bool, vs1_slice, vs1_snil, vs1_ptr]; done) | (simp only [AW.add_next, AW.put_next, AW.kill_next]; omega)) only [SX, MX, setN, Nat.reduceAdd, Int.reduceEq, Int.reduceLT, Int.reduceLE, Int.reduceNeg, Nat.reduceLT, Nat.reduceLeDiff, Nat.reduceEqDiff, Int.reduceToNat, Nat.reduceMul, bd27, al27, neq27]) ?_)
  cases hb : opEq 4 ow un se 0 0 0 0 0 0 0 0 4 ow un se sc n to t1 t2 t3 t4 nw <;> repeat (first | (refine Ok_step (by simp (disch := first | omega | (simp only [vs1_int, vs1_string, vs1_bool, vs1_slice, vs1_snil, vs1_ptr]; done) | (simp only [AW.add_next, AW.put_next, AW.kill_next]; omega)) only [SX, MX, setN, Nat.reduceAdd, Int.reduceEq, Int.reduceLT, Int.reduceLE, Int.reduceNeg, Nat.reduceLT, Nat.reduceLeDiff, Nat.reduceEqDiff, Int.reduceToNat, Nat.reduceMul]; rfl) ?_; dsimp only) | refine Ok_bT (by simp (disch := first | omega | (simp only [vs1_int, vs1_string, vs1_bool, vs1_slice, vs1_snil, vs1_ptr]; done) | (simp only [AW.add_next, AW.put_next, AW.kill_next]; omega)) only [SX, MX, setN, Nat.reduceAdd, Int.reduceEq, Int.reduceLT, Int.reduceLE, Int.reduceNeg, Nat.reduceLT, Nat.reduceLeDiff, Nat.reduceEqDiff, Int.reduceToNat, Nat.reduceMul]) ?_ | refine Ok_bF (by simp (disch := first | omega | (simp only [vs1_int, vs1_string, vs1_bool, vs1_slice, vs1_snil, vs1_ptr]; done) | (simp only [AW.add_next, AW.put_next, AW.kill_next]; omega)) only [SX, MX, setN, Nat.reduceAdd, Int.reduceEq, Int.reduceLT, Int.reduceLE, Int.reduceNeg, Nat.reduceLT, Nat.reduceLeDiff, Nat.reduceEqDiff, Int.reduceToNat, Nat.reduceMul]) ?_) <;> exact Ok_some.2 ⟨by rw [ck4, hb]; rfl, ((Le.refl _).add _).add _⟩
theorem refCheck_5 (ow un se sc n to t1 t2 t3 t4 nw : Int) (W : AW) : Ok (ref22_Check omS (.agg (opArr 5 ow un se sc n to t1 t2 t3 t4 nw)) W) fun r => r.1 = .int .i64 (chkE 5 ow un se sc n to t1 t2 t3 t4 nw) ∧ Le W r.2 := by
  unfold ref22_Check opArr
  repeat (first | (refine Ok_step (by simp (disch := first | omega | (simp only [vs1_int, vs1_string, vs1_bool, vs1_slice, vs1_snil, vs1_ptr]; done) | (simp only [AW.add_next, AW.put_next, AW.kill_next]; omega)) only [SX, MX, setN, Nat.reduceAdd, Int.reduceEq, Int.reduceLT, Int.reduceLE, Int.reduceNeg, Nat.reduceLT, Nat.reduceLeDiff, Nat.reduceEqDiff, Int.reduceToNat, Nat.reduceMul, bd27, al27, neq27]; rfl) ?_; dsimp only) | refine Ok_bT (by simp (disch := first | omega | (simp only [vs1_int, vs1_string, vs1_bool, vs1_slice, vs1_snil, vs1_ptr]; done) | (simp only [AW.add_next, AW.put_next, AW.kill_next]; omega)) only [SX, MX, setN, Nat.reduceAdd, Int.reduceEq, Int.reduceLT, Int.reduceLE, Int.reduceNeg, Nat.reduceLT, Nat.reduceLeDiff, Nat.reduceEqDiff, Int.reduceToNat, Nat.reduceMul, bd27, al27, neq27]) ?_ | refine Ok_bF (by simp (disch := first | omega | (simp only [vs1_int, vs1_string, vs1_bool, vs1_slice, vs1_snil, vs1_ptr]; done) | (simp only [AW.add_next, AW.put_next, AW.kill_next]; omega)) only [SX, MX, setN, Nat.reduceAdd, Int.reduceEq, Int.reduceLT, Int.reduceLE, Int.reduceNeg, Nat.reduceLT, Nat.reduceLeDiff, Nat.reduceEqDiff, Int.reduceToNat, Nat.reduceMul, bd27, al27, neq27]) ?_)
  cases hb : opEq 5 ow un se 0 0 0 0 0 0 0 0 5 ow un se sc n to t1 t2 t3 t4 nw <;> repeat (first | (refine Ok_step (by simp (disch := first | omega | (simp only [vs1_int, vs1_string, vs1_bool, vs1_slice, vs1_snil, vs1_ptr]; done) | (simp only [AW.add_next, AW.put_next, AW.kill_next]; omega)) only [SX, MX, setN, Nat.reduceAdd, Int.reduceEq, Int.reduceLT, Int.reduceLE, Int.reduceNeg, Nat.reduceLT, Nat.reduceLeDiff, Nat.reduceEqDiff, Int.reduceToNat, Nat.reduceMul]; rfl) ?_; dsimp only) | refine Ok_bT (by simp (disch := first | omega | (simp only [vs1_int, vs1_string, vs1_bool, vs1_slice, vs1_snil, vs1_ptr]; done) | (simp only [AW.add_next, AW.put_next, AW.kill_next]; omega)) only [SX, MX, setN, Nat.reduceAdd, Int.reduceEq, Int.reduceLT, Int.reduceLE, Int.reduceNeg, Nat.reduceLT, Nat.reduceLeDiff, Nat.reduceEqDiff, Int.reduceToNat, Nat.reduceMul]) ?_ | refine Ok_bF (by simp (disch := first | omega | (simp only [vs1_int, vs1_string, vs1_bool, vs1_slice, vs1_snil, vs1_ptr]; done) | (simp only [AW.add_next, AW.put_next, AW.kill_next]; omega)) only [SX, MX, setN, Nat.reduceAdd, Int.reduceEq, Int.reduceLT, Int.reduceLE, Int.reduceNeg, Nat.reduceLT, Nat.reduceLeDiff, Nat.reduceEqDiff, Int.reduceToNat, Nat.reduceMul]) ?_) <;> exact Ok_some.2 ⟨by rw [ck5, hb]; rfl, ((Le.refl _).add _).add _⟩
theorem refCheck_6 (ow un se sc n to t1 t2 t3 t4 nw : Int) (W : AW) : Ok (ref22_Check omS (.agg (opArr 6 ow un se sc n to t1 t2 t3 t4 nw)) W) fun r => r.1 = .int .i64 (chkE 6 ow un se sc n to t1 t2 t3 t4 nw) ∧ Le W r.2 := by
  unfold ref22_Check opArr
  repeat (first | (refine Ok_step (by simp (disch := first | omega | (simp only [vs1_int, vs1_string, vs1_bool, vs1_slice, vs1_snil, vs1_ptr]; done) | (simp only [AW.add_next, AW.put_next, AW.kill_next]; omega)) only [SX, MX, setN, Nat.reduceAdd, Int.reduceEq, Int.reduceLT, Int.reduceLE, Int.reduceNeg, Nat.reduceLT, Nat.reduceLeDiff, Nat.reduceEqDiff, Int.reduceToNat, Nat.reduceMul, bd27, al27, neq27]; rfl) ?_; dsimp only) | refine Ok_bT (by simp (disch := first | omega | (simp only [vs1_int, vs1_string, vs1_bool, vs1_slice, vs1_snil, vs1_ptr]; done) | (simp only [AW.add_next, AW.put_next, AW.kill_next]; omega)) only [SX, MX, setN, Nat.reduceAdd, Int.reduceEq, Int.reduceLT, Int.reduceLE, Int.reduceNeg, Nat.reduceLT, Nat.reduceLeDiff, Nat.reduceEqDiff, Int.reduceToNat, Nat.reduceMul, bd27, al27, neq27]) ?_ | refine Ok_bF (by simp (disch := first | omega | (simp only [vs1_int, vs1_string, vs1_bool, vs1_slice, vs1_snil, vs1_ptr]; done) | (simp only [AW.add_next, AW.put_next, AW.kill_next]; omega)) only [SX, MX, setN, Nat.reduceAdd, Int.reduceEq, Int.reduceLT, Int.reduceLE, Int.reduceNeg, Nat.reduceLT, Nat.reduceLeDiff, Nat.reduceEqDiff, Int.reduceToNat, Nat.reduceMul, bd27, al27, neq27]) ?_)
  cases hb : opEq 6 ow un 0 0 0 to t1 t2 t3 t4 0 6 ow un se sc n to t1 t2 t3 t4 nw <;> repeat (first | (refine Ok_step (by simp (disch := first | omega | (simp only [vs1_int, vs1_string, vs1_bool, vs1_slice, vs1_snil, vs1_ptr]; done) | (simp only [AW.add_next, AW.put_next, AW.kill_next]; omega)) only [SX, MX, setN, Nat.reduceAdd, Int.reduceEq, Int.reduceLT, Int.reduceLE, Int.reduceNeg, Nat.reduceLT, Nat.reduceLeDiff, Nat.reduceEqDiff, Int.reduceToNat, Nat.reduceMul]; rfl) ?_; dsimp only) | refine Ok_bT (by simp (disch := first | omega | (simp only [vs1_int, vs1_string, vs1_bool, vs1_slice, vs1_snil, vs1_ptr]; done) | (simp only [AW.add_next, AW.put_next, AW.kill_next]; omega)) only [SX, MX, setN, Nat.reduceAdd, Int.reduceEq, Int.reduceLT, Int.reduceLE, Int.reduceNeg, Nat.reduceLT, Nat.reduceLeDiff, Nat.reduceEqDiff, Int.reduceToNat, Nat.reduceMul]) ?_ | refine Ok_bF (by simp (disch := first | omega | (simp only [vs1_int, vs1_string, vs1_bool, vs1_slice, vs1_snil, vs1_ptr]; done) | (simp only [AW.add_next, AW.put_next, AW.kill_next]; omega)) only [SX, MX, setN, Nat.reduceAdd, Int.reduceEq, Int.reduceLT, Int.reduceLE, Int.reduceNeg, Nat.reduceLT, Nat.reduceLeDiff, Nat.reduceEqDiff, Int.reduceToNat, Nat.reduceMul]) ?_) <;> exact Ok_some.2 ⟨by rw [ck6, hb]; rfl, ((Le.refl _).add _).add _⟩
theorem refCheck_7 (ow un se sc n to t1 t2 t3 t4 nw : Int) (W : AW) : Ok (ref22_Check omS (.agg (opArr 7 ow un se sc n to t1 t2 t3 t4 nw)) W) fun r => r.1 = .int .i64 (chkE 7 ow un se sc n to t1 t2 t3 t4 nw) ∧ Le W r.2 := by
  unfold ref22_Check opArr
  repeat (first | (refine Ok_step (by simp (disch := first | omega | (simp only [vs1_int, vs1_string, vs1_bool, vs1_slice, vs1_snil, vs1_ptr]; done) | (simp only [AW.add_next, AW.put_next, AW.kill_next]; omega)) only [SX, MX, setN, Nat.reduceAdd, Int.reduceEq, Int.reduceLT, Int.reduceLE, Int.reduceNeg, Nat.reduceLT, Nat.reduceLeDiff, Nat.reduceEqDiff, Int.reduceToNat, Nat.reduceMul, bd27, al27, neq27]; rfl) ?_; dsimp only) | refine Ok_bT (by simp (disch := first | omega | (simp only [vs1_int, vs1_string, vs1_bool, vs1_slice, vs1_snil, vs1_ptr]; done) | (simp only [AW.add_next, AW.put_next, AW.kill_next]; omega)) only [SX, MX, setN, Nat.reduceAdd, Int.reduceEq, Int.reduceLT, Int.reduceLE, Int.reduceNeg, Nat.reduceLT, Nat.reduceLeDiff, Nat.reduceEqDiff, Int.reduceToNat, Nat.reduceMul, bd27, al27, neq27]) ?_ | refine Ok_bF (by simp (disch := first | omega | (simp only [vs1_int, vs1_string, vs1_bool, vs1_slice, vs1_snil, vs1_ptr]; done) | (simp only [AW.add_next, AW.put_next, AW.kill_next]; omega)) only [SX, MX, setN, Nat.reduceAdd, Int.reduceEq, Int.reduceLT, Int.reduceLE, Int.reduceNeg, Nat.reduceLT, Nat.reduceLeDiff, Nat.reduceEqDiff, Int.reduceToNat, Nat.reduceMul, bd27, al27, neq27]) ?_)
  cases hb : opEq 7 ow un 0 0 0 0 t1 t2 t3 t4 0 7 ow un se sc n to t1 t2 t3 t4 nw <;> repeat (first | (refine Ok_step (by simp (disch := first | omega | (simp only [vs1_int, vs1_string, vs1_bool, vs1_slice, vs1_snil, vs1_ptr]; done) | (simp only [AW.add_next, AW.put_next, AW.kill_next]; omega)) only [SX, MX, setN, Nat.reduceAdd, Int.reduceEq, Int.reduceLT, Int.reduceLE, Int.reduceNeg, Nat.reduceLT, Nat.reduceLeDiff, Nat.reduceEqDiff, Int.reduceToNat, Nat.reduceMul]; rfl) ?_; dsimp only) | refine Ok_bT (by simp (disch := first | omega | (simp only [vs1_int, vs1_string, vs1_bool, vs1_slice, vs1_snil, vs1_ptr]; done) | (simp only [AW.add_next, AW.put_next, AW.kill_next]; omega)) only [SX, MX, setN, Nat.reduceAdd, Int.reduceEq, Int.reduceLT, Int.reduceLE, Int.reduceNeg, Nat.reduceLT, Nat.reduceLeDiff, Nat.reduceEqDiff, Int.reduceToNat, Nat.reduceMul]) ?_ | refine Ok_bF (by simp (disch := first | omega | (simp only [vs1_int, vs1_string, vs1_bool, vs1_slice, vs1_snil, vs1_ptr]; done) | (simp only [AW.add_next, AW.put_next, AW.kill_next]; omega)) only [SX, MX, setN, Nat.reduceAdd, Int.reduceEq, Int.reduceLT, Int.reduceLE, Int.reduceNeg, Nat.reduceLT, Nat.reduceLeDiff, Nat.reduceEqDiff, Int.reduceToNat, Nat.reduceMul]) ?_) <;> exact Ok_some.2 ⟨by rw [ck7, hb]; rfl, ((Le.refl _).add _).add _⟩
theorem refCheck_8 (ow un se sc n to t1 t2 t3 t4 nw : Int) (W : AW) : Ok (ref22_Check omS (.agg (opArr 8 ow un se sc n to t1 t2 t3 t4 nw)) W) fun r => r.1 = .int .i64 (chkE 8 ow un se sc n to t1 t2 t3 t4 nw) ∧ Le W r.2 := by
  unfold ref22_Check opArr
  repeat (first | (refine Ok_step (by simp (disch := first | omega | (simp only [vs1_int, vs1_string, vs1_bool, vs1_slice, vs1_snil, vs1_ptr]; done) | (simp only [AW.add_next, AW.put_next, AW.kill_next]; omega)) only [SX, MX, setN, Nat.reduceAdd, Int.reduceEq, Int.reduceLT, Int.reduceLE, Int.reduceNeg, Nat.reduceLT, Nat.reduceLeDiff, Nat.reduceEqDiff, Int.reduceToNat, Nat.reduceMul, bd27, al27, neq27]; rfl) ?_; dsimp only) | refine Ok_bT (by simp (disch := first | omega | (simp only [vs1_int, vs1_string, vs1_bool, vs1_slice, vs1_snil, vs1_ptr]; done) | (simp only [AW.add_next, AW.put_next, AW.kill_next]; omega)) only [SX, MX, setN, Nat.reduceAdd, Int.reduceEq, Int.reduceLT, Int.reduceLE, Int.reduceNeg, Nat.reduceLT, Nat.reduceLeDiff, Nat.reduceEqDiff, Int.reduceToNat, Nat.reduceMul, bd27, al27, neq27]) ?_ | refine Ok_bF (by simp (disch := first | omega | (simp only [vs1_int, vs1_string, vs1_bool, vs1_slice, vs1_snil, vs1_ptr]; done) | (simp only [AW.add_next, AW.put_next, AW.kill_next]; omega)) only [SX, MX, setN, Nat.reduceAdd, Int.reduceEq, Int.reduceLT, Int.reduceLE, Int.reduceNeg, Nat.reduceLT, Nat.reduceLeDiff, Nat.reduceEqDiff, Int.reduceToNat, Nat.reduceMul, bd27, al27, neq27]) ?_)
  cases hb : opEq 8 ow un se 0 0 0 0 0 0 0 0 8 ow un se sc n to t1 t2 t3 t4 nw <;> repeat (first | (refine Ok_step (by simp (disch := first | omega | (simp only [vs1_int, vs1_string, vs1_bool, vs1_slice, vs1_snil, vs1_ptr]; done) | (simp only [AW.add_next, AW.put_next, AW.kill_next]; omega)) only [SX, MX, setN, Nat.reduceAdd, Int.reduceEq, Int.reduceLT, Int.reduceLE, Int.reduceNeg, Nat.reduceLT, Nat.reduceLeDiff, Nat.reduceEqDiff, Int.reduceToNat, Nat.reduceMul]; rfl) ?_; dsimp only) | refine Ok_bT (by simp (disch := first | omega | (simp only [vs1_int, vs1_string, vs1_bool, vs1_slice, vs1_snil, vs1_ptr]; done) | (simp only [AW.add_next, AW.put_next, AW.kill_next]; omega)) only [SX, MX, setN, Nat.reduceAdd, Int.reduceEq, Int.reduceLT, Int.reduceLE, Int.reduceNeg, Nat.reduceLT, Nat.reduceLeDiff, Nat.reduceEqDiff, Int.reduceToNat, Nat.reduceMul]) ?_ | refine Ok_bF (by simp (disch := first | omega | (simp only [vs1_int, vs1_string, vs1_bool, vs1_slice, vs1_snil, vs1_ptr]; done) | (simp only [AW.add_next, AW.put_next, AW.kill_next]; omega)) only [SX, MX, setN, Nat.reduceAdd, Int.reduceEq, Int.reduceLT, Int.reduceLE, Int.reduceNeg, Nat.reduceLT, Nat.reduceLeDiff, Nat.reduceEqDiff, Int.reduceToNat, Nat.reduceMul]) ?_) <;> exact Ok_some.2 ⟨by rw [ck8, hb]; rfl, ((Le.refl _).add _).add _⟩
theorem refCheck_9 (ow un se sc n to t1 t2 t3 t4 nw : Int) (W : AW) : Ok (ref22_Check omS (.agg (opArr 9 ow un se sc n to t1 t2 t3 t4 nw)) W) fun r => r.1 = .int .i64 (chkE 9 ow un se sc n to t1 t2 t3 t4 nw) ∧ Le W r.2 := by
  unfold ref22_Check opArr
  repeat (first | (refine Ok_step (by simp (disch := first | omega | (simp only [vs1_int, vs1_string, vs1_bool, vs1_slice, vs1_snil, vs1_ptr]; done) | (simp only [AW.add_next, AW.put_next, AW.kill_next]; omega)) only [SX, MX, setN, Nat.reduceAdd, Int.reduceEq, Int.reduceLT, Int.reduceLE, Int.reduceNeg, Nat.reduceLT, Nat.reduceLeDiff, Nat.reduceEqDiff, Int.reduceToNat, Nat.reduceMul, bd27, al27, neq27]; rfl) ?_; dsimp only) | refine Ok_bT (by simp (disch := first | omega | (simp only [vs1_int, vs1_string, vs1_bool, vs1_slice, vs1_snil, vs1_ptr]; done) | (simp only [AW.add_next, AW.put_next, AW.kill_next]; omega)) only [SX, MX, setN, Nat.reduceAdd, Int.reduceEq, Int.reduceLT, Int.reduceLE, Int.reduceNeg, Nat.reduceLT, Nat.reduceLeDiff, Nat.reduceEqDiff, Int.reduceToNat, Nat.reduceMul, bd27, al27, neq27]) ?_ | refine Ok_bF (by simp (disch := first | omega | (simp only [vs1_int, vs1_string, vs1_bool, vs1_slice, vs1_snil, vs1_ptr]; done) | (simp only [AW.add_next, AW.put_next, AW.kill_next]; omega)) only [SX, MX, setN, Nat.reduceAdd, Int.reduceEq, Int.reduceLT, Int.reduceLE, Int.reduceNeg, Nat.reduceLT, Nat.reduceLeDiff, Nat.reduceEqDiff, Int.reduceToNat, Nat.reduceMul, bd27, al27, neq27]) ?_)
  cases hb : opEq 9 0 0 0 0 0 0 t1 t2 t3 t4 0 9 ow un se sc n to t1 t2 t3 t4 nw <;> repeat (first | (refine Ok_step (by simp (disch := first | omega | (simp only [vs1_int, vs1_string, vs1_bool, vs1_slice, vs1_snil, vs1_ptr]; done) | (simp only [AW.add_next, AW.put_next, AW.kill_next]; omega)) only [SX, MX, setN, Nat.reduceAdd, Int.reduceEq, Int.reduceLT, Int.reduceLE, Int.reduceNeg, Nat.reduceLT, Nat.reduceLeDiff, Nat.reduceEqDiff, Int.reduceToNat, Nat.reduceMul]; rfl) ?_; dsimp only) | refine Ok_bT (by simp (disch := first | omega | (simp only [vs1_int, vs1_string, vs1_bool, vs1_slice, vs1_snil, vs1_ptr]; done) | (simp only [AW.add_next, AW.put_next, AW.kill_next]; omega)) only [SX, MX, setN, Nat.reduceAdd, Int.reduceEq, Int.reduceLT, Int.reduceLE, Int.reduceNeg, Nat.reduceLT, Nat.reduceLeDiff, Nat.reduceEqDiff, Int.reduceToNat, Nat.reduceMul]) ?_ | refine Ok_bF (by simp (disch := first | omega | (simp only [vs1_int, vs1_string, vs1_bool, vs1_slice, vs1_snil, vs1_ptr]; done) | (simp only [AW.add_next, AW.put_next, AW.kill_next]; omega)) only [SX, MX, setN, Nat.reduceAdd, Int.reduceEq, Int.reduceLT, Int.reduceLE, Int.reduceNeg, Nat.reduceLT, Nat.reduceLeDiff, Nat.reduceEqDiff, Int.reduceToNat, Nat.reduceMul]) ?_) <;> exact Ok_some.2 ⟨by rw [ck9, hb]; rfl, ((Le.refl _).add _).add _⟩
theorem refCheck_10 (ow un se sc n to t1 t2 t3 t4 nw : Int) (W : AW) : Ok (ref22_Check omS (.agg (opArr 10 ow un se sc n to t1 t2 t3 t4 nw)) W) fun r => r.1 = .int .i64 (chkE 10 ow un se sc n to t1 t2 t3 t4 nw) ∧ Le W r.2 := by
  unfold ref22_Check opArr
  repeat (first | (refine Ok_step (by simp (disch := first | omega | (simp only [vs1_int, vs1_string, vs1_bool, vs1_slice, vs1_snil, vs1_ptr]; done) | (simp only [AW.add_next, AW.put_next, AW.kill_next]; omega)) only [SX, MX, setN, Nat.reduceAdd, Int.reduceEq, Int.reduceLT, Int.reduceLE, Int.reduceNeg, Nat.reduceLT, Nat.reduceLeDiff, Nat.reduceEqDiff, Int.reduceToNat, Nat.reduceMul, bd27, al27, neq27]; rfl) ?_; dsimp only) | refine Ok_bT (by simp (disch := first | omega | (simp only [vs1_int, vs1_string, vs1_bool, vs1_slice, vs1_snil, vs1_ptr]; done) | (simp only [AW.add_next, AW.put_next, AW.kill_next]; omega)) only [SX, MX, setN, Nat.reduceAdd, Int.reduceEq, Int.reduceLT, Int.reduceLE, Int.reduceNeg, Nat.reduceLT, Nat.reduceLeDiff, Nat.reduceEqDiff, Int.reduceToNat, Nat.reduceMul, bd27, al27, neq27]) ?_ | refine Ok_bF (by simp (disch := first | omega | (simp only [vs1_int, vs1_string, vs1_bool, vs1_slice, vs1_snil, vs1_ptr]; done) | (simp only [AW.add_next, AW.put_next, AW.kill_next]; omega)) only [SX, MX, setN, Nat.reduceAdd, Int.reduceEq, Int.reduceLT, Int.reduceLE, Int.reduceNeg, Nat.reduceLT, Nat.reduceLeDiff, Nat.reduceEqDiff, Int.reduceToNat, Nat.reduceMul, bd27, al27, neq27]) ?_)
  cases hb : opEq 10 ow un 0 sc 0 0 0 0 0 0 0 10 ow un se sc n to t1 t2 t3 t4 nw <;> repeat (first | (refine Ok_step (by simp (disch := first | omega | (simp only [vs1_int, vs1_string, vs1_bool, vs1_slice, vs1_snil, vs1_ptr]; done) | (simp only [AW.add_next, AW.put_next, AW.kill_next]; omega)) only [SX, MX, setN, Nat.reduceAdd, Int.reduceEq, Int.reduceLT, Int.reduceLE, Int.reduceNeg, Nat.reduceLT, Nat.reduceLeDiff, Nat.reduceEqDiff, Int.reduceToNat, Nat.reduceMul]; rfl) ?_; dsimp only) | refine Ok_bT (by simp (disch := first | omega | (simp only [vs1_int, vs1_string, vs1_bool, vs1_slice, vs1_snil, vs1_ptr]; done) | (simp only [AW.add_next, AW.put_next, AW.kill_next]; omega)) only [SX, MX, setN, Nat.reduceAdd, Int.reduceEq, Int.reduceLT, Int.reduceLE, Int.reduceNeg, Nat.reduceLT, Nat.reduceLeDiff, Nat.reduceEqDiff, Int.reduceToNat, Nat.reduceMul]) ?_ | refine Ok_bF (by simp (disch := first | omega | (simp only [vs1_int, vs1_string, vs1_bool, vs1_slice, vs1_snil, vs1_ptr]; done) | (simp only [AW.add_next, AW.put_next, AW.kill_next]; omega)) only [SX, MX, setN, Nat.reduceAdd, Int.reduceEq, Int.reduceLT, Int.reduceLE, Int.reduceNeg, Nat.reduceLT, Nat.reduceLeDiff, Nat.reduceEqDiff, Int.reduceToNat, Nat.reduceMul]) ?_) <;> exact Ok_some.2 ⟨by rw [ck10, hb]; rfl, ((Le.refl _).add _).add _⟩
theorem refCheck_11 (ow un se sc n to t1 t2 t3 t4 nw : Int) (W : AW) : Ok (ref22_Check omS (.agg (opArr 11 ow un se sc n to t1 t2 t3 t4 nw)) W) fun r => r.1 = .int .i64 (chkE 11 ow un se sc n to t1 t2 t3 t4 nw) ∧ Le W r.2 := by
  unfold ref22_Check opArr
  repeat (first | (refine Ok_step (by simp (disch := first | omega | (simp only [vs1_int, vs1_string, vs1_bool, vs1_slice, vs1_snil, vs1_ptr]; done) | (simp only [AW.add_next, AW.put_next, AW.kill_next]; omega)) only [SX, MX, setN, Nat.reduceAdd, Int.reduceEq, Int.reduceLT, Int.reduceLE, Int.reduceNeg, Nat.reduceLT, Nat.reduceLeDiff, Nat.reduceEqDiff, Int.reduceToNat, Nat.reduceMul, bd27, al27, neq27]; rfl) ?_; dsimp only) | refine Ok_bT (by simp (disch := first | omega | (simp only [vs1_int, vs1_string, vs1_bool, vs1_slice, vs1_snil, vs1_ptr]; done) | (simp only [AW.add_next, AW.put_next, AW.kill_next]; omega)) only [SX, MX, setN, Nat.reduceAdd, Int.reduceEq, Int.reduceLT, Int.reduceLE, Int.reduceNeg, Nat.reduceLT, Nat.reduceLeDiff, Nat.reduceEqDiff, Int.reduceToNat, Nat.reduceMul, bd27, al27, neq27]) ?_ | refine Ok_bF (by simp (disch := first | omega | (simp only [vs1_int, vs1_string, vs1_bool, vs1_slice, vs1_snil, vs1_ptr]; done) | (simp only [AW.add_next, AW.put_next, AW.kill_next]; omega)) only [SX, MX, setN, Nat.reduceAdd, Int.reduceEq, Int.reduceLT, Int.reduceLE, Int.reduceNeg, Nat.reduceLT, Nat.reduceLeDiff, Nat.reduceEqDiff, Int.reduceToNat, Nat.reduceMul, bd27, al27, neq27]) ?_)
  cases hb : opEq 11 ow un 0 sc 0 0 0 0 0 0 0 11 ow un se sc n to t1 t2 t3 t4 nw <;> repeat (first | (refine Ok_step (by simp (disch := first | omega | (simp only [vs1_int, vs1_string, vs1_bool, vs1_slice, vs1_snil, vs1_ptr]; done) | (simp only [AW.add_next, AW.put_next, AW.kill_next]; omega)) only [SX, MX, setN, Nat.reduceAdd, Int.reduceEq, Int.reduceLT, Int.reduceLE, Int.reduceNeg, Nat.reduceLT, Nat.reduceLeDiff, Nat.reduceEqDiff, Int.reduceToNat, Nat.reduceMul]; rfl) ?_; dsimp only) | refine Ok_bT (by simp (disch := first | omega | (simp only [vs1_int, vs1_string, vs1_bool, vs1_slice, vs1_snil, vs1_ptr]; done) | (simp only [AW.add_next, AW.put_next, AW.kill_next]; omega)) only [SX, MX, setN, Nat.reduceAdd, Int.reduceEq, Int.reduceLT, Int.reduceLE, Int.reduceNeg, Nat.reduceLT, Nat.reduceLeDiff, Nat.reduceEqDiff, Int.reduceToNat, Nat.reduceMul]) ?_ | refine Ok_bF (by simp (disch := first | omega | (simp only [vs1_int, vs1_string, vs1_bool, vs1_slice, vs1_snil, vs1_ptr]; done) | (simp only [AW.add_next, AW.put_next, AW.kill_next]; omega)) only [SX, MX, setN, Nat.reduceAdd, Int.reduceEq, Int.reduceLT, Int.reduceLE, Int.reduceNeg, Nat.reduceLT, Nat.reduceLeDiff, Nat.reduceEqDiff, Int.reduceToNat, Nat.reduceMul]) ?_) <;> exact Ok_some.2 ⟨by rw [ck11, hb]; rfl, ((Le.refl _).add _).add _⟩
theorem refCheck_12 (ow un se sc n to t1 t2 t3 t4 nw : Int) (W : AW) : Ok (ref22_Check omS (.agg (opArr 12 ow un se sc n to t1 t2 t3 t4 nw)) W) fun r => r.1 = .int .i64 (chkE 12 ow un se sc n to t1 t2 t3 t4 nw) ∧ Le W r.2 := by
  unfold ref22_Check opArr
  repeat (first | (refine Ok_step (by simp (disch := first | omega | (simp only [vs1_int, vs1_string, vs1_bool, vs1_slice, vs1_snil, vs1_ptr]; done) | (simp only [AW.add_next, AW.put_next, AW.kill_next]; omega)) only [SX, MX, setN, Nat.reduceAdd, Int.reduceEq, Int.reduceLT, Int.reduceLE, Int.reduceNeg, Nat.reduceLT, Nat.reduceLeDiff, Nat.reduceEqDiff, Int.reduceToNat, Nat.reduceMul, bd27, al27, neq27]; rfl) ?_; dsimp only) | refine Ok_bT (by simp (disch := first | omega | (simp only [vs1_int, vs1_string, vs1_bool, vs1_slice, vs1_snil, vs1_ptr]; done) | (simp only [AW.add_next, AW.put_next, AW.kill_next]; omega)) only [SX, MX, setN, Nat.reduceAdd, Int.reduceEq, Int.reduceLT, Int.reduceLE, Int.reduceNeg, Nat.reduceLT, Nat.reduceLeDiff, Nat.reduceEqDiff, Int.reduceToNat, Nat.reduceMul, bd27, al27, neq27]) ?_ | refine Ok_bF (by simp (disch := first | omega | (simp only [vs1_int, vs1_string, vs1_bool, vs1_slice, vs1_snil, vs1_ptr]; done) | (simp only [AW.add_next, AW.put_next, AW.kill_next]; omega)) only [SX, MX, setN, Nat.reduceAdd, Int.reduceEq, Int.reduceLT, Int.reduceLE, Int.reduceNeg, Nat.reduceLT, Nat.reduceLeDiff, Nat.reduceEqDiff, Int.reduceToNat, Nat.reduceMul, bd27, al27, neq27]) ?_)
  cases hb : opEq 12 0 0 0 0 0 0 0 0 0 0 nw 12 ow un se sc n to t1 t2 t3 t4 nw <;> repeat (first | (refine Ok_step (by simp (disch := first | omega | (simp only [vs1_int, vs1_string, vs1_bool, vs1_slice, vs1_snil, vs1_ptr]; done) | (simp only [AW.add_next, AW.put_next, AW.kill_next]; omega)) only [SX, MX, setN, Nat.reduceAdd, Int.reduceEq, Int.reduceLT, Int.reduceLE, Int.reduceNeg, Nat.reduceLT, Nat.reduceLeDiff, Nat.reduceEqDiff, Int.reduceToNat, Nat.reduceMul]; rfl) ?_; dsimp only) | refine Ok_bT (by simp (disch := first | omega | (simp only [vs1_int, vs1_string, vs1_bool, vs1_slice, vs1_snil, vs1_ptr]; done) | (simp only [AW.add_next, AW.put_next, AW.kill_next]; omega)) only [SX, MX, setN, Nat.reduceAdd, Int.reduceEq, Int.reduceLT, Int.reduceLE, Int.reduceNeg, Nat.reduceLT, Nat.reduceLeDiff, Nat.reduceEqDiff, Int.reduceToNat, Nat.reduceMul]) ?_ | refine Ok_bF (by simp (disch := first | omega | (simp only [vs1_int, vs1_string, vs1_bool, vs1_slice, vs1_snil, vs1_ptr]; done) | (simp only [AW.add_next, AW.put_next, AW.kill_next]; omega)) only [SX, MX, setN, Nat.reduceAdd, Int.reduceEq, Int.reduceLT, Int.reduceLE, Int.reduceNeg, Nat.reduceLT, Nat.reduceLeDiff, Nat.reduceEqDiff, Int.reduceToNat, Nat.reduceMul]) ?_) <;> exact Ok_some.2 ⟨by rw [ck12, hb]; rfl, ((Le.refl _).add _).add _⟩
theorem refCheck_0 (k ow un se sc n to t1 t2 t3 t4 nw : Int) (hk : k < 1 ∨ 12 < k) (W : AW) : Ok (ref22_Check omS (.agg (opArr k ow un se sc n to t1 t2 t3 t4 nw)) W) fun r => r.1 = .int .i64 (chkE k ow un se sc n to t1 t2 t3 t4 nw) ∧ Le W r.2 := by
  unfold ref22_Check opArr
  have h1 : ¬ k = 1 := by omega
  have h2 : ¬ k = 2 := by omega
  have h3 : ¬ k = 3 := by omega
  have h4 : ¬ k = 4 := by omega
  have h5 : ¬ k = 5 := by omega
  have h6 : ¬ k = 6 := by omega
  have h7 : ¬ k = 7 := by omega
  have h8 : ¬ k = 8 := by omega
  have h9 : ¬ k = 9 := by omega
  have h10 : ¬ k = 10 := by omega
  have h11 : ¬ k = 11 := by omega
  have h12 : ¬ k = 12 := by omega
  repeat (first | (refine Ok_step (by simp (disch := first | omega | (simp only [vs1_int, vs1_string, vs1_bool, vs1_slice, vs1_snil, vs1_ptr]; done) | (simp only [AW.add_next, AW.put_next, AW.kill_next]; omega)) only [SX, MX, setN, Nat.reduceAdd, Int.reduceEq, Int.reduceLT, Int.reduceLE, Int.reduceNeg, Nat.reduceLT, Nat.reduceLeDiff, Nat.reduceEqDiff, Int.reduceToNat, Nat.reduceMul, bd27, al27, h1, h2, h3, h4, h5, h6, h7, h8, h9, h10, h11, h12]; rfl) ?_; dsimp only) | refine Ok_bT (by simp (disch := first | omega | (simp only [vs1_int, vs1_string, vs1_bool, vs1_slice, vs1_snil, vs1_ptr]; done) | (simp only [AW.add_next, AW.put_next, AW.kill_next]; omega)) only [SX, MX, setN, Nat.reduceAdd, Int.reduceEq, Int.reduceLT, Int.reduceLE, Int.reduceNeg, Nat.reduceLT, Nat.reduceLeDiff, Nat.reduceEqDiff, Int.reduceToNat, Nat.reduceMul, bd27, al27, h1, h2, h3, h4, h5, h6, h7, h8, h9, h10, h11, h12]) ?_ | refine Ok_bF (by simp (disch := first | omega | (simp only [vs1_int, vs1_string, vs1_bool, vs1_slice, vs1_snil, vs1_ptr]; done) | (simp only [AW.add_next, AW.put_next, AW.kill_next]; omega)) only [SX, MX, setN, Nat.reduceAdd, Int.reduceEq, Int.reduceLT, Int.reduceLE, Int.reduceNeg, Nat.reduceLT, Nat.reduceLeDiff, Nat.reduceEqDiff, Int.reduceToNat, Nat.reduceMul, bd27, al27, h1, h2, h3, h4, h5, h6, h7, h8, h9, h10, h11, h12]) ?_)
  exact Ok_some.2 ⟨by unfold chkE; rw [if_pos hk], ((Le.refl _).add _).add _⟩
theorem refCheck_ok (k ow un se sc n to t1 t2 t3 t4 nw : Int) (W : AW) : omS (.func (.func 121) #[] #[]) [.agg (opArr k ow un se sc n to t1 t2 t3 t4 nw)] W = some (.int .i64 (chkE k ow un se sc n to t1 t2 t3 t4 nw), W) := by
  refine om_drop rfl ?_ ref22_Check_om
  have hk : k = 1 ∨ k = 2 ∨ k = 3 ∨ k = 4 ∨ k = 5 ∨ k = 6 ∨ k = 7 ∨ k = 8 ∨ k = 9 ∨ k = 10 ∨ k = 11 ∨ k = 12 ∨ (k < 1 ∨ 12 < k) := by omega
  rcases hk with rfl | rfl | rfl | rfl | rfl | rfl | rfl | rfl | rfl | rfl | rfl | rfl | hk
  · exact refCheck_1 ow un se sc n to t1 t2 t3 t4 nw W
  · exact refCheck_2 ow un se sc n to t1 t2 t3 t4 nw W
  · exact refCheck_3 ow un se sc n to t1 t2 t3 t4 nw W
  · exact refCheck_4 ow un se sc n to t1 t2 t3 t4 nw W
  · exact refCheck_5 ow un se sc n to t1 t2 t3 t4 nw W
  · exact refCheck_6 ow un se sc n to t1 t2 t3 t4 nw W
  · exact refCheck_7 ow un se sc n to t1 t2 t3 t4 nw W
  · exact refCheck_8 ow un se sc n to t1 t2 t3 t4 nw W
  · exact refCheck_9 ow un se sc n to t1 t2 t3 t4 nw W
  · exact refCheck_10 ow un se sc n to t1 t2 t3 t4 nw W
  · exact refCheck_11 ow un se sc n to t1 t2 t3 t4 nw W
  · exact refCheck_12 ow un se sc n to t1 t2 t3 t4 nw W
  · exact refCheck_0 k ow un se sc n to t1 t2 t3 t4 nw hk W
end Go.Proofs.YtnigceddndemkaaGreatDoor
namespace Go.Proofs.YtnigceddndemkaaGreatDoor
open Go Go.Eng
set_option linter.unusedVariables false
set_option linter.unusedSimpArgs false
set_option linter.unusedSectionVars false
set_option maxRecDepth 100000
structure OpT where
  k : Int
  ow : Int
  un : Int
  se : Int
  sc : Int
  n : Int
  to : Int
  t1 : Int
  t2 : Int
  t3 : Int
  t4 : Int
  nw : Int
structure RpT where
  er : Int
  se : Int
  n : Int
  dl : Int
  t1 : Int
  t2 : Int
  t3 : Int
  t4 : Int
  pl : Int
def op0 : OpT := ⟨0, 0, 0, 0, 0, 0, 0, 0, 0, 0, 0, 0⟩
def rp0 : RpT := ⟨0, 0, 0, 0, 0, 0, 0, 0, 0⟩
abbrev opV (o : OpT) : Value := .agg #[.int .i64 o.k, .int .u32 o.ow, .int .i64 o.un, .int .i64 o.se, .int .i64 o.sc, .int .i64 o.n, .int .u32 o.to, .int .u32 o.t1, .int .u32 o.t2, .int .u64 o.t3, .int .u64 o.t4, .int .i64 o.nw]
abbrev rpV (r : RpT) : Value := .agg #[.int .i64 r.er, .int .i64 r.se, .int .i64 r.n, .int .i64 r.dl, .int .u32 r.t1, .int .u32 r.t2, .int .u64 r.t3, .int .u64 r.t4, .int .i64 r.pl]
structure EvT where
  id : Int
  th : Int
  ret : Bool
  op : OpT
  rp : RpT
structure HoT where
  id : Int
  th : Int
  fr : Int
  to : Int
  op : OpT
  rp : RpT
abbrev evC (e : EvT) : List Value := [.int .i64 e.id, .int .i64 e.th, .bool e.ret, .int .i64 e.op.k, .int .u32 e.op.ow, .int .i64 e.op.un, .int .i64 e.op.se, .int .i64 e.op.sc, .int .i64 e.op.n, .int .u32 e.op.to, .int .u32 e.op.t1, .int .u32 e.op.t2, .int .u64 e.op.t3, .int .u64 e.op.t4, .int .i64 e.op.nw,
  .int .i64 e.rp.er, .int .i64 e.rp.se, .int .i64 e.rp.n, .int .i64 e.rp.dl, .int .u32 e.rp.t1, .int .u32 e.rp.t2, .int .u64 e.rp.t3, .int .u64 e.rp.t4, .int .i64 e.rp.pl]
abbrev hoC (e : HoT) : List Value := [.int .i64 e.id, .int .i64 e.th, .int .i64 e.fr, .int .i64 e.to, .int .i64 e.op.k, .int .u32 e.op.ow, .int .i64 e.op.un, .int .i64 e.op.se, .int .i64 e.op.sc, .int .i64 e.op.n, .int .u32 e.op.to, .int .u32 e.op.t1, .int .u32 e.op.t2, .int .u64 e.op.t3, .int .u64 e.op.t4, .int .i64 e.op.nw,
  .int .i64 e.rp.er, .int .i64 e.rp.se, .int .i64 e.rp.n, .int .i64 e.rp.dl, .int .u32 e.rp.t1, .int .u32 e.rp.t2, .int .u64 e.rp.t3, .int .u64 e.rp.t4, .int .i64 e.rp.pl]
abbrev evV (e : EvT) : Value := .agg (evC e).toArray
abbrev hoV (e : HoT) : Value := .agg (hoC e).toArray
def ev0 : EvT := ⟨0, 0, false, op0, rp0⟩
def ho0 : HoT := ⟨0, 0, 0, 0, op0, rp0⟩
theorem ldR {b o : Nat} {cs : List Value} {x : Value} {W : AW} (h : W.get b = some (.cells cs)) (hv : cs[o]? = some x) : ldC (.pointer (some ⟨b, o, none⟩)) W = some (x, W) := ldC_ok (cellsAt_of h) hv
theorem rwOf {W : AW} {b : Nat} {cs : List Value} (h : W.get b = some (.cells cs)) : rwCells W b = some cs := by unfold rwCells; rw [h]
theorem setN_all {cs vs : List Value} (h : cs.length = vs.length) : setN cs 0 vs = vs := by
  unfold setN
  rw [List.take_zero, List.nil_append, Nat.zero_add, ← h, List.drop_length, List.append_nil]
theorem stAll {n b : Nat} {cs : List Value} {vs : Array Value} {W : AW} (h : W.get b = some (.cells cs)) (h1 : cs.length = n) (h2 : vs.size = n) (h3 : vs.toList.all Eng.one = true) : stV n (.pointer (some ⟨b, 0, none⟩)) (.agg vs) W = some (undef, W.put b (.cells vs.toList)) := by
  have hl := Array.length_toList (xs := vs)
  rw [stV_agg, rwOf h, Option.bind_some, if_pos ⟨h2, by omega, h3⟩, setN_all (by omega)]
theorem boxA {t : TypeId} {zs vs : List Value} {n : Nat} (ha : ∀ W : AW, oAlloc Tryz.prog t W = some (.pointer (some ⟨W.next, 0, none⟩), W.add (.cells zs))) (h1 : zs.length = n) (h2 : vs.length = n) (h3 : vs.all Eng.one = true) (W : AW) :
    ∃ V V2, oAlloc Tryz.prog t W = some (.pointer (some ⟨W.next, 0, none⟩), V) ∧ stV n (.pointer (some ⟨W.next, 0, none⟩)) (.agg vs.toArray) V = some (undef, V2) ∧ Le W V2 ∧ V2.next = W.next + 1 ∧ V2.get W.next = some (.cells vs) := by
  refine ⟨_, _, ha W, stAll (AW.get_add _ _) h1 (by simpa using h2) (by simpa using h3), ((Le.refl _).add _).put (Nat.le_refl _) _, by rw [AW.put_next, AW.add_next], ?_⟩
  rw [AW.get_put]
theorem al121 (W : AW) : oAlloc Tryz.prog 121 W = some (.pointer (some ⟨W.next, 0, none⟩), W.add (.cells (evC ev0))) := Eq.trans (by kernel_rfl) rfl
theorem al176 (W : AW) : oAlloc Tryz.prog 176 W = some (.pointer (some ⟨W.next, 0, none⟩), W.add (.cells (hoC ho0))) := Eq.trans (by kernel_rfl) rfl
theorem bd117 (W : AW) : oBuild Tryz.prog 117 [] W = some (opV op0, W) := Eq.trans (by kernel_rfl) rfl
theorem bd119 (W : AW) : oBuild Tryz.prog 119 [] W = some (rpV rp0, W) := Eq.trans (by kernel_rfl) rfl
theorem evBox (e : EvT) (W : AW) : ∃ V V2, oAlloc Tryz.prog 121 W = some (.pointer (some ⟨W.next, 0, none⟩), V) ∧ stV 24 (.pointer (some ⟨W.next, 0, none⟩)) (evV e) V = some (undef, V2) ∧ Le W V2 ∧ V2.next = W.next + 1 ∧ V2.get W.next = some (.cells (evC e)) :=
  boxA (n := 24) (vs := evC e) al121 rfl rfl rfl W
section
variable {W : AW} {b : Nat} {e : EvT} {h : HoT}
theorem evB_op (x : W.get b = some (.cells (evC e))) : ldA 12 (.pointer (some ⟨b, 3, none⟩)) W = some (opV e.op, W) := ldA_ok (cellsAt_of x) rfl
theorem evB_rp (x : W.get b = some (.cells (evC e))) : ldA 9 (.pointer (some ⟨b, 15, none⟩)) W = some (rpV e.rp, W) := ldA_ok (cellsAt_of x) rfl
theorem evB_all (x : W.get b = some (.cells (evC e))) : ldA 24 (.pointer (some ⟨b, 0, none⟩)) W = some (evV e, W) := ldA_ok (cellsAt_of x) rfl
theorem evB_id (x : W.get b = some (.cells (evC e))) : ldC (.pointer (some ⟨b, 0, none⟩)) W = some (.int .i64 e.id, W) := ldR x rfl
theorem evB_th (x : W.get b = some (.cells (evC e))) : ldC (.pointer (some ⟨b, 1, none⟩)) W = some (.int .i64 e.th, W) := ldR x rfl
theorem evB_ret (x : W.get b = some (.cells (evC e))) : ldC (.pointer (some ⟨b, 2, none⟩)) W = some (.bool e.ret, W) := ldR x rfl
theorem hoB_all (x : W.get b = some (.cells (hoC h))) : ldA 25 (.pointer (some ⟨b, 0, none⟩)) W = some (hoV h, W) := ldA_ok (cellsAt_of x) rfl
theorem hoB_to (x : W.get b = some (.cells (hoC h))) : ldC (.pointer (some ⟨b, 3, none⟩)) W = some (.int .i64 h.to, W) := ldR x rfl
theorem hoB_id (x : W.get b = some (.cells (hoC h))) : ldC (.pointer (some ⟨b, 0, none⟩)) W = some (.int .i64 h.id, W) := ldR x rfl
end
def flatAt {α : Type} (z : Nat) (f : α → List Value) (cs : List Value) (p : Nat) (e : α) : Prop := (cs.drop p).take z = f e
abbrev EvL (W : AW) (v : Value) (l : List EvT) : Prop := Row W 24 (flatAt 24 evC) v l
abbrev HoL (W : AW) (v : Value) (l : List HoT) : Prop := Row W 25 (flatAt 25 hoC) v l
theorem flatAt_get {α : Type} {z : Nat} {f : α → List Value} {cs : List Value} {p : Nat} {e : α} (h : flatAt z f cs p e) {j : Nat} (hj : j < z) : cs[p + j]? = (f e)[j]? := by
  unfold flatAt at h
  rw [← h, List.getElem?_take, if_pos hj, List.getElem?_drop]
theorem flatAt_in {α : Type} {z : Nat} {f : α → List Value} (hf : ∀ a, (f a).length = z) (a : α) (pre post : List Value) : flatAt z f (pre ++ (f a ++ post)) pre.length a := by
  unfold flatAt
  rw [List.drop_left, ← hf a, List.take_left]
theorem evC_len (e : EvT) : (evC e).length = 24 := rfl
theorem hoC_len (e : HoT) : (hoC e).length = 25 := rfl
theorem evC_one (e : EvT) : (evC e).all Eng.one = true := rfl
theorem hoC_one (e : HoT) : (hoC e).all Eng.one = true := rfl
theorem len80 : ((#[80] : Array TypeId)[0]?).bind Tryz.prog.underlying = some (.slice 121) := by kernel_rfl
theorem len89 : ((#[89] : Array TypeId)[0]?).bind Tryz.prog.underlying = some (.slice 176) := by kernel_rfl
theorem len69 : ((#[69] : Array TypeId)[0]?).bind Tryz.prog.underlying = some (.slice 3) := by kernel_rfl
theorem EvL.get {W : AW} {v : Value} {l : List EvT} (h : EvL W v l) {i : Nat} (hi : i < l.length) :
    ∃ b o, (∀ W' k, ixS 24 v (.int k (i : Int)) W' = some (.pointer (some ⟨b, o, none⟩), W')) ∧ b < W.next ∧ ∀ W', W'.get b = W.get b → ldA 24 (.pointer (some ⟨b, o, none⟩)) W' = some (evV l[i], W') ∧ ldC (.pointer (some ⟨b, o, none⟩)) W' = some (.int .i64 l[i].id, W') ∧ ldC (.pointer (some ⟨b, o + 1, none⟩)) W' = some (.int .i64 l[i].th, W') ∧ ldC (.pointer (some ⟨b, o + 2, none⟩)) W' = some (.bool l[i].ret, W') ∧ ldA 9 (.pointer (some ⟨b, o + 15, none⟩)) W' = some (rpV l[i].rp, W') := by
  obtain ⟨b, o, cs, h1, h2, h3, h4⟩ := h.elem hi
  refine ⟨b, o, h1, h2, fun W' hg => ?_⟩
  have hc : cellsAt W' b = some cs := by
    have : cellsAt W' b = cellsAt W b := by unfold cellsAt; rw [hg]
    rw [this]; exact h3
  have e0 : (cs.drop o).take 24 = evC l[i] := h4
  refine ⟨?_, ldC_ok hc ((flatAt_get h4 (j := 0) (by omega)).trans rfl), ldC_ok hc ((flatAt_get h4 (j := 1) (by omega)).trans rfl), ldC_ok hc ((flatAt_get h4 (j := 2) (by omega)).trans rfl), ?_⟩
  · have := ldA_ok (n := 24) (o := o) hc (by rw [e0]; rfl)
    rw [e0] at this
    exact this
  · have e9 : (cs.drop (o + 15)).take 9 = (evC l[i]).drop 15 := by
      rw [← e0, List.drop_take, List.drop_drop]
    have := ldA_ok (n := 9) (o := o + 15) hc (by rw [e9]; rfl)
    rw [e9] at this
    exact this
theorem HoL.get {W : AW} {v : Value} {l : List HoT} (h : HoL W v l) {i : Nat} (hi : i < l.length) :
    ∃ b o, (∀ W' k, ixS 25 v (.int k (i : Int)) W' = some (.pointer (some ⟨b, o, none⟩), W')) ∧ b < W.next ∧ ∀ W', W'.get b = W.get b → ldA 25 (.pointer (some ⟨b, o, none⟩)) W' = some (hoV l[i], W') ∧ ldC (.pointer (some ⟨b, o, none⟩)) W' = some (.int .i64 l[i].id, W') ∧ ldC (.pointer (some ⟨b, o + 1, none⟩)) W' = some (.int .i64 l[i].th, W') ∧ ldC (.pointer (some ⟨b, o + 2, none⟩)) W' = some (.int .i64 l[i].fr, W') ∧ ldC (.pointer (some ⟨b, o + 3, none⟩)) W' = some (.int .i64 l[i].to, W') := by
  obtain ⟨b, o, cs, h1, h2, h3, h4⟩ := h.elem hi
  refine ⟨b, o, h1, h2, fun W' hg => ?_⟩
  have hc : cellsAt W' b = some cs := by
    have : cellsAt W' b = cellsAt W b := by unfold cellsAt; rw [hg]
    rw [this]; exact h3
  have e0 : (cs.drop o).take 25 = hoC l[i] := h4
  refine ⟨?_, ldC_ok hc ((flatAt_get h4 (j := 0) (by omega)).trans rfl), ldC_ok hc ((flatAt_get h4 (j := 1) (by omega)).trans rfl), ldC_ok hc ((flatAt_get h4 (j := 2) (by omega)).trans rfl), ldC_ok hc ((flatAt_get h4 (j := 3) (by omega)).trans rfl)⟩
  have := ldA_ok (n := 25) (o := o) hc (by rw [e0]; rfl)
  rw [e0] at this
  exact this
theorem g119 : Tryz.prog.eqGuardType Tryz.prog.depth 119 = false := by kernel_rfl
theorem q119 (a b c d t1 t2 t3 t4 p a' b' c' d' t1' t2' t3' t4' p' : Int) : aEqS Tryz.prog 8 119 (.agg #[.int .i64 a, .int .i64 b, .int .i64 c, .int .i64 d, .int .u32 t1, .int .u32 t2, .int .u64 t3, .int .u64 t4, .int .i64 p]) (.agg #[.int .i64 a', .int .i64 b', .int .i64 c', .int .i64 d', .int .u32 t1', .int .u32 t2', .int .u64 t3', .int .u64 t4', .int .i64 p']) =
  eqThen (match eqAll [(t1, t1'), (t2, t2'), (t3, t3'), (t4, t4')] with | some true => eqAll [(p, p')] | some false => some false | none => none) [(a, a'), (b, b'), (c, c'), (d, d')] := by kernel_rfl
theorem eqMid {r : Option Bool} {rb : Bool} (hr : r = some rb) (l : List (Int × Int)) : (match eqAll l with | some true => r | some false => some false | none => none) = some ((l.all fun p => p.1 == p.2) && rb) := by
  rw [eqAll_eq]
  cases l.all fun p => p.1 == p.2 with
  | true => rw [Bool.true_and]; exact hr
  | false => rfl
open Classical in
theorem neqRp (x y : RpT) (c d : Bool) (W : AW) : oBin Tryz.prog .neq 119 c d (rpV x) (rpV y) W = some (.bool (!decide (x = y)), W) := by
  refine oBin_agg_neq g119 ((q119 ..).trans ?_)
  rw [eqMid (eqAll_eq _), eqThen_eq]
  congr 1
  obtain ⟨a, b, c, d, t1, t2, t3, t4, p⟩ := x
  obtain ⟨a', b', c', d', t1', t2', t3', t4', p'⟩ := y
  rw [Bool.eq_iff_iff]
  simp only [List.all_cons, List.all_nil, Bool.and_true, Bool.and_eq_true, beq_iff_eq, decide_eq_true_eq, RpT.mk.injEq]
  constructor
  · rintro ⟨⟨h1, h2, h3, h4⟩, ⟨h5, h6, h7, h8⟩, h9⟩; exact ⟨h1, h2, h3, h4, h5, h6, h7, h8, h9⟩
  · rintro ⟨h1, h2, h3, h4, h5, h6, h7, h8, h9⟩; exact ⟨⟨h1, h2, h3, h4⟩, ⟨h5, h6, h7, h8⟩, h9⟩
open Classical in
theorem neqOp (x y : OpT) (c d : Bool) (W : AW) : oBin Tryz.prog .neq 117 c d (opV x) (opV y) W = some (.bool (!decide (x = y)), W) := by
  refine (neq27 ..).trans ?_
  congr 3
  congr 1
  obtain ⟨k, ow, un, se, sc, n, to, t1, t2, t3, t4, nw⟩ := x
  obtain ⟨k', ow', un', se', sc', n', to', t1', t2', t3', t4', nw'⟩ := y
  unfold opEq
  rw [Bool.eq_iff_iff]
  simp only [List.all_cons, List.all_nil, Bool.and_true, Bool.and_eq_true, beq_iff_eq, decide_eq_true_eq, OpT.mk.injEq]
  constructor
  · rintro ⟨⟨h1, h2, h3, h4, h5, h6, h7⟩, ⟨h8, h9, h10, h11⟩, h12⟩; exact ⟨h1, h2, h3, h4, h5, h6, h7, h8, h9, h10, h11, h12⟩
  · rintro ⟨h1, h2, h3, h4, h5, h6, h7, h8, h9, h10, h11, h12⟩; exact ⟨⟨h1, h2, h3, h4, h5, h6, h7⟩, ⟨h8, h9, h10, h11⟩, h12⟩
def opE (o : OpT) : Int := chkE o.k o.ow o.un o.se o.sc o.n o.to o.t1 o.t2 o.t3 o.t4 o.nw
theorem pCheck_ok (o : OpT) {W : AW} (h : GW W) : omS (.func (.func 162) #[] #[]) [opV o] W = some (.int .i64 (opE o), W) := planCheck_ok _ _ _ _ _ _ _ _ _ _ _ _ h
theorem rCheck_ok (o : OpT) (W : AW) : omS (.func (.func 121) #[] #[]) [opV o] W = some (.int .i64 (opE o), W) := refCheck_ok _ _ _ _ _ _ _ _ _ _ _ _ W
structure TL where
  ops : List HoT
  opn : List Int
  busy : Int → Option Int
  cnt : Nat
def TL.init : TL := ⟨[], [], fun _ => none, 0⟩
def setTo (ops : List HoT) (j : Nat) (k : Int) (r : RpT) : List HoT := match ops[j]? with
  | some o => ops.set j { o with to := k, rp := r }
  | none => ops
open Classical in
noncomputable def stepE (s : TL) (x : EvT) : Int :=
  if x.th < 1 ∨ 64 < x.th then 7 else
  if x.ret = true then (if s.busy x.th = some x.id ∧ x.op = op0 then 0 else 6) else
  if (s.busy x.th).isSome = true ∨ x.id ≠ (s.ops.length : Int) + 1 ∨ x.rp ≠ rp0 ∨ opE x.op ≠ 0 then 6 else 0
def stepS (s : TL) (k : Nat) (x : EvT) : TL :=
  if x.ret = true then ⟨setTo s.ops (x.id - 1).toNat k x.rp, s.opn ++ [((s.cnt - 1 : Nat) : Int)], fun t => if t = x.th then none else s.busy t, s.cnt - 1⟩
  else ⟨s.ops ++ [⟨x.id, x.th, k, -1, x.op, rp0⟩], s.opn ++ [((s.cnt + 1 : Nat) : Int)], fun t => if t = x.th then some x.id else s.busy t, s.cnt + 1⟩
inductive Run (l : List EvT) : Nat → TL → Prop
  | zero : Run l 0 TL.init
  | succ {k : Nat} {s : TL} {x : EvT} : Run l k s → l[k]? = some x → stepE s x = 0 → Run l (k + 1) (stepS s k x)
theorem Run.le {l : List EvT} {k : Nat} {s : TL} (h : Run l k s) : k ≤ l.length := by
  induction h with
  | zero => omega
  | succ _ hx _ _ => have := (List.getElem?_eq_some_iff.1 hx).1; omega
structure Inv (l : List EvT) (k : Nat) (s : TL) : Prop where
  ids : ∀ (j : Nat) (o : HoT), s.ops[j]? = some o → o.id = (j : Int) + 1 ∧ ∃ (i : Nat) (x : EvT), i < k ∧ l[i]? = some x ∧ o.fr = (i : Int) ∧ x.ret = false ∧ x.id = (j : Int) + 1 ∧ x.th = o.th ∧ x.op = o.op
  cal : ∀ (i : Nat) (x : EvT), i < k → l[i]? = some x → x.ret = false → ∃ (j : Nat) (o : HoT), s.ops[j]? = some o ∧ x.id = (j : Int) + 1 ∧ o.fr = (i : Int)
  ret : ∀ (i : Nat) (x : EvT), i < k → l[i]? = some x → x.ret = true → ∃ (j : Nat) (o : HoT), s.ops[j]? = some o ∧ x.id = (j : Int) + 1 ∧ o.to = (i : Int) ∧ o.rp = x.rp
  tos : ∀ (j : Nat) (o : HoT), s.ops[j]? = some o → (o.to = -1 ∧ o.rp = rp0) ∨ ∃ (i : Nat) (x : EvT), i < k ∧ l[i]? = some x ∧ o.to = (i : Int) ∧ x.ret = true ∧ x.id = (j : Int) + 1
  bsy : ∀ t id : Int, s.busy t = some id ↔ ∃ (j : Nat) (o : HoT), s.ops[j]? = some o ∧ id = (j : Int) + 1 ∧ o.th = t ∧ o.to = -1
  cnc : ((l.take k).filter fun e => !e.ret).length = s.ops.length
  opl : s.opn.length = k
  opk : s.ops.length ≤ k
theorem snoc_get {α : Type} {l : List α} {a b : α} {j : Nat} : (l ++ [a])[j]? = some b ↔ l[j]? = some b ∨ (j = l.length ∧ b = a) := by
  rw [List.getElem?_append]
  by_cases h : j < l.length
  · rw [if_pos h]
    constructor
    · exact .inl
    · rintro (h1 | ⟨h1, -⟩)
      · exact h1
      · omega
  · rw [if_neg h, List.getElem?_eq_none (l := l) (by omega)]
    by_cases h2 : j = l.length
    · subst h2
      rw [Nat.sub_self]
      simp [eq_comm]
    · rw [List.getElem?_eq_none (by simp; omega)]
      simp [h2]
theorem take_snoc {l : List EvT} {k : Nat} {x : EvT} (h : l[k]? = some x) : l.take (k + 1) = l.take k ++ [x] := by
  obtain ⟨h1, rfl⟩ := List.getElem?_eq_some_iff.1 h
  exact List.take_succ_eq_append_getElem h1
theorem stepE_ret {s : TL} {x : EvT} (hr : x.ret = true) (h : stepE s x = 0) : s.busy x.th = some x.id ∧ x.op = op0 ∧ 1 ≤ x.th ∧ x.th ≤ 64 := by
  unfold stepE at h
  split at h
  · omega
  · try rw [if_pos hr] at h
    split at h
    · rename_i h1 h2
      exact ⟨h2.1, h2.2, by omega, by omega⟩
    · omega
theorem stepE_call {s : TL} {x : EvT} (hr : x.ret = false) (h : stepE s x = 0) : s.busy x.th = none ∧ x.id = (s.ops.length : Int) + 1 ∧ x.rp = rp0 ∧ opE x.op = 0 ∧ 1 ≤ x.th ∧ x.th ≤ 64 := by
  unfold stepE at h
  split at h
  · omega
  · try rw [if_neg (by rw [hr]; simp)] at h
    split at h
    · omega
    · rename_i h1 h2
      simp only [not_or, Classical.not_not] at h2
      refine ⟨?_, h2.2.1, h2.2.2.1, h2.2.2.2, by omega, by omega⟩
      cases hb : s.busy x.th with
      | none => rfl
      | some v => rw [hb] at h2; simp at h2
theorem Run.inv {l : List EvT} {k : Nat} {s : TL} (h : Run l k s) : Inv l k s := by
  induction h with
  | zero => exact ⟨by simp [TL.init], fun i x hi => by omega, fun i x hi => by omega, by simp [TL.init], by simp [TL.init], by simp [TL.init], rfl, by simp [TL.init]⟩
  | @succ k s x hrun hx he ih =>
    have hlt := (List.getElem?_eq_some_iff.1 hx).1
    cases hr : x.ret with
    | true =>
      obtain ⟨hb, hop, -, -⟩ := stepE_ret hr he
      obtain ⟨j, o0, g0, gid, gth, gto⟩ := (ih.bsy _ _).1 hb
      have ej : (x.id - 1).toNat = j := by omega
      have hj : j < s.ops.length := (List.getElem?_eq_some_iff.1 g0).1
      have hs : stepS s k x = ⟨s.ops.set j { o0 with to := (k : Int), rp := x.rp }, s.opn ++ [((s.cnt - 1 : Nat) : Int)], fun t => if t = x.th then none else s.busy t, s.cnt - 1⟩ := by
        unfold stepS setTo
        rw [if_pos hr, ej, g0]
      rw [hs]
      have hget : ∀ (j' : Nat) (o : HoT), (s.ops.set j { o0 with to := (k : Int), rp := x.rp })[j']? = some o ↔ (j' = j ∧ o = { o0 with to := (k : Int), rp := x.rp }) ∨ (j' ≠ j ∧ s.ops[j']? = some o) := fun j' o => by
        rw [List.getElem?_set]
        by_cases e : j = j'
        · subst e
          rw [if_pos rfl, if_pos hj]
          simp [eq_comm]
        · rw [if_neg e]
          simp [Ne.symm e, fun h : j' = j => e h.symm]
      refine ⟨fun j' o ho => ?_, fun i y hi hy hyr => ?_, fun i y hi hy hyr => ?_, fun j' o ho => ?_, fun t id => ?_, ?_, by simp [ih.opl], by simp; have := ih.opk; omega⟩
      · rcases (hget j' o).1 ho with ⟨rfl, rfl⟩ | ⟨hne, ho⟩
        · obtain ⟨h1, i, y, h2, h3⟩ := ih.ids _ _ g0
          exact ⟨h1, i, y, by omega, h3⟩
        · obtain ⟨h1, i, y, h2, h3⟩ := ih.ids _ _ ho
          exact ⟨h1, i, y, by omega, h3⟩
      · by_cases ei : i = k
        · subst ei
          rw [hx] at hy; injection hy with hy; subst hy
          rw [hr] at hyr; cases hyr
        · obtain ⟨j', o, h1, h2, h3⟩ := ih.cal i y (by omega) hy hyr
          by_cases e : j' = j
          · subst e
            rw [g0] at h1; injection h1 with h1; subst h1
            exact ⟨j', _, (hget _ _).2 (.inl ⟨rfl, rfl⟩), h2, h3⟩
          · exact ⟨j', o, (hget _ _).2 (.inr ⟨e, h1⟩), h2, h3⟩
      · by_cases ei : i = k
        · subst ei
          rw [hx] at hy; injection hy with hy; subst hy
          exact ⟨j, _, (hget _ _).2 (.inl ⟨rfl, rfl⟩), gid, rfl, rfl⟩
        · obtain ⟨j', o, h1, h2, h3, h4⟩ := ih.ret i y (by omega) hy hyr
          by_cases e : j' = j
          · subst e
            rw [g0] at h1; injection h1 with h1; subst h1
            omega
          · exact ⟨j', o, (hget _ _).2 (.inr ⟨e, h1⟩), h2, h3, h4⟩
      · rcases (hget j' o).1 ho with ⟨rfl, rfl⟩ | ⟨hne, ho⟩
        · exact .inr ⟨k, x, by omega, hx, rfl, hr, gid⟩
        · rcases ih.tos _ _ ho with h | ⟨i, y, h1, h2⟩
          · exact .inl h
          · exact .inr ⟨i, y, by omega, h2⟩
      · simp only
        constructor
        · intro h
          split at h
          · cases h
          · rename_i hne
            obtain ⟨j', o, h1, h2, h3, h4⟩ := (ih.bsy t id).1 h
            have e : j' ≠ j := fun e => by
              subst e
              rw [g0] at h1; injection h1 with h1; subst h1
              exact hne (h3.symm.trans gth)
            exact ⟨j', o, (hget _ _).2 (.inr ⟨e, h1⟩), h2, h3, h4⟩
        · rintro ⟨j', o, h1, h2, h3, h4⟩
          rcases (hget j' o).1 h1 with ⟨rfl, rfl⟩ | ⟨hne, ho⟩
          · simp only at h4; omega
          · have h5 := (ih.bsy t id).2 ⟨j', o, ho, h2, h3, h4⟩
            by_cases et : t = x.th
            · subst et
              rw [hb] at h5; injection h5 with h5
              omega
            · rw [if_neg et]; exact h5
      · rw [take_snoc hx, List.filter_append]
        simp [hr, ih.cnc]
    | false =>
      obtain ⟨hb, hid, hrp, hop, -, -⟩ := stepE_call hr he
      have hs : stepS s k x = ⟨s.ops ++ [⟨x.id, x.th, (k : Int), -1, x.op, rp0⟩], s.opn ++ [((s.cnt + 1 : Nat) : Int)], fun t => if t = x.th then some x.id else s.busy t, s.cnt + 1⟩ := by
        unfold stepS
        rw [if_neg (by rw [hr]; simp)]
      rw [hs]
      refine ⟨fun j' o ho => ?_, fun i y hi hy hyr => ?_, fun i y hi hy hyr => ?_, fun j' o ho => ?_, fun t id => ?_, ?_, by simp [ih.opl], by simp; have := ih.opk; omega⟩
      · rcases snoc_get.1 ho with ho | ⟨rfl, rfl⟩
        · obtain ⟨h1, i, y, h2, h3⟩ := ih.ids _ _ ho
          exact ⟨h1, i, y, by omega, h3⟩
        · exact ⟨hid, k, x, by omega, hx, rfl, hr, hid, rfl, rfl⟩
      · by_cases ei : i = k
        · subst ei
          rw [hx] at hy; injection hy with hy; subst hy
          exact ⟨_, _, snoc_get.2 (.inr ⟨rfl, rfl⟩), hid, rfl⟩
        · obtain ⟨j', o, h1, h2, h3⟩ := ih.cal i y (by omega) hy hyr
          exact ⟨j', o, snoc_get.2 (.inl h1), h2, h3⟩
      · by_cases ei : i = k
        · subst ei
          rw [hx] at hy; injection hy with hy; subst hy
          rw [hr] at hyr; cases hyr
        · obtain ⟨j', o, h1, h2, h3, h4⟩ := ih.ret i y (by omega) hy hyr
          exact ⟨j', o, snoc_get.2 (.inl h1), h2, h3, h4⟩
      · rcases snoc_get.1 ho with ho | ⟨rfl, rfl⟩
        · rcases ih.tos _ _ ho with h | ⟨i, y, h1, h2⟩
          · exact .inl h
          · exact .inr ⟨i, y, by omega, h2⟩
        · exact .inl ⟨rfl, rfl⟩
      · simp only
        constructor
        · intro h
          split at h
          · rename_i et
            injection h with h
            exact ⟨_, _, snoc_get.2 (.inr ⟨rfl, rfl⟩), by omega, et.symm, rfl⟩
          · obtain ⟨j', o, h1, h2, h3, h4⟩ := (ih.bsy t id).1 h
            exact ⟨j', o, snoc_get.2 (.inl h1), h2, h3, h4⟩
        · rintro ⟨j', o, h1, h2, h3, h4⟩
          rcases snoc_get.1 h1 with ho | ⟨rfl, rfl⟩
          · have h5 := (ih.bsy t id).2 ⟨j', o, ho, h2, h3, h4⟩
            by_cases et : t = x.th
            · subst et
              rw [hb] at h5; cases h5
            · rw [if_neg et]; exact h5
          · simp only at h3
            rw [if_pos h3.symm]
            congr 1
            omega
      · rw [take_snoc hx, List.filter_append]
        simp [hr, ih.cnc]
theorem Inv.open_iff {l : List EvT} {k : Nat} {s : TL} (h : Inv l k s) (t id : Int) : s.busy t = some id ↔ (∃ (i : Nat) (x : EvT), i < k ∧ l[i]? = some x ∧ x.ret = false ∧ x.id = id ∧ x.th = t) ∧ ∀ (i : Nat) (x : EvT), i < k → l[i]? = some x → x.ret = true → x.id ≠ id := by
  rw [h.bsy]
  constructor
  · rintro ⟨j, o, h1, h2, h3, h4⟩
    obtain ⟨-, i, x, a1, a2, a3, a4, a5, a6, -⟩ := h.ids j o h1
    refine ⟨⟨i, x, a1, a2, a4, by omega, by rw [a6]; exact h3⟩, fun i' x' b1 b2 b3 b4 => ?_⟩
    obtain ⟨j', o', c1, c2, c3, -⟩ := h.ret i' x' b1 b2 b3
    have : j' = j := by omega
    subst this
    rw [h1] at c1; injection c1 with c1; subst c1
    omega
  · rintro ⟨⟨i, x, a1, a2, a3, a4, a5⟩, hn⟩
    obtain ⟨j, o, b1, b2, b3⟩ := h.cal i x a1 a2 a3
    obtain ⟨-, i', x', c1, c2, c3, -, -, c4, -⟩ := h.ids j o b1
    have : i' = i := by omega
    subst this
    rw [a2] at c2; injection c2 with c2; subst c2
    refine ⟨j, o, b1, by omega, by rw [← c4]; exact a5, ?_⟩
    rcases h.tos j o b1 with ⟨d, -⟩ | ⟨i2, x2, d1, d2, d3, d4, d5⟩
    · exact d
    · exact absurd (by omega) (hn i2 x2 d1 d2 d4)
theorem called_ok {W : AW} {v : Value} {l : List EvT} (h : EvL W v l) (hl : l.length ≤ 1000) {n : Nat} (hn : n ≤ l.length) (id : Int) : ∃ r : Int, omS (.func (.func 165) #[] #[]) [v, .int .i64 (n : Int), .int .i64 id] W = some (.int .i64 r, W) ∧ ((r = -1 ∧ ∀ (i : Nat) (x : EvT), i < n → l[i]? = some x → x.ret = false → x.id ≠ id) ∨ ∃ (i : Nat) (x : EvT), i < n ∧ l[i]? = some x ∧ x.ret = false ∧ x.id = id ∧ r = (i : Int)) := by
  have main : Ok (ref24_called omS v (.int .i64 (n : Int)) (.int .i64 id) W) fun q => q.2 = W ∧ ∃ r : Int, q.1 = .int .i64 r ∧ ((r = -1 ∧ ∀ (i : Nat) (x : EvT), i < n → l[i]? = some x → x.ret = false → x.id ≠ id) ∨ ∃ (i : Nat) (x : EvT), i < n ∧ l[i]? = some x ∧ x.ret = false ∧ x.id = id ∧ r = (i : Int)) := by
    unfold ref24_called
    simp only [SX]
    refine Ok_loop n (by omega) (fun k R W' => W' = W ∧ R 0 = v ∧ R 1 = .int .i64 (n : Int) ∧ R 2 = .int .i64 id ∧ R 7 = .int .i64 (k : Int) ∧ ∀ (i : Nat) (x : EvT), i < k → l[i]? = some x → x.ret = false → x.id ≠ id)
      (fun r => r.2.2 = W ∧ ((r.1 = .exit 0 ∧ ∀ (i : Nat) (x : EvT), i < n → l[i]? = some x → x.ret = false → x.id ≠ id) ∨ (r.1 = .ret ∧ ∃ (i : Nat) (x : EvT), i < n ∧ l[i]? = some x ∧ x.ret = false ∧ x.id = id ∧ r.2.1 6 = .int .i64 (i : Int)))) ⟨rfl, rfl, rfl, rfl, rfl, fun i _ hi => by omega⟩ ?_ ?_ ?_
    · rintro k R W' hk ⟨rfl, r0, r1, r2, r7, hx⟩
      unfold ref24_called_L1
      have hk' : k < l.length := by omega
      obtain ⟨b, o, i1, i2, i3⟩ := EvL.get h hk'
      obtain ⟨-, f0, f1, f2, -⟩ := i3 W' rfl
      have t1 : ((k : Int) < (n : Int)) := by omega
      have t2 := fun W' => oBin_add (P := Tryz.prog) (W := W') (t := 3) (c := false) (d := true) (a := (k : Int)) (b := 1) (by omega) (by omega)
      have hg : l[k]? = some l[k] := List.getElem?_eq_getElem hk'
      generalize l[k] = x at f0 f1 f2 hg
      have next : (x.ret = false → x.id ≠ id) → ∀ (i : Nat) (y : EvT), i < k + 1 → l[i]? = some y → y.ret = false → y.id ≠ id := fun h0 i y hi hy hr => by
        by_cases e : i = k
        · subst e
          rw [hg] at hy; injection hy with hy; subst hy
          exact h0 hr
        · exact hx i y (by omega) hy hr
      cases hr : x.ret with
      | true =>
        rw [hr] at f2
        simp only [SX, r0, r1, r2, r7, t1, decide_true, i1, f2, Bool.not_true, Bool.not_false, t2, Ok_some]
        exact .inl ⟨trivial, trivial, r0, r1, r2, by rw [show ((k + 1 : Nat) : Int) = (k : Int) + 1 by omega]; rfl, next fun h1 => by rw [hr] at h1; cases h1⟩
      | false =>
        rw [hr] at f2
        by_cases e : x.id = id
        · have e' : decide (x.id = id) = true := decide_eq_true e
          simp only [SX, r0, r1, r2, r7, t1, decide_true, i1, f2, Bool.not_true, Bool.not_false, Nat.add_zero, f0, e', Ok_some]
          exact .inr ⟨by simp, trivial, .inr ⟨trivial, k, x, hk, hg, hr, e, rfl⟩⟩
        · have e' : decide (x.id = id) = false := decide_eq_false e
          simp only [SX, r0, r1, r2, r7, t1, decide_true, i1, f2, Bool.not_true, Bool.not_false, Nat.add_zero, f0, e', t2, Ok_some]
          exact .inl ⟨trivial, trivial, r0, r1, r2, by rw [show ((k + 1 : Nat) : Int) = (k : Int) + 1 by omega]; rfl, next fun _ => e⟩
    · rintro R W' ⟨rfl, r0, r1, r2, r7, hx⟩
      unfold ref24_called_L1
      have t1 : ¬ ((n : Int) < (n : Int)) := by omega
      simp only [SX, r1, r7, t1, decide_false, Ok_some]
      exact ⟨by simp, trivial, .inl ⟨trivial, hx⟩⟩
    · rintro ⟨q, R, W'⟩ ⟨rfl, hx⟩
      simp only at hx
      rcases hx with ⟨rfl, hx⟩ | ⟨rfl, i, x, h1, h2, h3, h4, h5⟩
      · simp only [SX, Ok_some]
        exact ⟨trivial, -1, rfl, .inl ⟨rfl, hx⟩⟩
      · simp only [SX, h5, Ok_some]
        exact ⟨trivial, _, rfl, .inr ⟨i, x, h1, h2, h3, h4, rfl⟩⟩
  obtain ⟨⟨q, W'⟩, h1, rfl, r, h2, h3⟩ := main
  simp only at h2
  subst h2
  exact ⟨r, om_drop rfl ⟨_, h1, rfl, .refl _⟩ ref24_called_om, h3⟩
theorem returned_ok {W : AW} {v : Value} {l : List EvT} (h : EvL W v l) (hl : l.length ≤ 1000) {n : Nat} (hn : n ≤ l.length) (id : Int) : ∃ r : Int, omS (.func (.func 166) #[] #[]) [v, .int .i64 (n : Int), .int .i64 id] W = some (.int .i64 r, W) ∧ ((r = -1 ∧ ∀ (i : Nat) (x : EvT), i < n → l[i]? = some x → x.ret = true → x.id ≠ id) ∨ ∃ (i : Nat) (x : EvT), i < n ∧ l[i]? = some x ∧ x.ret = true ∧ x.id = id ∧ r = (i : Int)) := by
  have main : Ok (ref24_returned omS v (.int .i64 (n : Int)) (.int .i64 id) W) fun q => q.2 = W ∧ ∃ r : Int, q.1 = .int .i64 r ∧ ((r = -1 ∧ ∀ (i : Nat) (x : EvT), i < n → l[i]? = some x → x.ret = true → x.id ≠ id) ∨ ∃ (i : Nat) (x : EvT), i < n ∧ l[i]? = some x ∧ x.ret = true ∧ x.id = id ∧ r = (i : Int)) := by
    unfold ref24_returned
    simp only [SX]
    refine Ok_loop n (by omega) (fun k R W' => W' = W ∧ R 0 = v ∧ R 1 = .int .i64 (n : Int) ∧ R 2 = .int .i64 id ∧ R 7 = .int .i64 (k : Int) ∧ ∀ (i : Nat) (x : EvT), i < k → l[i]? = some x → x.ret = true → x.id ≠ id)
      (fun r => r.2.2 = W ∧ ((r.1 = .exit 0 ∧ ∀ (i : Nat) (x : EvT), i < n → l[i]? = some x → x.ret = true → x.id ≠ id) ∨ (r.1 = .ret ∧ ∃ (i : Nat) (x : EvT), i < n ∧ l[i]? = some x ∧ x.ret = true ∧ x.id = id ∧ r.2.1 6 = .int .i64 (i : Int)))) ⟨rfl, rfl, rfl, rfl, rfl, fun i _ hi => by omega⟩ ?_ ?_ ?_
    · rintro k R W' hk ⟨rfl, r0, r1, r2, r7, hx⟩
      unfold ref24_returned_L1
      have hk' : k < l.length := by omega
      obtain ⟨b, o, i1, i2, i3⟩ := EvL.get h hk'
      obtain ⟨-, f0, f1, f2, -⟩ := i3 W' rfl
      have t1 : ((k : Int) < (n : Int)) := by omega
      have t2 := fun W' => oBin_add (P := Tryz.prog) (W := W') (t := 3) (c := false) (d := true) (a := (k : Int)) (b := 1) (by omega) (by omega)
      have hg : l[k]? = some l[k] := List.getElem?_eq_getElem hk'
      generalize l[k] = x at f0 f1 f2 hg
      have next : (x.ret = true → x.id ≠ id) → ∀ (i : Nat) (y : EvT), i < k + 1 → l[i]? = some y → y.ret = true → y.id ≠ id := fun h0 i y hi hy hr => by
        by_cases e : i = k
        · subst e
          rw [hg] at hy; injection hy with hy; subst hy
          exact h0 hr
        · exact hx i y (by omega) hy hr
      cases hr : x.ret with
      | false =>
        rw [hr] at f2
        simp only [SX, r0, r1, r2, r7, t1, decide_true, i1, f2, Bool.not_true, Bool.not_false, t2, Ok_some]
        exact .inl ⟨trivial, trivial, r0, r1, r2, by rw [show ((k + 1 : Nat) : Int) = (k : Int) + 1 by omega]; rfl, next fun h1 => by rw [hr] at h1; cases h1⟩
      | true =>
        rw [hr] at f2
        by_cases e : x.id = id
        · have e' : decide (x.id = id) = true := decide_eq_true e
          simp only [SX, r0, r1, r2, r7, t1, decide_true, i1, f2, Bool.not_true, Bool.not_false, Nat.add_zero, f0, e', Ok_some]
          exact .inr ⟨by simp, trivial, .inr ⟨trivial, k, x, hk, hg, hr, e, rfl⟩⟩
        · have e' : decide (x.id = id) = false := decide_eq_false e
          simp only [SX, r0, r1, r2, r7, t1, decide_true, i1, f2, Bool.not_true, Bool.not_false, Nat.add_zero, f0, e', t2, Ok_some]
          exact .inl ⟨trivial, trivial, r0, r1, r2, by rw [show ((k + 1 : Nat) : Int) = (k : Int) + 1 by omega]; rfl, next fun _ => e⟩
    · rintro R W' ⟨rfl, r0, r1, r2, r7, hx⟩
      unfold ref24_returned_L1
      have t1 : ¬ ((n : Int) < (n : Int)) := by omega
      simp only [SX, r1, r7, t1, decide_false, Ok_some]
      exact ⟨by simp, trivial, .inl ⟨trivial, hx⟩⟩
    · rintro ⟨q, R, W'⟩ ⟨rfl, hx⟩
      simp only at hx
      rcases hx with ⟨rfl, hx⟩ | ⟨rfl, i, x, h1, h2, h3, h4, h5⟩
      · simp only [SX, Ok_some]
        exact ⟨trivial, -1, rfl, .inl ⟨rfl, hx⟩⟩
      · simp only [SX, h5, Ok_some]
        exact ⟨trivial, _, rfl, .inr ⟨i, x, h1, h2, h3, h4, rfl⟩⟩
  obtain ⟨⟨q, W'⟩, h1, rfl, r, h2, h3⟩ := main
  simp only at h2
  subst h2
  exact ⟨r, om_drop rfl ⟨_, h1, rfl, .refl _⟩ ref24_returned_om, h3⟩
theorem Inv.uniq {l : List EvT} {k : Nat} {s : TL} (I : Inv l k s) {i i' : Nat} {x x' : EvT} (h1 : i < k) (h2 : l[i]? = some x) (h3 : x.ret = false) (h1' : i' < k) (h2' : l[i']? = some x') (h3' : x'.ret = false) (e : x.id = x'.id) : i = i' := by
  obtain ⟨j, o, a1, a2, a3⟩ := I.cal i x h1 h2 h3
  obtain ⟨j', o', b1, b2, b3⟩ := I.cal i' x' h1' h2' h3'
  have : j = j' := by omega
  subst this
  rw [a1] at b1; injection b1 with b1; subst b1
  omega
def callsTo (l : List EvT) (i : Nat) : Nat := ((l.take i).filter fun e => !e.ret).length
theorem callsTo_succ {l : List EvT} {i : Nat} {x : EvT} (h : l[i]? = some x) : callsTo l (i + 1) = callsTo l i + if x.ret = true then 0 else 1 := by
  unfold callsTo
  rw [take_snoc h, List.filter_append, List.length_append]
  cases hr : x.ret <;> simp [hr]
theorem callsTo_le (l : List EvT) (i : Nat) : callsTo l i ≤ i := by
  unfold callsTo
  refine Nat.le_trans (List.length_filter_le _ _) ?_
  rw [List.length_take]; omega
open Classical in
theorem event_ok {W : AW} {v : Value} {l : List EvT} (h : EvL W v l) (hl : l.length ≤ 1000) {k : Nat} {s : TL} {x : EvT} (I : Inv l k s) (hx : l[k]? = some x) : omS (.func (.func 109) #[] #[]) [v, .int .i64 (k : Int)] W = some (.int .i64 (stepE s x), W) := by
  obtain ⟨hk, hxe⟩ := List.getElem?_eq_some_iff.1 hx
  refine om_drop rfl ?_ ref24_event_om
  unfold ref24_event
  obtain ⟨b, o, i1, i2, i3⟩ := EvL.get h hk
  obtain ⟨fa, -⟩ := i3 W rfl
  rw [hxe] at fa
  obtain ⟨V, V2, a1, a2, l2, n2, x2⟩ := evBox x W
  have h2 := h.mono l2
  have hth := evB_th x2
  by_cases c1 : x.th < 1
  · have e7 : stepE s x = 7 := by unfold stepE; rw [if_pos (.inl c1)]
    simp only [SX, i1, fa, a1, a2, Nat.zero_add, hth, c1, decide_true, Ok_some]
    exact ⟨by rw [e7], l2⟩
  by_cases c2 : 64 < x.th
  · have e7 : stepE s x = 7 := by unfold stepE; rw [if_pos (.inr c2)]
    simp only [SX, i1, fa, a1, a2, Nat.zero_add, hth, c1, c2, decide_true, decide_false, Ok_some]
    exact ⟨by rw [e7], l2⟩
  have cc : ¬ (x.th < 1 ∨ 64 < x.th) := by omega
  simp only [SX, i1, fa, a1, a2, Nat.zero_add, hth, c1, c2, decide_false]
  cases hr : x.ret with
  | true =>
    have hret := evB_ret x2
    rw [hr] at hret
    have he : stepE s x = 0 ∧ (s.busy x.th = some x.id ∧ x.op = op0) ∨ stepE s x = 6 ∧ ¬ (s.busy x.th = some x.id ∧ x.op = op0) := by
      unfold stepE
      rw [if_neg cc, if_pos hr]
      by_cases e : s.busy x.th = some x.id ∧ x.op = op0
      · exact .inl ⟨if_pos e, e⟩
      · exact .inr ⟨if_neg e, e⟩
    obtain ⟨r, p1, p2⟩ := called_ok h2 hl (n := k) (by omega) x.id
    rcases p2 with ⟨rfl, p2⟩ | ⟨i, y, q1, q2, q3, q4, rfl⟩
    · have d1 : decide ((-1 : Int) < 0) = true := rfl
      rcases he with ⟨-, he, -⟩ | ⟨he, -⟩
      · obtain ⟨⟨i, y, b1, b2, b3, b4, -⟩, -⟩ := (I.open_iff _ _).1 he
        exact absurd b4 (p2 i y b1 b2 b3)
      · simp only [SX, hret, evB_id x2, p1, d1, Ok_some]
        exact ⟨by rw [he], l2⟩
    · have d1 : decide ((i : Int) < 0) = false := decide_eq_false (by omega)
      obtain ⟨r2, p3, p4⟩ := returned_ok h2 hl (n := k) (by omega) x.id
      rcases p4 with ⟨rfl, p4⟩ | ⟨i', y', z1, z2, z3, z4, rfl⟩
      · have d2 : decide ((0 : Int) ≤ -1) = false := rfl
        have hi : i < l.length := by omega
        obtain ⟨b', o', j1, j2, j3⟩ := EvL.get h2 hi
        obtain ⟨-, -, g1, -⟩ := j3 V2 rfl
        have hye : l[i] = y := (List.getElem?_eq_some_iff.1 q2).2
        rw [hye] at g1
        have hb : s.busy x.th = some x.id ↔ y.th = x.th := by
          rw [I.open_iff]
          constructor
          · rintro ⟨⟨i3, y3, b1, b2, b3, b4, b5⟩, -⟩
            have := I.uniq b1 b2 b3 q1 q2 q3 (by rw [b4, q4])
            subst this
            rw [q2] at b2; injection b2 with b2; rw [b2]; exact b5
          · intro e
            exact ⟨⟨i, y, q1, q2, q3, q4, e⟩, p4⟩
        by_cases e : y.th = x.th
        · have d3 : decide (y.th = x.th) = true := decide_eq_true e
          have nq := neqOp x.op op0 false false V2
          by_cases e2 : x.op = op0
          · rw [decide_eq_true e2] at nq
            rcases he with ⟨he, -⟩ | ⟨-, he⟩
            · simp only [SX, hret, evB_id x2, hth, p1, d1, p3, d2, j1, g1, d3, evB_op x2, bd117, nq, Bool.not_true, Ok_some]
              exact ⟨by rw [he], l2⟩
            · exact absurd ⟨hb.2 e, e2⟩ he
          · rw [decide_eq_false e2] at nq
            rcases he with ⟨-, -, he⟩ | ⟨he, -⟩
            · exact absurd he e2
            · simp only [SX, hret, evB_id x2, hth, p1, d1, p3, d2, j1, g1, d3, evB_op x2, bd117, nq, Bool.not_true, Bool.not_false, Ok_some]
              exact ⟨by rw [he], l2⟩
        · have d3 : decide (y.th = x.th) = false := decide_eq_false e
          rcases he with ⟨-, he, -⟩ | ⟨he, -⟩
          · exact absurd (hb.1 he) e
          · simp only [SX, hret, evB_id x2, hth, p1, d1, p3, d2, j1, g1, d3, Bool.not_false, Ok_some]
            exact ⟨by rw [he], l2⟩
      · have d2 : decide ((0 : Int) ≤ (i' : Int)) = true := decide_eq_true (by omega)
        rcases he with ⟨-, he, -⟩ | ⟨he, -⟩
        · exact absurd z4 (((I.open_iff _ _).1 he).2 i' y' z1 z2 z3)
        · simp only [SX, hret, evB_id x2, p1, d1, p3, d2, Ok_some]
          exact ⟨by rw [he], l2⟩
  | false =>
    have hret := evB_ret x2
    rw [hr] at hret
    simp only [SX, hret]
    refine Ok_loop k (by omega) (fun i R V' => V' = V2 ∧ R 0 = v ∧ R 1 = .int .i64 (k : Int) ∧ R 5 = .pointer (some ⟨W.next, 0, none⟩) ∧ R 7 = .int .i64 (callsTo l i : Int) ∧ R 8 = .int .i64 (i : Int) ∧ ∀ (j : Nat) (y : EvT), j < i → l[j]? = some y → y.ret = false → y.th = x.th → ∃ (j' : Nat) (y' : EvT), j' < k ∧ l[j']? = some y' ∧ y'.ret = true ∧ y'.id = y.id)
      (fun r => r.2.2 = V2 ∧ ((r.1 = .exit 0 ∧ r.2.1 5 = .pointer (some ⟨W.next, 0, none⟩) ∧ r.2.1 7 = .int .i64 (s.ops.length : Int) ∧ (s.busy x.th).isSome = false) ∨ (r.1 = .ret ∧ r.2.1 4 = .int .i64 6 ∧ (s.busy x.th).isSome = true))) ⟨rfl, rfl, rfl, rfl, rfl, rfl, fun j y hj => by omega⟩ ?_ ?_ ?_
    · rintro i R V' hi ⟨rfl, r0, r1, r5, r7, r8, hn⟩
      unfold ref24_event_L1
      have hil : i < l.length := by omega
      obtain ⟨b', o', j1, j2, j3⟩ := EvL.get h2 hil
      obtain ⟨-, g0, g1, g2, -⟩ := j3 V' rfl
      have hy : l[i]? = some l[i] := List.getElem?_eq_getElem hil
      generalize l[i] = y at g0 g1 g2 hy
      have t1 : ((i : Int) < (k : Int)) := by omega
      have t2 := fun W' => oBin_add (P := Tryz.prog) (W := W') (t := 3) (c := false) (d := true) (a := (i : Int)) (b := 1) (by omega) (by omega)
      have e3 : ((i + 1 : Nat) : Int) = (i : Int) + 1 := by omega
      have hcs := callsTo_succ hy
      have hcl := callsTo_le l i
      have next : (y.ret = false → y.th = x.th → ∃ (j' : Nat) (y' : EvT), j' < k ∧ l[j']? = some y' ∧ y'.ret = true ∧ y'.id = y.id) → ∀ (j : Nat) (z : EvT), j < i + 1 → l[j]? = some z → z.ret = false → z.th = x.th → ∃ (j' : Nat) (y' : EvT), j' < k ∧ l[j']? = some y' ∧ y'.ret = true ∧ y'.id = z.id := fun h0 j z hj hz hzr hzt => by
        by_cases e : j = i
        · subst e
          rw [hy] at hz; injection hz with hz; subst hz
          exact h0 hzr hzt
        · exact hn j z (by omega) hz hzr hzt
      cases hyr : y.ret with
      | true =>
        rw [hyr] at g2 hcs
        rw [if_pos rfl] at hcs
        simp only [SX, r0, r1, r8, t1, decide_true, j1, g2, t2, Ok_some]
        exact .inl ⟨trivial, trivial, r0, r1, r5, by rw [hcs]; exact r7, by rw [e3]; rfl, next fun h1 => by rw [hyr] at h1; cases h1⟩
      | false =>
        rw [hyr] at g2 hcs
        rw [if_neg (by simp)] at hcs
        have t3 := fun W' => oBin_add (P := Tryz.prog) (W := W') (t := 3) (c := false) (d := true) (a := (callsTo l i : Int)) (b := 1) (by omega) (by omega)
        have e4 : ((callsTo l (i + 1) : Nat) : Int) = (callsTo l i : Int) + 1 := by omega
        by_cases e : y.th = x.th
        · have d1 : decide (y.th = x.th) = true := decide_eq_true e
          obtain ⟨r, p1, p2⟩ := returned_ok h2 hl (n := k) (by omega) y.id
          rcases p2 with ⟨rfl, p2⟩ | ⟨i', y', z1, z2, z3, z4, rfl⟩
          · have d2 : decide ((-1 : Int) < 0) = true := rfl
            simp only [SX, r0, r1, r5, r7, r8, t1, decide_true, j1, g2, t3, Nat.zero_add, Nat.add_zero, g1, hth, d1, g0, p1, d2, Ok_some]
            refine .inr ⟨by simp, trivial, .inr ⟨trivial, rfl, ?_⟩⟩
            rw [(I.open_iff x.th y.id).2 ⟨⟨i, y, by omega, hy, hyr, rfl, e⟩, p2⟩]; rfl
          · have d2 : decide ((i' : Int) < 0) = false := decide_eq_false (by omega)
            simp only [SX, r0, r1, r5, r7, r8, t1, decide_true, j1, g2, t3, Nat.zero_add, Nat.add_zero, g1, hth, d1, g0, p1, d2, t2, Ok_some]
            exact .inl ⟨trivial, trivial, r0, r1, r5, by rw [e4]; rfl, by rw [e3]; rfl, next fun _ _ => ⟨i', y', z1, z2, z3, z4⟩⟩
        · have d1 : decide (y.th = x.th) = false := decide_eq_false e
          simp only [SX, r0, r1, r5, r7, r8, t1, decide_true, j1, g2, t3, Nat.zero_add, Nat.add_zero, g1, hth, d1, t2, Ok_some]
          exact .inl ⟨trivial, trivial, r0, r1, r5, by rw [e4]; rfl, by rw [e3]; rfl, next fun _ h1 => absurd h1 e⟩
    · rintro R V' ⟨rfl, r0, r1, r5, r7, r8, hn⟩
      unfold ref24_event_L1
      have t1 : ¬ ((k : Int) < (k : Int)) := by omega
      simp only [SX, r1, r8, t1, decide_false, Ok_some]
      refine ⟨by simp, trivial, .inl ⟨trivial, r5, (r7.trans (congrArg (fun n : Nat => Value.int .i64 (n : Int)) I.cnc)), ?_⟩⟩
      cases hb : s.busy x.th with
      | none => rfl
      | some id =>
        obtain ⟨⟨i, y, b1, b2, b3, b4, b5⟩, b6⟩ := (I.open_iff _ _).1 hb
        obtain ⟨j', y', z1, z2, z3, z4⟩ := hn i y b1 b2 b3 b5
        exact absurd (z4.trans b4) (b6 j' y' z1 z2 z3)
    · rintro ⟨q, R, V'⟩ ⟨rfl, hq⟩
      simp only at hq l2 x2
      have hok := I.opk
      rcases hq with ⟨rfl, r5, r7, hb⟩ | ⟨rfl, r4, hb⟩
      case inr =>
        have e6 : stepE s x = 6 := by
          unfold stepE
          rw [if_neg cc, if_neg (by rw [hr]; simp), if_pos (.inl hb)]
        simp only [SX, r4, Ok_some]
        exact ⟨by rw [e6], l2⟩
      have hid := evB_id x2
      have t3 := fun W' => oBin_add (P := Tryz.prog) (W := W') (t := 3) (c := false) (d := true) (a := (s.ops.length : Int)) (b := 1) (by omega) (by omega)
      have hE : ∀ {b : Bool}, (b = true ↔ (x.id ≠ (s.ops.length : Int) + 1 ∨ x.rp ≠ rp0 ∨ opE x.op ≠ 0)) → stepE s x = if b = true then 6 else 0 := fun {b} hbb => by
        unfold stepE
        rw [if_neg cc, if_neg (by rw [hr]; simp)]
        have : ((s.busy x.th).isSome = true ∨ x.id ≠ (s.ops.length : Int) + 1 ∨ x.rp ≠ rp0 ∨ opE x.op ≠ 0) ↔ b = true := by
          rw [hbb, hb]; simp
        by_cases hb' : b = true
        · rw [if_pos hb', if_pos (this.2 hb')]
        · rw [if_neg hb', if_neg fun h => hb' (this.1 h)]
      by_cases e1 : x.id = (s.ops.length : Int) + 1
      · have d1 : decide (x.id = (s.ops.length : Int) + 1) = true := decide_eq_true e1
        have nq := neqRp x.rp rp0 false false V'
        by_cases e2 : x.rp = rp0
        · rw [decide_eq_true e2] at nq
          by_cases e3 : opE x.op = 0
          · have d3 : decide (opE x.op = 0) = true := decide_eq_true e3
            have := hE (b := false) (by simp [e1, e2, e3])
            rw [if_neg (by simp)] at this
            simp only [SX, r5, r7, Nat.zero_add, hid, t3, d1, evB_rp x2, bd119, nq, Bool.not_true, evB_op x2, rCheck_ok, d3, Ok_some]
            exact ⟨by rw [this], l2⟩
          · have d3 : decide (opE x.op = 0) = false := decide_eq_false e3
            have := hE (b := true) (by simp [e3])
            rw [if_pos rfl] at this
            simp only [SX, r5, r7, Nat.zero_add, hid, t3, d1, evB_rp x2, bd119, nq, Bool.not_true, Bool.not_false, evB_op x2, rCheck_ok, d3, Ok_some]
            exact ⟨by rw [this], l2⟩
        · rw [decide_eq_false e2] at nq
          have := hE (b := true) (by simp [e2])
          rw [if_pos rfl] at this
          simp only [SX, r5, r7, Nat.zero_add, hid, t3, d1, evB_rp x2, bd119, nq, Bool.not_true, Bool.not_false, Ok_some]
          exact ⟨by rw [this], l2⟩
      · have d1 : decide (x.id = (s.ops.length : Int) + 1) = false := decide_eq_false e1
        have := hE (b := true) (by simp [e1])
        rw [if_pos rfl] at this
        simp only [SX, r5, r7, Nat.zero_add, hid, t3, d1, Bool.not_false, Ok_some]
        exact ⟨by rw [this], l2⟩
theorem Run.prev {l : List EvT} {n : Nat} {s' : TL} (h : Run l n s') {k : Nat} (e : n = k + 1) : ∃ (s : TL) (x : EvT), Run l k s ∧ l[k]? = some x ∧ stepE s x = 0 ∧ s' = stepS s k x := by
  cases h with
  | zero => omega
  | @succ m s x h1 h2 h3 =>
    have : m = k := by omega
    subst this
    exact ⟨s, x, h1, h2, h3, rfl⟩
theorem Run.det {l : List EvT} {k : Nat} {s : TL} (h : Run l k s) : ∀ {s' : TL}, Run l k s' → s' = s := by
  induction h with
  | zero => intro s' h'; cases h'; rfl
  | @succ k s x h1 h2 h3 ih =>
    intro s' h'
    obtain ⟨s2, x2, a1, a2, a3, rfl⟩ := h'.prev rfl
    rw [h2] at a2; injection a2 with a2; subst a2
    rw [ih a1]
theorem Run.pre {l : List EvT} {k : Nat} {s : TL} (h : Run l k s) : ∀ {m : Nat}, m ≤ k → ∃ s', Run l m s' := by
  induction h with
  | zero => intro m hm; have : m = 0 := by omega
            subst this; exact ⟨_, .zero⟩
  | @succ k s x h1 h2 h3 ih =>
    intro m hm
    by_cases e : m = k + 1
    · subst e; exact ⟨_, .succ h1 h2 h3⟩
    · exact ih (by omega)
theorem Run.stop {l : List EvT} {k : Nat} {s : TL} {x : EvT} (h : Run l k s) (hx : l[k]? = some x) (he : stepE s x ≠ 0) {m : Nat} {s' : TL} (h' : Run l m s') : m ≤ k := by
  by_cases hm : m ≤ k
  · exact hm
  · obtain ⟨s2, h2⟩ := h'.pre (m := k + 1) (by omega)
    obtain ⟨s3, x3, a1, a2, a3, -⟩ := h2.prev rfl
    rw [hx] at a2; injection a2 with a2; subst a2
    rw [h.det a1] at a3
    exact absurd a3 he
inductive Ans (e0 : Int) (l : List EvT) : Int → Int → Prop
  | ven : e0 ≠ 0 → Ans e0 l (-1) e0
  | len : e0 = 0 → 400 < l.length → Ans e0 l (-1) 3
  | bad {k : Nat} {s : TL} {x : EvT} : e0 = 0 → l.length ≤ 400 → Run l k s → l[k]? = some x → stepE s x ≠ 0 → Ans e0 l (k : Int) (stepE s x)
  | ok {s : TL} : e0 = 0 → l.length ≤ 400 → Run l l.length s → Ans e0 l 0 0
theorem Ans.det {e0 : Int} {l : List EvT} {a e a' e' : Int} (h : Ans e0 l a e) (h' : Ans e0 l a' e') : a = a' ∧ e = e' := by
  cases h with
  | ven h1 => cases h' with
    | ven h2 => exact ⟨rfl, rfl⟩
    | len h2 _ => exact absurd h2 h1
    | bad h2 => exact absurd h2 h1
    | ok h2 => exact absurd h2 h1
  | len h1 h2 => cases h' with
    | ven h3 => exact absurd h1 h3
    | len => exact ⟨rfl, rfl⟩
    | bad h3 h4 => omega
    | ok h3 h4 => omega
  | @bad k s x h1 h2 h3 h4 h5 => cases h' with
    | ven h6 => exact absurd h1 h6
    | len h6 h7 => omega
    | @bad k' s' x' h6 h7 h8 h9 h10 =>
      have a1 := h3.stop h4 h5 h8
      have a2 := h8.stop h9 h10 h3
      have : k = k' := by omega
      subst this
      rw [h4] at h9; injection h9 with h9; subst h9
      rw [h3.det h8]
      exact ⟨rfl, rfl⟩
    | ok h6 h7 h8 =>
      have a1 := h3.stop h4 h5 h8
      have a2 := (List.getElem?_eq_some_iff.1 h4).1
      omega
  | @ok s h1 h2 h3 => cases h' with
    | ven h6 => exact absurd h1 h6
    | len h6 h7 => omega
    | @bad k' s' x' h6 h7 h8 h9 h10 =>
      have a1 := h8.stop h9 h10 h3
      have a2 := (List.getElem?_eq_some_iff.1 h9).1
      omega
    | ok => exact ⟨rfl, rfl⟩
theorem Ans.good {e0 : Int} {l : List EvT} {a e : Int} (h : Ans e0 l a e) (he : e = 0) : a = 0 ∧ l.length ≤ 400 ∧ ∃ s, Run l l.length s := by
  cases h with
  | ven h1 => exact absurd he h1
  | len => omega
  | bad h1 h2 h3 h4 h5 => exact absurd he h5
  | ok h1 h2 h3 => exact ⟨rfl, h2, _, h3⟩
abbrev hiV (v : Ven) (sv ev : Value) : Value := .agg #[.int .i64 v.sh, .int .i64 v.ttl, .int .i64 v.ses, sv, ev]
structure HiA (W : AW) (v : Ven) (sv ev : Value) (l : List EvT) : Prop where
  secs : SecsC W sv v.secs
  small : v.secs.length < 1000
  rows : ∀ s ∈ v.secs, s.rows.length < 1000
  evs : EvL W ev l
theorem HiA.mono {W W' : AW} {v : Ven} {sv ev : Value} {l : List EvT} (h : HiA W v sv ev l) (hle : Le W W') : HiA W' v sv ev l := ⟨h.secs.mono hle, h.small, h.rows, h.evs.mono hle⟩
theorem hiBox (v : Ven) (sv ev : Value) (W : AW) : oBox (hiV v sv ev) W = some (.pointer (some ⟨W.next, 0, none⟩), W.add (.cells [.int .i64 v.sh, .int .i64 v.ttl, .int .i64 v.ses, sv, ev])) := oBox_agg _
theorem refHis_ok {W : AW} {v : Ven} {sv ev : Value} {l : List EvT} (h : HiA W v sv ev l) : ∃ a e : Int, Ans (venE v).2 l a e ∧ omS (.func (.func 47) #[] #[]) [hiV v sv ev] W = some (.tuple #[.int .i64 a, .int .i64 e], W) := by
  have main : Ok (ref24_Check omS (hiV v sv ev) W) fun q => ∃ a e : Int, Ans (venE v).2 l a e ∧ q.1 = .tuple #[.int .i64 a, .int .i64 e] ∧ Le W q.2 := by
    unfold ref24_Check
    have hle : Le W (W.add (.cells [.int .i64 v.sh, .int .i64 v.ttl, .int .i64 v.ses, sv, ev])) := (Le.refl W).add _
    have hc : cellsAt (W.add (.cells [.int .i64 v.sh, .int .i64 v.ttl, .int .i64 v.ses, sv, ev])) W.next = some [.int .i64 v.sh, .int .i64 v.ttl, .int .i64 v.ses, sv, ev] := cellsAt_new
    simp only [SX, hiBox, Nat.zero_add]
    generalize W.add (.cells [.int .i64 v.sh, .int .i64 v.ttl, .int .i64 v.ses, sv, ev]) = W1 at *
    have h1 := h.mono hle
    have c4 : ldC (.pointer (some ⟨W.next, 4, none⟩)) W1 = some (ev, W1) := ldC_ok hc rfl
    have cA : ldA 4 (.pointer (some ⟨W.next, 0, none⟩)) W1 = some (venV v sv, W1) := ldA_ok hc rfl
    have hv := refVen_ok h1.secs.1 h1.small h1.rows
    by_cases e0 : (venE v).2 = 0
    · have d0 : decide ((venE v).2 = 0) = true := decide_eq_true e0
      by_cases e1 : 400 < l.length
      · have d1 : decide ((400 : Int) < (l.length : Int)) = true := decide_eq_true (by omega)
        simp only [SX, cA, hv, d0, c4, h1.evs.len len80, d1, Ok_some]
        exact ⟨-1, 3, .len e0 e1, rfl, hle⟩
      · have d1 : decide ((400 : Int) < (l.length : Int)) = false := decide_eq_false (by omega)
        simp only [SX, cA, hv, d0, c4, h1.evs.len len80, d1, Nat.zero_add]
        refine Ok_loop l.length (by omega) (fun i R V => V = W1 ∧ R 1 = .pointer (some ⟨W.next, 0, none⟩) ∧ R 6 = .int .i64 (i : Int) ∧ ∃ s, Run l i s)
          (fun r => r.2.2 = W1 ∧ ((r.1 = .exit 0 ∧ ∃ s, Run l l.length s) ∨ (r.1 = .ret ∧ ∃ (k : Nat) (s : TL) (x : EvT), Run l k s ∧ l[k]? = some x ∧ stepE s x ≠ 0 ∧ r.2.1 2 = .int .i64 (k : Int) ∧ r.2.1 3 = .int .i64 (stepE s x)))) ⟨rfl, rfl, rfl, _, .zero⟩ ?_ ?_ ?_
        · rintro i R V hi ⟨rfl, r1, r6, s, hs⟩
          unfold ref24_Check_L1
          have hx : l[i]? = some l[i] := List.getElem?_eq_getElem hi
          have t1 : ((i : Int) < (l.length : Int)) := by omega
          have t2 := fun W' => oBin_add (P := Tryz.prog) (W := W') (t := 3) (c := false) (d := true) (a := (i : Int)) (b := 1) (by omega) (by omega)
          have e3 : ((i + 1 : Nat) : Int) = (i : Int) + 1 := by omega
          have he := event_ok h1.evs (by omega) hs.inv hx
          generalize l[i] = x at hx he
          by_cases e : stepE s x = 0
          · have d2 : decide (stepE s x = 0) = true := decide_eq_true e
            simp only [SX, r1, r6, Nat.zero_add, c4, h1.evs.len len80, t1, decide_true, he, d2, t2, Ok_some]
            exact .inl ⟨trivial, trivial, r1, by rw [e3]; rfl, _, .succ hs hx e⟩
          · have d2 : decide (stepE s x = 0) = false := decide_eq_false e
            simp only [SX, r1, r6, Nat.zero_add, c4, h1.evs.len len80, t1, decide_true, he, d2, Ok_some]
            exact .inr ⟨by simp, trivial, .inr ⟨trivial, i, s, x, hs, hx, e, rfl, rfl⟩⟩
        · rintro R V ⟨rfl, r1, r6, s, hs⟩
          unfold ref24_Check_L1
          have t1 : ¬ ((l.length : Int) < (l.length : Int)) := by omega
          simp only [SX, r1, r6, Nat.zero_add, c4, h1.evs.len len80, t1, decide_false, Ok_some]
          exact ⟨by simp, trivial, .inl ⟨trivial, s, hs⟩⟩
        · rintro ⟨q, R, V⟩ ⟨rfl, hq⟩
          simp only at hq
          rcases hq with ⟨rfl, s, hs⟩ | ⟨rfl, k, s, x, hs, hx, he, r2, r3⟩
          · simp only [SX, Ok_some]
            exact ⟨0, 0, .ok e0 (by omega) hs, rfl, hle⟩
          · simp only [SX, r2, r3, Ok_some]
            exact ⟨_, _, .bad e0 (by omega) hs hx he, rfl, hle⟩
    · have d0 : decide ((venE v).2 = 0) = false := decide_eq_false e0
      simp only [SX, cA, hv, d0, Ok_some]
      exact ⟨-1, _, .ven e0, rfl, hle⟩
  obtain ⟨⟨q, W'⟩, h1, a, e, h2, rfl, h3⟩ := main
  exact ⟨a, e, h2, om_drop rfl ⟨_, h1, rfl, h3⟩ ref24_Check_om⟩
theorem ap89 : appOk Tryz.prog #[89, 89] 25 184 = true := by kernel_rfl
theorem ap69 : appOk Tryz.prog #[69, 69] 1 8 = true := by kernel_rfl
theorem bs89 (h : HoT) (W : AW) : oBuildSlice Tryz.prog 89 1 [(0, hoV h)] W = some (.slice (some ⟨W.next, 0, none⟩) 1 1, W.add (.cells (hoC h))) := Eq.trans (by kernel_rfl) rfl
theorem bs69 (a : Int) (W : AW) : oBuildSlice Tryz.prog 69 1 [(0, .int .i64 a)] W = some (.slice (some ⟨W.next, 0, none⟩) 1 1, W.add (.cells (intC a))) := Eq.trans (by kernel_rfl) rfl
theorem bd176 (id th fr to : Int) (o : OpT) (W : AW) : oBuild Tryz.prog 176 [(0, .int .i64 id), (1, .int .i64 th), (2, .int .i64 fr), (3, .int .i64 to), (4, opV o)] W = some (hoV ⟨id, th, fr, to, o, rp0⟩, W) := Eq.trans (by kernel_rfl) rfl
abbrev tlC (v : Ven) (sv ev ov pv : Value) : List Value := [.int .i64 v.sh, .int .i64 v.ttl, .int .i64 v.ses, sv, ev, ov, pv]
theorem bd184 (v : Ven) (sv ev : Value) (W : AW) : oBuild Tryz.prog 184 [(0, hiV v sv ev)] W = some (.agg #[.int .i64 v.sh, .int .i64 v.ttl, .int .i64 v.ses, sv, ev, .slice none 0 0, .slice none 0 0], W) := Eq.trans (by kernel_rfl) rfl
theorem mk192 (W : AW) : oMkMap Tryz.prog 192 none W = some (.map (some W.next), W.add (.map [] 0)) := rfl
theorem ty192 : Tryz.prog.underlying 192 = some (.map 3 3) := by kernel_rfl
theorem ty3 : Tryz.prog.underlying 3 = some (.int .i64) := by kernel_rfl
theorem tz3 : tZero Tryz.prog 3 = some (.int .i64 0) := by kernel_rfl
theorem len192 : ((#[192] : Array TypeId)[0]?).bind Tryz.prog.underlying = some (.map 3 3) := by kernel_rfl
theorem mapV_len {P : Program} {W : AW} {r n : Nat} {m : Int → Option Value} {ts : Array TypeId} {k e : TypeId} (h : MapV W r m n) (ht : (ts[0]?).bind P.underlying = some (.map k e)) (ty : TypeId) (cf : Array Bool) : oBuiltin P .len ts ty cf [.map (some r)] W = some (.int .i64 (n : Int), W) := by
  obtain ⟨l, c, hg, hn, hl, hm⟩ := h
  unfold oBuiltin
  simp only [ht, hg]
  rw [show (entV l).length = n by unfold entV; rw [List.length_map, hl]]
  rfl
theorem vsame_rp (r : RpT) : vsame (rpV r) (rpV r) = true := vsame_agg (by simp [vsL, vs1])
theorem setN_app (pre mid post vs : List Value) (p : Nat) (h : p + vs.length ≤ mid.length) : setN (pre ++ (mid ++ post)) (pre.length + p) vs = pre ++ (setN mid p vs ++ post) := by
  unfold setN
  rw [List.take_length_add_append, List.take_append_of_le_length (by omega), Nat.add_assoc, List.drop_length_add_append, List.drop_append_of_le_length h]
  simp only [List.append_assoc]
theorem setHo1 (o : HoT) (k : Int) : setN (hoC o) 3 [.int .i64 k] = hoC { o with to := k } := by unfold setN; rfl
theorem setHo2 (o : HoT) (r : RpT) : setN (hoC o) 16 (rpV r).cells.toList = hoC { o with rp := r } := by unfold setN; rfl
theorem split_at {ops : List HoT} {j : Nat} {o : HoT} (hj : ops[j]? = some o) (o' : HoT) : (ops.set j o').flatMap hoC = (ops.take j).flatMap hoC ++ (hoC o' ++ (ops.drop (j + 1)).flatMap hoC) := by
  obtain ⟨h1, -⟩ := List.getElem?_eq_some_iff.1 hj
  rw [List.set_eq_take_append_cons_drop, if_pos h1, List.flatMap_append, List.flatMap_cons]
theorem split_at0 {ops : List HoT} {j : Nat} {o : HoT} (hj : ops[j]? = some o) : ops.flatMap hoC = (ops.take j).flatMap hoC ++ (hoC o ++ (ops.drop (j + 1)).flatMap hoC) := by
  have h := split_at hj o
  obtain ⟨h1, h2⟩ := List.getElem?_eq_some_iff.1 hj
  have : ops.set j o = ops := by rw [← h2, List.set_getElem_self]
  rw [this] at h
  exact h
theorem pre_len {ops : List HoT} {j : Nat} (h : j ≤ ops.length) : ((ops.take j).flatMap hoC).length = j * 25 := by
  rw [flatMap_len hoC_len, List.length_take, Nat.min_eq_left h]
theorem lsetHo {V : AW} {ov : Value} {ops : List HoT} {bo : Option Nat} (h : LstA V 25 hoC ov ops bo) {j : Nat} {o : HoT} (hj : ops[j]? = some o) (k : Int) (r : RpT) :
    ∃ B cs, bo = some B ∧ B < V.next ∧ (∀ (W : AW) k', ixS 25 ov (.int k' (j : Int)) W = some (.pointer (some ⟨B, j * 25, none⟩), W)) ∧
      (∀ W : AW, W.get B = V.get B → stV 1 (.pointer (some ⟨B, j * 25 + 3, none⟩)) (.int .i64 k) W = some (undef, W.put B (.cells cs))) ∧
      (∀ W : AW, W.get B = some (.cells cs) → stV 9 (.pointer (some ⟨B, j * 25 + 16, none⟩)) (rpV r) W = some (undef, W.put B (.cells ((ops.set j { o with to := k, rp := r }).flatMap hoC)))) ∧
      ∀ W : AW, V.next ≤ W.next → W.get B = some (.cells ((ops.set j { o with to := k, rp := r }).flatMap hoC)) → LstA W 25 hoC ov (ops.set j { o with to := k, rp := r }) bo := by
  obtain ⟨h1, -⟩ := List.getElem?_eq_some_iff.1 hj
  have hl := pre_len (ops := ops) (j := j) (by omega)
  rcases h with ⟨rfl, -, -⟩ | ⟨h0, B, rfl, h2, rfl, h4⟩
  · simp at h1
  refine ⟨B, (ops.take j).flatMap hoC ++ (hoC { o with to := k } ++ (ops.drop (j + 1)).flatMap hoC), rfl, h2, fun W k' => ?_, fun W hW => ?_, fun W hW => ?_, fun W hn hW => .inr ⟨fun e => h0 (by simpa using e), B, rfl, by omega, by rw [List.length_set], hW⟩⟩
  · rw [ixS_ok h1, Nat.zero_add]
  · rw [h4, split_at0 hj] at hW
    rw [stV_ok (n := 1) (v := .int .i64 k) hW rfl (by rw [List.length_append, List.length_append, hl, hoC_len]; show j * 25 + 3 + 1 ≤ _; omega) rfl]
    have := setN_app ((ops.take j).flatMap hoC) (hoC o) ((ops.drop (j + 1)).flatMap hoC) [.int .i64 k] 3 (by rw [hoC_len]; show 3 + 1 ≤ 25; omega)
    rw [hl, setHo1] at this
    exact congrArg (fun c => some (undef, W.put B (.cells c))) this
  · rw [stV_ok (n := 9) (v := rpV r) hW rfl (by rw [List.length_append, List.length_append, hl, hoC_len]; show j * 25 + 16 + 9 ≤ _; omega) rfl]
    have := setN_app ((ops.take j).flatMap hoC) (hoC { o with to := k }) ((ops.drop (j + 1)).flatMap hoC) (rpV r).cells.toList 16 (by rw [hoC_len]; show 16 + 9 ≤ 25; omega)
    rw [hl, setHo2] at this
    rw [split_at hj]
    exact congrArg (fun c => some (undef, W.put B (.cells c))) this
theorem lgrow {α : Type} {P : Program} {W : AW} {ts : Array TypeId} {z bytes : Nat} {f : α → List Value} {v : Value} {l : List α} {bo : Option Nat} (a : α) (hk : appOk P ts z bytes = true) (hf : ∀ a, (f a).length = z) (h1 : ∀ a, (f a).all Eng.one = true)
    (h : LstA W z f v l bo) (hb : l.length + 1 < 1099511627776) (hb2 : (2 * (l.length + 1) + 192) * bytes ≤ 281474976710656) :
    ∃ v' W', aAppend P (W.add (.cells (f a))) ts v (.slice (some ⟨W.next, 0, none⟩) 1 1) = some (v', W') ∧ LstA W' z f v' (l ++ [a]) (some (W.next + 1)) ∧ W'.next = W.next + 2 ∧ ∀ b, b < W.next → bo ≠ some b → W'.get b = W.get b := by
  have h' : LstA (W.add (.cells (f a))) z f v l bo := h.keep (by rw [AW.add_next]; omega) fun B hB => AW.get_add_ne _ _ (by have := h.lt hB; omega)
  obtain ⟨v', W', a1, a2, a3, a4⟩ := h'.push (a := a) hk hf h1 (b := W.next) (c := 1) cellsAt_new hb hb2
  rw [AW.add_next] at a2 a3
  exact ⟨v', W', a1, a2, a3, fun b hb hne => (a4 b (by rw [AW.add_next]; omega) hne).trans (AW.get_add_ne _ _ (by omega))⟩
theorem lcells1 {α : Type} {W : AW} {z : Nat} {f : α → List Value} {v : Value} {l : List α} {bo : Option Nat} (h : LstA W z f v l bo) : v.cells = #[v] ∧ Eng.one v = true := by
  rcases h with ⟨-, rfl, -⟩ | ⟨-, B, -, -, rfl, -⟩ <;> exact ⟨rfl, rfl⟩
theorem pushOpen {U : AW} {tb : Nat} {v : Ven} {sv ev ov pv : Value} {opn : List Int} {bp : Option Nat} (hc : U.get tb = some (.cells (tlC v sv ev ov pv))) (hp : LstA U 1 intC pv opn bp) (hbp : bp ≠ some tb) (htb : tb < U.next) (hl : opn.length ≤ 1000) (n : Int) :
    ∃ pv' U1 U2, aAppend Tryz.prog (U.add (.cells (intC n))) #[69, 69] pv (.slice (some ⟨U.next, 0, none⟩) 1 1) = some (pv', U1) ∧ stV 1 (.pointer (some ⟨tb, 6, none⟩)) pv' U1 = some (undef, U2) ∧ U2.get tb = some (.cells (tlC v sv ev ov pv')) ∧ LstA U2 1 intC pv' (opn ++ [n]) (some (U.next + 1)) ∧ U2.next = U.next + 2 ∧ ∀ b, b < U.next → b ≠ tb → bp ≠ some b → U2.get b = U.get b := by
  obtain ⟨pv', U1, a1, a2, a3, a4⟩ := lgrow n ap69 intC_len intC_one hp (by omega) (by omega)
  have ht : U1.get tb = some (.cells (tlC v sv ev ov pv)) := (a4 tb htb hbp).trans hc
  refine ⟨pv', U1, U1.put tb (.cells (tlC v sv ev ov pv')), a1, ?_, AW.get_put _ _ _, a2.keep (by rw [AW.put_next]; omega) fun B hB => AW.get_put_ne _ _ (by injection hB with hB; omega), by rw [AW.put_next, a3], fun b hb hne hbb => (AW.get_put_ne _ _ (Ne.symm hne)).trans (a4 b hb hbb)⟩
  rw [stV_one (lcells1 a2).1 (lcells1 a2).2, rwOf ht]
  rfl
theorem pushOps {U : AW} {tb : Nat} {v : Ven} {sv ev ov pv : Value} {ops : List HoT} {bo : Option Nat} (hc : U.get tb = some (.cells (tlC v sv ev ov pv))) (hp : LstA U 25 hoC ov ops bo) (hbp : bo ≠ some tb) (htb : tb < U.next) (hl : ops.length ≤ 1000) (n : HoT) :
    ∃ ov' U1 U2, aAppend Tryz.prog (U.add (.cells (hoC n))) #[89, 89] ov (.slice (some ⟨U.next, 0, none⟩) 1 1) = some (ov', U1) ∧ stV 1 (.pointer (some ⟨tb, 5, none⟩)) ov' U1 = some (undef, U2) ∧ U2.get tb = some (.cells (tlC v sv ev ov' pv)) ∧ LstA U2 25 hoC ov' (ops ++ [n]) (some (U.next + 1)) ∧ U2.next = U.next + 2 ∧ ∀ b, b < U.next → b ≠ tb → bo ≠ some b → U2.get b = U.get b := by
  obtain ⟨ov', U1, a1, a2, a3, a4⟩ := lgrow n ap89 hoC_len hoC_one hp (by omega) (by omega)
  have ht : U1.get tb = some (.cells (tlC v sv ev ov pv)) := (a4 tb htb hbp).trans hc
  refine ⟨ov', U1, U1.put tb (.cells (tlC v sv ev ov' pv)), a1, ?_, AW.get_put _ _ _, a2.keep (by rw [AW.put_next]; omega) fun B hB => AW.get_put_ne _ _ (by injection hB with hB; omega), by rw [AW.put_next, a3], fun b hb hne hbb => (AW.get_put_ne _ _ (Ne.symm hne)).trans (a4 b hb hbb)⟩
  rw [stV_one (lcells1 a2).1 (lcells1 a2).2, rwOf ht]
  rfl
def StE (lo : Nat) (V : AW) (tb mb : Nat) (v : Ven) (sv ev : Value) (s : TL) : Prop := ∃ ov pv bo bp, V.get tb = some (.cells (tlC v sv ev ov pv)) ∧ LstA V 25 hoC ov s.ops bo ∧ LstA V 1 intC pv s.opn bp ∧ (∀ B, bo = some B → lo ≤ B ∧ bp ≠ some B) ∧ (∀ B, bp = some B → lo ≤ B) ∧ MapV V mb (fun t => (s.busy t).map (.int .i64 ·)) s.cnt
theorem StE.keep {lo : Nat} {V V' : AW} {tb mb : Nat} {v : Ven} {sv ev : Value} {s : TL} (h : StE lo V tb mb v sv ev s) (hn : V.next ≤ V'.next) (ht : tb < V.next) (hm : mb < V.next) (hg : ∀ b, b < V.next → V'.get b = V.get b) : StE lo V' tb mb v sv ev s := by
  obtain ⟨ov, pv, bo, bp, h1, h2, h3, h4, h5, h6⟩ := h
  exact ⟨ov, pv, bo, bp, (hg _ ht).trans h1, h2.keep hn fun B hB => hg _ (h2.lt hB), h3.keep hn fun B hB => hg _ (h3.lt hB), h4, h5, h6.keep (hg _ hm)⟩
theorem delM {W : AW} {mb n : Nat} {m : Int → Option Value} (h : MapV W mb m n) (k : Int) : ∃ W', oBuiltin Tryz.prog .delete #[192, 3] 0 #[false, false] [.map (some mb), .int .i64 k] W = some (.tuple #[], W') ∧ MapV W' mb (fun x => if x = k then none else m x) (if (m k).isSome then n - 1 else n) ∧ W'.next = W.next ∧ ∀ b, b ≠ mb → W'.get b = W.get b := by
  obtain ⟨es, c, d1, d2⟩ := mapV_del h ty192 ty3 [3] k
  refine ⟨_, ?_, d2, AW.put_next _ _ _, fun b hb => AW.get_put_ne _ _ (Ne.symm hb)⟩
  show (aDelete Tryz.prog W #[192, 3] (.map (some mb)) (.int .i64 k)).map _ = _
  have : (#[192, 3] : Array TypeId) = (192 :: [3]).toArray := rfl
  rw [this, d1]; rfl
theorem setM {W : AW} {mb n : Nat} {m : Int → Option Value} (h : MapV W mb m n) (k : Int) (v : Value) : ∃ W', oMapUpdate Tryz.prog 192 (.map (some mb)) (.int .i64 k) v W = some (undef, W') ∧ MapV W' mb (fun x => if x = k then some v else m x) (if (m k).isSome then n else n + 1) ∧ W'.next = W.next ∧ ∀ b, b ≠ mb → W'.get b = W.get b := by
  obtain ⟨es, c, d1, d2⟩ := mapV_set h ty192 ty3 k v
  exact ⟨_, d1, d2, AW.put_next _ _ _, fun b hb => AW.get_put_ne _ _ (Ne.symm hb)⟩
section
variable {W V : AW} {v : Ven} {sv ev : Value} {l : List EvT} {tb mb i : Nat} {s : TL} {x : EvT} {R : Nat → Value}
abbrev RdR (R : Nat → Value) (ev : Value) (n tb mb i : Nat) : Prop := R 32 = ev ∧ R 33 = .int .i64 (n : Int) ∧ R 34 = .int .i64 (i : Int) ∧ R 7 = .pointer (some ⟨tb, 0, none⟩) ∧ R 8 = .map (some mb)
abbrev RdQ (W : AW) (lo : Nat) (v : Ven) (sv ev : Value) (l : List EvT) (tb mb : Nat) (r : LT) : Prop :=
  Le W r.2.2 ∧ ((r.1 = .exit 0 ∧ mb < r.2.2.next ∧ r.2.1 7 = .pointer (some ⟨tb, 0, none⟩) ∧ ∃ s, Run l l.length s ∧ StE lo r.2.2 tb mb v sv ev s) ∨ (r.1 = .ret ∧ ∃ (k : Nat) (s : TL) (x : EvT), Run l k s ∧ l[k]? = some x ∧ stepE s x ≠ 0 ∧ r.2.1 2 = .pointer none ∧ r.2.1 3 = .int .i64 (k : Int) ∧ r.2.1 4 = .int .i64 (stepE s x)))
open Classical in
theorem read_step (hG : GW W) (hle : Le W V) (hev : EvL W ev l) (hl : l.length ≤ 400) (hW : W.next ≤ tb) (htm : tb < mb) (hlo : mb < V.next) (hs : Run l i s) (hx : l[i]? = some x) (hR : RdR R ev l.length tb mb i) (hS : StE (mb + 1) V tb mb v sv ev s) :
    Ok (history_read_L1 omS R V) fun r => (r.1 = .normal ∧ Le W r.2.2 ∧ mb < r.2.2.next ∧ RdR r.2.1 ev l.length tb mb (i + 1) ∧ ∃ s, Run l (i + 1) s ∧ StE (mb + 1) r.2.2 tb mb v sv ev s) ∨ (r.1 ≠ .normal ∧ RdQ W (mb + 1) v sv ev l tb mb r) := by
  obtain ⟨r32, r33, r34, r7, r8⟩ := hR
  obtain ⟨hi, hxe⟩ := List.getElem?_eq_some_iff.1 hx
  have h1 := hev.mono hle
  unfold history_read_L1
  obtain ⟨b, o, i1, i2, i3⟩ := EvL.get h1 hi
  obtain ⟨fa, -⟩ := i3 V rfl
  rw [hxe] at fa
  obtain ⟨V1, V2, a1, a2, l2, n2, x2⟩ := evBox x V
  have I := hs.inv
  have t1 : ((i : Int) < (l.length : Int)) := by omega
  have t2 := fun W' => oBin_add (P := Tryz.prog) (W := W') (t := 3) (c := false) (d := true) (a := (i : Int)) (b := 1) (by omega) (by omega)
  have e3 : ((i + 1 : Nat) : Int) = (i : Int) + 1 := by omega
  have hle2 := hle.trans l2
  have hth := evB_th x2
  have hid := evB_id x2
  have hcnt : s.cnt < 1000 → True := fun _ => trivial
  have bad : ∀ {e : Int} {R' : Nat → Value}, stepE s x = e → e ≠ 0 → R' 2 = .pointer none → R' 3 = .int .i64 (i : Int) → R' 4 = .int .i64 e → RdQ W (mb + 1) v sv ev l tb mb (.ret, R', V2) := fun he h0 q2 q3 q4 => ⟨hle2, .inr ⟨rfl, i, s, x, hs, hx, by rw [he]; exact h0, q2, q3, by rw [he]; exact q4⟩⟩
  by_cases c1 : x.th < 1
  · have e7 : stepE s x = 7 := by unfold stepE; rw [if_pos (.inl c1)]
    simp only [SX, r32, r33, r34, t1, i1, fa, a1, a2, Nat.zero_add, hth, c1, decide_true, Ok_some]
    exact .inr ⟨by simp, bad e7 (by decide) rfl rfl rfl⟩
  by_cases c2 : 64 < x.th
  · have e7 : stepE s x = 7 := by unfold stepE; rw [if_pos (.inr c2)]
    simp only [SX, r32, r33, r34, t1, i1, fa, a1, a2, Nat.zero_add, hth, c1, c2, decide_true, decide_false, Ok_some]
    exact .inr ⟨by simp, bad e7 (by decide) rfl rfl rfl⟩
  have cc : ¬ (x.th < 1 ∨ 64 < x.th) := by omega
  simp only [SX, r32, r33, r34, t1, i1, fa, a1, a2, Nat.zero_add, hth, c1, c2, decide_true, decide_false]
  obtain ⟨ov, pv, bo, bp, z1, z2, z3, s4, s5, z6⟩ := hS
  have s1 := (l2.get tb (by omega)).trans z1
  have s2 : LstA V2 25 hoC ov s.ops bo := z2.keep (by omega) fun B hB => l2.get B (z2.lt hB)
  have s3 : LstA V2 1 intC pv s.opn bp := z3.keep (by omega) fun B hB => l2.get B (z3.lt hB)
  have s6 := z6.keep (l2.get mb hlo)
  have mg := mapV_get2 s6 ty192 ty3 tz3 x.th
  cases hr : x.ret with
  | true =>
    have hret := evB_ret x2
    rw [hr] at hret
    cases hb : s.busy x.th with
    | none =>
      have e6 : stepE s x = 6 := by
        unfold stepE
        rw [if_neg cc, if_pos hr, if_neg (by rw [hb]; simp)]
      rw [hb] at mg
      simp only [Option.map_none, Option.getD_none, Option.isSome_none] at mg
      simp only [SX, r7, r8, Nat.zero_add, hth, mg, hret, Ok_some]
      exact .inr ⟨by simp, bad e6 (by decide) rfl rfl rfl⟩
    | some id' =>
      rw [hb] at mg
      simp only [Option.map_some, Option.getD_some, Option.isSome_some] at mg
      by_cases d1 : id' = x.id
      case neg =>
        have e6 : stepE s x = 6 := by
          unfold stepE
          rw [if_neg cc, if_pos hr, if_neg (fun h => d1 (by have := hb.symm.trans h.1; injection this))]
        have d1' : decide (id' = x.id) = false := decide_eq_false d1
        simp only [SX, r7, r8, Nat.zero_add, hth, mg, hret, hid, d1', Ok_some]
        exact .inr ⟨by simp, bad e6 (by decide) rfl rfl rfl⟩
      subst d1
      have d1' : decide (x.id = x.id) = true := decide_eq_true rfl
      have nq := neqOp x.op op0 false false V2
      by_cases d2 : x.op = op0
      case neg =>
        rw [decide_eq_false d2] at nq
        have e6 : stepE s x = 6 := by
          unfold stepE
          rw [if_neg cc, if_pos hr, if_neg (fun h => d2 h.2)]
        simp only [SX, r7, r8, Nat.zero_add, hth, mg, hret, hid, d1', evB_op x2, bd117, nq, Ok_some]
        exact .inr ⟨by simp, bad e6 (by decide) rfl rfl rfl⟩
      rw [decide_eq_true d2] at nq
      have he : stepE s x = 0 := by
        unfold stepE
        rw [if_neg cc, if_pos hr, if_pos ⟨hb, d2⟩]
      obtain ⟨j, o0, g0, gid, gth, gto⟩ := (I.bsy _ _).1 hb
      have hj := (List.getElem?_eq_some_iff.1 g0).1
      have hop := I.opk
      have t3 : ∀ W', oBin Tryz.prog .sub 3 false true (.int .i64 x.id) (.int .i64 1) W' = some (.int .i64 (j : Int), W') := fun W' => by
        rw [oBin_sub (by omega) (by omega), show x.id - 1 = (j : Int) by omega]
      have bpt : bp ≠ some tb := fun e => by have := s5 tb e; omega
      obtain ⟨V3, m1, m2, m3, m4⟩ := delM s6 x.th
      simp only [hb, Option.map_some, Option.isSome_some, if_true] at m2
      have x3 : V3.get V.next = some (.cells (evC x)) := (m4 _ (by omega)).trans x2
      have u1 := (m4 tb (by omega)).trans s1
      have u2 : LstA V3 25 hoC ov s.ops bo := s2.keep (by omega) fun B hB => m4 B (by have := (s4 B hB).1; omega)
      have u3 : LstA V3 1 intC pv s.opn bp := s3.keep (by omega) fun B hB => m4 B (by have := s5 B hB; omega)
      have c53 : ldC (.pointer (some ⟨tb, 5, none⟩)) V3 = some (ov, V3) := ldR u1 rfl
      obtain ⟨B, cs, hbo, hB, ix, st1, st2, st3⟩ := lsetHo u2 g0 (i : Int) x.rp
      have hBm := (s4 B hbo).1
      have hBp := (s4 B hbo).2
      have hBv := z2.lt hbo
      obtain ⟨V4, y1, x4, V5, y2, n5, keep5, v2⟩ : ∃ V4, stV 1 (.pointer (some ⟨B, j * 25 + 3, none⟩)) (.int .i64 (i : Int)) V3 = some (undef, V4) ∧ V4.get V.next = some (.cells (evC x)) ∧ ∃ V5, stV 9 (.pointer (some ⟨B, j * 25 + 16, none⟩)) (rpV x.rp) V4 = some (undef, V5) ∧ V5.next = V3.next ∧ (∀ b, b ≠ B → V5.get b = V3.get b) ∧ LstA V5 25 hoC ov (s.ops.set j { o0 with to := (i : Int), rp := x.rp }) bo :=
        ⟨_, st1 V3 rfl, (AW.get_put_ne _ _ (by omega)).trans x3, _, st2 _ (AW.get_put _ _ _), rfl, fun b hb => (AW.get_put_ne _ _ (Ne.symm hb)).trans (AW.get_put_ne _ _ (Ne.symm hb)), st3 _ (Nat.le_refl _) (AW.get_put _ _ _)⟩
      have v1 := (keep5 tb (by omega)).trans u1
      have v3 : LstA V5 1 intC pv s.opn bp := u3.keep (by omega) fun b hb => keep5 b (fun e => hBp (e ▸ hb))
      have vm := m2.keep (keep5 mb (by omega))
      obtain ⟨pv', U3, U4, w1, w2, w3, w4, w5, w6⟩ := pushOpen v1 v3 bpt (by omega) (by rw [I.opl]; omega) ((s.cnt - 1 : Nat) : Int)
      have g6 : ldC (.pointer (some ⟨tb, 6, none⟩)) V5 = some (pv, V5) := ldR v1 rfl
      have ml := mapV_len vm len192 3 #[false]
      simp only [SX, r7, r8, Nat.zero_add, hth, mg, hret, oNilCheck_ptr, hid, d1', evB_op x2, bd117, nq, m1, c53, t3, ix, evB_rp x3, y1, evB_rp x4, agV_some, vsame_rp x.rp, Bool.and_true, y2, g6, ml, bs69, w1, w2, t2, Ok_some]
      have hst : stepS s i x = ⟨s.ops.set j { o0 with to := (i : Int), rp := x.rp }, s.opn ++ [((s.cnt - 1 : Nat) : Int)], fun t => if t = x.th then none else s.busy t, s.cnt - 1⟩ := by
        unfold stepS setTo
        rw [if_pos hr, show (x.id - 1).toNat = j by omega, g0]
      refine .inl ⟨trivial, ⟨by have := hle2.next; omega, fun b hb => ?_⟩, by omega, ⟨r32, r33, by rw [e3]; rfl, r7, r8⟩, stepS s i x, .succ hs hx he, ?_⟩
      · have h4 := hle2.next
        rw [w6 b (by omega) (by omega) fun e => by have := s5 b e; omega, keep5 b (by omega), m4 b (by omega)]
        exact hle2.get b hb
      · rw [hst]
        refine ⟨ov, pv', bo, _, w3, v2.keep (by omega) fun b hb => w6 b (v2.lt hb) (by have := (s4 b hb).1; omega) (s4 b hb).2, w4, fun b hb => ⟨(s4 b hb).1, fun e => by have := v2.lt hb; injection e with e; omega⟩, fun b hb => by injection hb with hb; omega, ?_⟩
        have := vm.keep (w6 mb (by omega) (by omega) (fun e => by have := s5 mb e; omega))
        have hf : (fun y => if y = x.th then none else (s.busy y).map (Value.int .i64 ·)) = fun t => (if t = x.th then none else s.busy t).map (Value.int .i64 ·) := by
          funext t
          by_cases e : t = x.th
          · rw [if_pos e, if_pos e]; rfl
          · rw [if_neg e, if_neg e]
        rw [hf] at this
        exact this
  | false =>
    have hret := evB_ret x2
    rw [hr] at hret
    cases hb : s.busy x.th with
    | some id' =>
      have e6 : stepE s x = 6 := by
        unfold stepE
        rw [if_neg cc, if_neg (by rw [hr]; simp), if_pos (.inl (by rw [hb]; rfl))]
      rw [hb] at mg
      simp only [Option.map_some, Option.getD_some, Option.isSome_some] at mg
      simp only [SX, r7, r8, Nat.zero_add, hth, mg, hret, Ok_some]
      exact .inr ⟨by simp, bad e6 (by decide) rfl rfl rfl⟩
    | none =>
      rw [hb] at mg
      simp only [Option.map_none, Option.getD_none, Option.isSome_none] at mg
      have c5 : ldC (.pointer (some ⟨tb, 5, none⟩)) V2 = some (ov, V2) := ldR s1 rfl
      have ho : HoL V2 ov s.ops := s2.lst.row hoC_len (flatAt_in hoC_len)
      have hop := I.opk
      have t3 := fun W' => oBin_add (P := Tryz.prog) (W := W') (t := 3) (c := false) (d := true) (a := (s.ops.length : Int)) (b := 1) (by omega) (by omega)
      have e6 : (x.id ≠ (s.ops.length : Int) + 1 ∨ x.rp ≠ rp0 ∨ opE x.op ≠ 0) → stepE s x = 6 := fun h => by
        unfold stepE
        rw [if_neg cc, if_neg (by rw [hr]; simp), if_pos (.inr h)]
      have hG2 := hG.mono hle2
      have bt : bo ≠ some tb := fun e => by have := (s4 tb e).1; omega
      have bpt : bp ≠ some tb := fun e => by have := s5 tb e; omega
      have nq := neqRp x.rp rp0 false false V2
      by_cases d1 : x.id = (s.ops.length : Int) + 1
      case neg =>
        have d1' : decide (x.id = (s.ops.length : Int) + 1) = false := decide_eq_false d1
        simp only [SX, r7, r8, Nat.zero_add, hth, mg, hret, oNilCheck_ptr, hid, c5, ho.len len89, t3, d1', Ok_some]
        exact .inr ⟨by simp, bad (e6 (.inl d1)) (by decide) rfl rfl rfl⟩
      have d1' : decide (x.id = (s.ops.length : Int) + 1) = true := decide_eq_true d1
      by_cases d2 : x.rp = rp0
      case neg =>
        rw [decide_eq_false d2] at nq
        simp only [SX, r7, r8, Nat.zero_add, hth, mg, hret, oNilCheck_ptr, hid, c5, ho.len len89, t3, d1', evB_rp x2, bd119, nq, Ok_some]
        exact .inr ⟨by simp, bad (e6 (.inr (.inl d2))) (by decide) rfl rfl rfl⟩
      rw [decide_eq_true d2] at nq
      by_cases d3 : opE x.op = 0
      case neg =>
        have d3' : decide (opE x.op = 0) = false := decide_eq_false d3
        simp only [SX, r7, r8, Nat.zero_add, hth, mg, hret, oNilCheck_ptr, hid, c5, ho.len len89, t3, d1', evB_rp x2, bd119, nq, evB_op x2, pCheck_ok x.op hG2, d3', Ok_some]
        exact .inr ⟨by simp, bad (e6 (.inr (.inr d3))) (by decide) rfl rfl rfl⟩
      have d3' : decide (opE x.op = 0) = true := decide_eq_true d3
      have he : stepE s x = 0 := by
        unfold stepE
        rw [if_neg cc, if_neg (by rw [hr]; simp), if_neg (by simp [hb, d1, d2, d3])]
      obtain ⟨V3, m1, m2, m3, m4⟩ := setM s6 x.th (.int .i64 x.id)
      simp only [hb, Option.map_none, Option.isSome_none, Bool.false_eq_true, if_false] at m2
      have x3 : V3.get V.next = some (.cells (evC x)) := (m4 _ (by omega)).trans x2
      have u1 := (m4 tb (by omega)).trans s1
      have u2 : LstA V3 25 hoC ov s.ops bo := s2.keep (by omega) fun B hB => m4 B (by have := (s4 B hB).1; omega)
      have u3 : LstA V3 1 intC pv s.opn bp := s3.keep (by omega) fun B hB => m4 B (by have := s5 B hB; omega)
      have c53 : ldC (.pointer (some ⟨tb, 5, none⟩)) V3 = some (ov, V3) := ldR u1 rfl
      obtain ⟨n, hn⟩ : ∃ n : HoT, n = ⟨x.id, x.th, (i : Int), -1, x.op, rp0⟩ := ⟨_, rfl⟩
      have b0 := fun W => bd176 x.id x.th (i : Int) (-1) x.op W
      rw [← hn] at b0
      obtain ⟨ov', U1, U2, p1, p2, p3, p4, p5, p6⟩ := pushOps u1 u2 bt (by omega) (by omega) n
      have q3 : LstA U2 1 intC pv s.opn bp := u3.keep (by omega) fun B hB => p6 B (u3.lt hB) (by have := s5 B hB; omega) (fun e => (s4 B e).2 hB)
      have qm := m2.keep (p6 mb (by omega) (by omega) (fun e => by have := (s4 mb e).1; omega))
      obtain ⟨pv', U3, U4, w1, w2, w3, w4, w5, w6⟩ := pushOpen p3 q3 bpt (by omega) (by rw [I.opl]; omega) ((s.cnt + 1 : Nat) : Int)
      have g6 : ldC (.pointer (some ⟨tb, 6, none⟩)) U2 = some (pv, U2) := ldR p3 rfl
      have ml := mapV_len qm len192 3 #[false]
      simp only [SX, r7, r8, Nat.zero_add, hth, mg, hret, oNilCheck_ptr, hid, c5, ho.len len89, t3, d1', evB_rp x2, bd119, nq, evB_op x2, pCheck_ok x.op hG2, d3', m1, c53, evB_id x3, evB_th x3, evB_op x3, b0, bs89, p1, p2, g6, ml, bs69, w1, w2, t2, Ok_some]
      have hst : stepS s i x = ⟨s.ops ++ [n], s.opn ++ [((s.cnt + 1 : Nat) : Int)], fun t => if t = x.th then some x.id else s.busy t, s.cnt + 1⟩ := by
        unfold stepS
        rw [if_neg (by rw [hr]; simp), hn]
      refine .inl ⟨trivial, ⟨by have := hle2.next; omega, fun b hb => ?_⟩, by omega, ⟨r32, r33, by rw [e3]; rfl, r7, r8⟩, stepS s i x, .succ hs hx he, ?_⟩
      · have h4 := hle2.next
        rw [w6 b (by omega) (by omega) fun e => by have := s5 b e; omega, p6 b (by omega) (by omega) fun e => by have := (s4 b e).1; omega, m4 b (by omega)]
        exact hle2.get b hb
      · rw [hst]
        refine ⟨ov', pv', _, _, w3, p4.keep (by omega) fun B hB => w6 B (p4.lt hB) (by injection hB with hB; omega) (fun e => by injection hB with hB; have := u3.lt e; omega), w4, fun B hB => ⟨by injection hB with hB; omega, fun e => by injection hB with hB; injection e with e; omega⟩, fun B hB => by injection hB with hB; omega, ?_⟩
        have := qm.keep (w6 mb (by omega) (by omega) (fun e => by have := s5 mb e; omega))
        have hf : (fun y => if y = x.th then some (Value.int .i64 x.id) else (s.busy y).map (.int .i64 ·)) = fun t => (if t = x.th then some x.id else s.busy t).map (.int .i64 ·) := by
          funext t
          by_cases e : t = x.th
          · rw [if_pos e, if_pos e]; rfl
          · rw [if_neg e, if_neg e]
        rw [hf] at this
        exact this
end
def RdA (W : AW) (v : Ven) (sv ev : Value) (l : List EvT) (q : Value) (W' : AW) : Prop := ∃ (a e : Int) (p : Value), Ans (venE v).2 l a e ∧ q = .tuple #[p, .int .i64 a, .int .i64 e] ∧ Le W W' ∧
  ((e ≠ 0 ∧ p = .pointer none) ∨ (e = 0 ∧ ∃ (s : TL) (tb : Nat) (ov pv : Value), Run l l.length s ∧ p = .pointer (some ⟨tb, 0, none⟩) ∧ W.next ≤ tb ∧ tb < W'.next ∧ W'.get tb = some (.cells (tlC v sv ev ov pv)) ∧ HoL W' ov s.ops ∧ Ints W' pv s.opn))
theorem read_ok {W : AW} {v : Ven} {sv ev : Value} {l : List EvT} (hG : GW W) (h : HiA W v sv ev l) : ∃ q W', omS (.func (.func 106) #[] #[]) [hiV v sv ev] W = some (q, W') ∧ RdA W v sv ev l q W' := by
  have main : Ok (history_read omS (hiV v sv ev) W) fun r => RdA W v sv ev l r.1 r.2 := by
    unfold history_read
    have hle : Le W (W.add (.cells [.int .i64 v.sh, .int .i64 v.ttl, .int .i64 v.ses, sv, ev])) := (Le.refl W).add _
    have hc : cellsAt (W.add (.cells [.int .i64 v.sh, .int .i64 v.ttl, .int .i64 v.ses, sv, ev])) W.next = some [.int .i64 v.sh, .int .i64 v.ttl, .int .i64 v.ses, sv, ev] := cellsAt_new
    have hg : (W.add (.cells [.int .i64 v.sh, .int .i64 v.ttl, .int .i64 v.ses, sv, ev])).get W.next = some (.cells [.int .i64 v.sh, .int .i64 v.ttl, .int .i64 v.ses, sv, ev]) := AW.get_add _ _
    have hn1 : (W.add (.cells [.int .i64 v.sh, .int .i64 v.ttl, .int .i64 v.ses, sv, ev])).next = W.next + 1 := AW.add_next _ _
    simp only [SX, hiBox, Nat.zero_add]
    generalize W.add (.cells [.int .i64 v.sh, .int .i64 v.ttl, .int .i64 v.ses, sv, ev]) = W1 at *
    have h1 := h.mono hle
    have c4 : ldC (.pointer (some ⟨W.next, 4, none⟩)) W1 = some (ev, W1) := ldC_ok hc rfl
    have cA : ldA 4 (.pointer (some ⟨W.next, 0, none⟩)) W1 = some (venV v sv, W1) := ldA_ok hc rfl
    have cB : ldA 5 (.pointer (some ⟨W.next, 0, none⟩)) W1 = some (hiV v sv ev, W1) := ldA_ok hc rfl
    have hv := venCheck_ok h1.secs h1.small
    by_cases e0 : (venE v).2 = 0
    case neg =>
      have d0 : decide ((venE v).2 = 0) = false := decide_eq_false e0
      simp only [SX, cA, hv, d0, Ok_some]
      exact ⟨-1, _, _, .ven e0, rfl, hle, .inl ⟨e0, rfl⟩⟩
    have d0 : decide ((venE v).2 = 0) = true := decide_eq_true e0
    by_cases e1 : 400 < l.length
    case pos =>
      have d1 : decide ((400 : Int) < (l.length : Int)) = true := decide_eq_true (by omega)
      simp only [SX, cA, hv, d0, c4, h1.evs.len len80, d1, Ok_some]
      exact ⟨-1, 3, _, .len e0 e1, rfl, hle, .inl ⟨by decide, rfl⟩⟩
    have d1 : decide ((400 : Int) < (l.length : Int)) = false := decide_eq_false (by omega)
    obtain ⟨W2, b1, b2, b3, b4⟩ : ∃ W2, oBox (.agg #[.int .i64 v.sh, .int .i64 v.ttl, .int .i64 v.ses, sv, ev, .slice none 0 0, .slice none 0 0]) W1 = some (.pointer (some ⟨W1.next, 0, none⟩), W2) ∧ W2.get W1.next = some (.cells (tlC v sv ev (.slice none 0 0) (.slice none 0 0))) ∧ W2.next = W1.next + 1 ∧ Le W1 W2 :=
      ⟨_, oBox_agg _, AW.get_add _ _, AW.add_next _ _, (Le.refl _).add _⟩
    obtain ⟨W3, m1, m2, m3, m4⟩ : ∃ W3, oMkMap Tryz.prog 192 none W2 = some (.map (some W2.next), W3) ∧ MapV W3 W2.next (fun _ => none) 0 ∧ W3.next = W2.next + 1 ∧ Le W2 W3 := ⟨_, mk192 _, mapV_new, AW.add_next _ _, (Le.refl _).add _⟩
    have l3 := (hle.trans b4).trans m4
    have c43 : ldC (.pointer (some ⟨W.next, 4, none⟩)) W3 = some (ev, W3) := ldR ((m4.get _ (by omega)).trans ((b4.get _ (by omega)).trans hg)) rfl
    have ev3 := h.evs.mono l3
    simp only [SX, cA, hv, d0, c4, h1.evs.len len80, d1, Nat.zero_add, cB, bd184, b1, m1, c43, ev3.len len80]
    refine Ok_loop l.length (by omega) (fun i R V => Le W V ∧ W2.next < V.next ∧ RdR R ev l.length W1.next W2.next i ∧ ∃ s, Run l i s ∧ StE (W2.next + 1) V W1.next W2.next v sv ev s)
      (fun r => RdQ W (W2.next + 1) v sv ev l W1.next W2.next r) ⟨l3, by omega, ⟨rfl, rfl, rfl, rfl, rfl⟩, _, .zero, ?_⟩ ?_ ?_ ?_
    · exact ⟨_, _, none, none, (m4.get _ (by omega)).trans b2, .inl ⟨rfl, rfl, rfl⟩, .inl ⟨rfl, rfl, rfl⟩, (fun B hB => by cases hB), (fun B hB => by cases hB), m2⟩
    · rintro i R V hi ⟨g1, g2, g3, s, g4, g5⟩
      refine (read_step hG g1 h.evs (by omega) (by omega) (by omega) g2 g4 (List.getElem?_eq_getElem hi) g3 g5).mono ?_
      rintro r (⟨k1, k2, k3, k4, k5⟩ | k)
      · exact .inl ⟨k1, k2, k3, k4, k5⟩
      · exact .inr k
    · rintro R V ⟨g1, g2, ⟨r32, r33, r34, r7, r8⟩, s, g4, g5⟩
      unfold history_read_L1
      have t1 : ¬ ((l.length : Int) < (l.length : Int)) := by omega
      simp only [SX, r33, r34, t1, decide_false, Ok_some]
      exact ⟨by simp, g1, .inl ⟨rfl, g2, r7, s, g4, g5⟩⟩
    · rintro ⟨q, R, V⟩ ⟨g1, hq⟩
      simp only at hq g1
      rcases hq with ⟨rfl, g2, r7, s, hs, ov, pv, bo, bp, k1, k2, k3, -⟩ | ⟨rfl, k, s, x, hs, hx, he, r2, r3, r4⟩
      · simp only [SX, r7, Ok_some]
        exact ⟨0, 0, _, .ok e0 (by omega) hs, rfl, g1, .inr ⟨rfl, s, W1.next, ov, pv, hs, rfl, by omega, by omega, k1, k2.lst.row hoC_len (flatAt_in hoC_len), k3.lst.ints⟩⟩
      · simp only [SX, r2, r3, r4, Ok_some]
        exact ⟨_, _, _, .bad e0 (by omega) hs hx he, rfl, g1, .inl ⟨he, rfl⟩⟩
  refine om_q' main history_read_om ?_
  rintro q W' ⟨a, e, p, h1, rfl, h2, h3⟩ hle hp
  refine ⟨a, e, p, h1, rfl, Le.refl _, ?_⟩
  rcases h3 with h3 | ⟨-, s, tb, ov, pv, -, rfl, -⟩
  · exact .inl h3
  · exact absurd hp (by simp [plain, plain1, scalar])
theorem callsTo_all {l : List EvT} {s : TL} (hr : Run l l.length s) : callsTo l l.length = s.ops.length := hr.inv.cnc
theorem op_at {l : List EvT} {s : TL} (hr : Run l l.length s) {i : Nat} {x : EvT} (hx : l[i]? = some x) (hc : x.ret = false) :
    ∃ o, s.ops[callsTo l i]? = some o ∧ o.id = x.id ∧ o.th = x.th ∧ o.fr = (i : Int) ∧ o.op = x.op ∧ (∀ (i' : Nat) (y : EvT), i' < l.length → l[i']? = some y → y.ret = true → y.id = x.id → o.to = (i' : Int) ∧ o.rp = y.rp) ∧
      ((∀ (i' : Nat) (y : EvT), i' < l.length → l[i']? = some y → y.ret = true → y.id ≠ x.id) → o.to = -1 ∧ o.rp = rp0) := by
  have hi := (List.getElem?_eq_some_iff.1 hx).1
  obtain ⟨s2, h2⟩ := hr.pre (m := i + 1) (by omega)
  obtain ⟨s1, x1, r1, r2, r3, -⟩ := h2.prev rfl
  rw [hx] at r2; injection r2 with r2; subst r2
  have hid := (stepE_call hc r3).2.1
  have hn : callsTo l i = s1.ops.length := r1.inv.cnc
  have I := hr.inv
  obtain ⟨j, o, g, gid, gfr⟩ := I.cal i x hi hx hc
  have ej : j = callsTo l i := by omega
  subst ej
  obtain ⟨oid, i', x', a1, a2, a3, a4, a5, a6, a7⟩ := I.ids _ o g
  have : i' = i := by omega
  subst this
  rw [hx] at a2; injection a2 with a2; subst a2
  refine ⟨o, g, by omega, a6.symm, gfr, a7.symm, fun i2 y b1 b2 b3 b4 => ?_, fun hno => ?_⟩
  · obtain ⟨j', o', c1, c2, c3, c4⟩ := I.ret i2 y b1 b2 b3
    have : j' = callsTo l i' := by omega
    subst this
    rw [g] at c1; injection c1 with c1; subst c1
    exact ⟨c3, c4⟩
  · rcases I.tos _ o g with h | ⟨i2, y, d1, d2, d3, d4, d5⟩
    · exact h
    · exact absurd (by omega) (hno i2 y d1 d2 d4)
theorem vsame_op (r : OpT) : vsame (opV r) (opV r) = true := vsame_agg (by simp [vsL, vs1])
theorem stRp {W : AW} {b : Nat} {n : HoT} (h : W.get b = some (.cells (hoC n))) (r : RpT) : stV 9 (.pointer (some ⟨b, 16, none⟩)) (rpV r) W = some (undef, W.put b (.cells (hoC { n with rp := r }))) := by
  rw [stV_ok (n := 9) (v := rpV r) h rfl (by show 16 + 9 ≤ 25; omega) rfl, setHo2]
theorem stHo {W : AW} {b : Nat} {n m : HoT} (h : W.get b = some (.cells (hoC n))) : stV 25 (.pointer (some ⟨b, 0, none⟩)) (hoV m) W = some (undef, W.put b (.cells (hoC m))) := stAll h rfl rfl rfl
theorem refOps_ok {W : AW} {v : Ven} {sv ev : Value} {l : List EvT} {s : TL} (h : HiA W v sv ev l) (hl : l.length ≤ 400) (hs : Run l l.length s) : ∃ u W', omS (.func (.func 110) #[] #[]) [hiV v sv ev] W = some (u, W') ∧ Le W W' ∧ HoL W' u s.ops := by
  have main : Ok (ref24_ops omS (hiV v sv ev) W) fun r => Le W r.2 ∧ HoL r.2 r.1 s.ops := by
    unfold ref24_ops
    have hle : Le W (W.add (.cells [.int .i64 v.sh, .int .i64 v.ttl, .int .i64 v.ses, sv, ev])) := (Le.refl W).add _
    have hg : (W.add (.cells [.int .i64 v.sh, .int .i64 v.ttl, .int .i64 v.ses, sv, ev])).get W.next = some (.cells [.int .i64 v.sh, .int .i64 v.ttl, .int .i64 v.ses, sv, ev]) := AW.get_add _ _
    have hn1 : (W.add (.cells [.int .i64 v.sh, .int .i64 v.ttl, .int .i64 v.ses, sv, ev])).next = W.next + 1 := AW.add_next _ _
    simp only [SX, hiBox, Nat.zero_add]
    generalize W.add (.cells [.int .i64 v.sh, .int .i64 v.ttl, .int .i64 v.ses, sv, ev]) = W1 at *
    refine Ok_loop l.length (by omega) (fun i R V => Le W1 V ∧ R 1 = .pointer (some ⟨W.next, 0, none⟩) ∧ R 4 = .int .i64 (i : Int) ∧ Lst W1.next V 25 hoC (R 3) (s.ops.take (callsTo l i)))
      (fun r => r.1 = .exit 0 ∧ Le W1 r.2.2 ∧ Lst W1.next r.2.2 25 hoC (r.2.1 3) s.ops) ⟨Le.refl _, rfl, rfl, Lst.nil _ _ _ _⟩ ?_ ?_ ?_
    · rintro i R V hi ⟨g1, r1, r4, g5⟩
      unfold ref24_ops_L1
      have c4 : ∀ {V' : AW}, Le W1 V' → ldC (.pointer (some ⟨W.next, 4, none⟩)) V' = some (ev, V') := fun {V'} h => ldR ((h.get _ (by omega)).trans hg) rfl
      have evs : ∀ {V' : AW}, Le W1 V' → EvL V' ev l := fun {V'} hv => h.evs.mono (hle.trans hv)
      have t1 : ((i : Int) < (l.length : Int)) := by omega
      have t2 := fun W' => oBin_add (P := Tryz.prog) (W := W') (t := 3) (c := false) (d := true) (a := (i : Int)) (b := 1) (by omega) (by omega)
      have e3 : ((i + 1 : Nat) : Int) = (i : Int) + 1 := by omega
      obtain ⟨b, o, i1, i2, i3⟩ := EvL.get (evs g1) hi
      obtain ⟨fa, -⟩ := i3 V rfl
      have hx : l[i]? = some l[i] := List.getElem?_eq_getElem hi
      generalize l[i] = x at fa hx
      obtain ⟨V1, V2, a1, a2, l2, n2, x2⟩ := evBox x V
      have g2 := g1.trans l2
      have hcs := callsTo_succ hx
      cases hr : x.ret with
      | true =>
        have hret := evB_ret x2
        rw [hr] at hret hcs
        rw [if_pos rfl] at hcs
        simp only [SX, r1, r4, Nat.zero_add, c4 g1, (evs g1).len len80, t1, decide_true, i1, fa, a1, a2, hret, t2, Ok_some]
        exact .inl ⟨trivial, g2, r1, by rw [e3]; rfl, by rw [hcs]; exact g5.mono l2⟩
      | false =>
        have hret := evB_ret x2
        rw [hr] at hret hcs
        rw [if_neg (by simp)] at hcs
        obtain ⟨q, q1, q2, q3, q4, q5, q6, q7⟩ := op_at hs hx hr
        obtain ⟨V3, b1, b2, n3, l3⟩ : ∃ V3, oAlloc Tryz.prog 176 V2 = some (.pointer (some ⟨V2.next, 0, none⟩), V3) ∧ V3.get V2.next = some (.cells (hoC ho0)) ∧ V3.next = V2.next + 1 ∧ Le V2 V3 := ⟨_, al176 V2, AW.get_add _ _, AW.add_next _ _, (Le.refl _).add _⟩
        have g3 := g2.trans l3
        have x3 : V3.get V.next = some (.cells (evC x)) := (l3.get _ (by omega)).trans x2
        obtain ⟨r, p1, p2⟩ := returned_ok (evs g3) (by omega) (n := l.length) (Nat.le_refl _) x.id
        obtain ⟨n, hn⟩ : ∃ n : HoT, n = ⟨x.id, x.th, (i : Int), r, x.op, rp0⟩ := ⟨_, rfl⟩
        have b0 := fun W => bd176 x.id x.th (i : Int) r x.op W
        rw [← hn] at b0
        obtain ⟨V4, s1, s2, n4, l4⟩ : ∃ V4, stV 25 (.pointer (some ⟨V2.next, 0, none⟩)) (hoV n) V3 = some (undef, V4) ∧ V4.get V2.next = some (.cells (hoC n)) ∧ V4.next = V3.next ∧ Le V2 V4 := ⟨_, stHo b2, AW.get_put _ _ _, rfl, l3.put (Nat.le_refl _) _⟩
        have g4 := g2.trans l4
        have hto := hoB_to s2
        rw [show n.to = r by rw [hn]] at hto
        have htk : s.ops.take (callsTo l i) ++ [q] = s.ops.take (callsTo l i + 1) := by
          obtain ⟨w1, w2⟩ := List.getElem?_eq_some_iff.1 q1
          rw [List.take_succ_eq_append_getElem w1, w2]
        have hbig : (s.ops.take (callsTo l i)).length ≤ 400 := by
          have := hs.inv.opk
          rw [List.length_take]; omega
        rcases p2 with ⟨rfl, p2⟩ | ⟨i', y, z1, z2, z3, z4, rfl⟩
        · have d2 : decide ((0 : Int) ≤ -1) = false := rfl
          obtain ⟨e1, e2⟩ := q7 p2
          have hq : n = q := by rw [hn]; cases q; simp_all
          subst hq
          have L4 := g5.mono (l2.trans l4)
          have L5 : Lst W1.next (V4.add (.cells (hoC n))) 25 hoC (R 3) (s.ops.take (callsTo l i)) := L4.mono ((Le.refl _).add _)
          obtain ⟨u', V6, k1, k2, k3, k4⟩ := L5.push (a := n) ap89 hoC_len hoC_one (b := V4.next) (c := 1) cellsAt_new (by omega) (by omega) (by rw [AW.add_next]; have := g4.next; omega)
          simp only [SX, r1, r4, Nat.zero_add, c4 g1, (evs g1).len len80, t1, decide_true, i1, fa, a1, a2, hret, evB_id x2, evB_th x2, evB_op x2, c4 g2, (evs g2).len len80, b1, p1, evB_id x3, evB_th x3, evB_op x3, agV_some, vsame_op x.op, vsame_int, Bool.and_true, b0, s1, hto, d2, hoB_all s2, bs89, k1, t2, Ok_some]
          refine .inl ⟨trivial, k4 _ (g4.add _) (Nat.le_refl _), r1, by rw [e3]; rfl, ?_⟩
          rw [hcs, ← htk]; exact k2
        · have d2 : decide ((0 : Int) ≤ (i' : Int)) = true := decide_eq_true (by omega)
          obtain ⟨e1, e2⟩ := q6 i' y z1 z2 z3 z4
          obtain ⟨b', o', j1, j2, j3⟩ := EvL.get (evs g4) z1
          obtain ⟨-, -, -, -, f9⟩ := j3 V4 rfl
          rw [(List.getElem?_eq_some_iff.1 z2).2] at f9
          obtain ⟨V5, s3, s4, n5, l5⟩ : ∃ V5, stV 9 (.pointer (some ⟨V2.next, 16, none⟩)) (rpV y.rp) V4 = some (undef, V5) ∧ V5.get V2.next = some (.cells (hoC { n with rp := y.rp })) ∧ V5.next = V4.next ∧ Le V2 V5 := ⟨_, stRp s2 y.rp, AW.get_put _ _ _, rfl, l4.put (Nat.le_refl _) _⟩
          have g5' := g2.trans l5
          have hq : ({ n with rp := y.rp } : HoT) = q := by rw [hn]; cases q; simp_all
          rw [hq] at s4
          have L4 := g5.mono (l2.trans l5)
          have L5 : Lst W1.next (V5.add (.cells (hoC q))) 25 hoC (R 3) (s.ops.take (callsTo l i)) := L4.mono ((Le.refl _).add _)
          obtain ⟨u', V6, k1, k2, k3, k4⟩ := L5.push (a := q) ap89 hoC_len hoC_one (b := V5.next) (c := 1) cellsAt_new (by omega) (by omega) (by rw [AW.add_next]; have := g5'.next; omega)
          simp only [SX, r1, r4, Nat.zero_add, c4 g1, (evs g1).len len80, t1, decide_true, i1, fa, a1, a2, hret, evB_id x2, evB_th x2, evB_op x2, c4 g2, (evs g2).len len80, b1, p1, evB_id x3, evB_th x3, evB_op x3, agV_some, vsame_op x.op, vsame_int, Bool.and_true, b0, s1, hto, d2, c4 g4, j1, f9, s3, hoB_all s4, bs89, k1, t2, Ok_some]
          refine .inl ⟨trivial, k4 _ (g5'.add _) (Nat.le_refl _), r1, by rw [e3]; rfl, ?_⟩
          rw [hcs, ← htk]; exact k2
    · rintro R V ⟨g1, r1, r4, g5⟩
      unfold ref24_ops_L1
      have c4 : ldC (.pointer (some ⟨W.next, 4, none⟩)) V = some (ev, V) := ldR ((g1.get _ (by omega)).trans hg) rfl
      have t1 : ¬ ((l.length : Int) < (l.length : Int)) := by omega
      simp only [SX, r1, r4, Nat.zero_add, c4, (h.evs.mono (hle.trans g1)).len len80, t1, decide_false, Ok_some]
      refine ⟨by simp, trivial, g1, ?_⟩
      rw [callsTo_all hs, List.take_length] at g5
      exact g5
    · rintro ⟨q, R, V⟩ ⟨rfl, g1, g5⟩
      simp only [SX, Ok_some]
      exact ⟨hle.trans g1, g5.row hoC_len (flatAt_in hoC_len)⟩
  obtain ⟨u, W2, k1, k2, k3⟩ := om_row main ref24_ops_om
  exact ⟨u, W2, k1, k2, k3⟩
def befB (a b : HoT) : Bool := decide (0 ≤ a.to) && decide (a.to < b.fr)
theorem hoBox' (e : HoT) (W : AW) : oBox (hoV e) W = some (.pointer (some ⟨W.next, 0, none⟩), W.add (.cells (hoC e))) := oBox_agg _
theorem wu1 : wnt undef false = false := Eq.trans rfl rfl
theorem wu2 : wnt undef true = false := Eq.trans rfl rfl






theorem lenStr9 (s : ByteArray) (W : AW) : ∃ n : Int, oBuiltin Tryz.prog .len #[9] 3 #[false] [.string s] W = some (.int .i64 n, W) := ⟨_, rfl⟩

end Go.Proofs.YtnigceddndemkaaGreatDoor
namespace Go.Proofs.YtnigceddndemkaaGreatDoor
open Go Go.Eng Go.RowKit
set_option linter.unusedVariables false
set_option linter.unusedSimpArgs false
set_option linter.unusedSectionVars false
set_option maxRecDepth 100000
structure HiR (W : AW) (v : Ven) (sv ev : Value) (l : List EvT) : Prop where
  secs : SecsC W sv v.secs
  evs : EvL W ev l
theorem HiR.mono {W W' : AW} {v : Ven} {sv ev : Value} {l : List EvT} (h : HiR W v sv ev l) (hle : Le W W') : HiR W' v sv ev l := ⟨h.secs.mono hle, h.evs.mono hle⟩
theorem far_all {W : AW} {v : Ven} {sv ev : Value} {l : List EvT} (h : HiR W v sv ev l) (n : Int) : ∃ c : Bool, omS (.func (.func 37) #[] #[]) [hiV v sv ev, .int .i64 n] W = some (.bool c, W) ∧ (c = false → HiA W v sv ev l ∧ l.length ≤ 410 ∧ ((l.length : Int) ≤ n ∨ 400 < l.length)) := by
  have main : Ok (law24_far omS (hiV v sv ev) (.int .i64 n) W) fun r => ∃ c : Bool, r.1 = .bool c ∧ Le W r.2 ∧ (c = false → v.secs.length ≤ 10 ∧ (∀ s ∈ v.secs, s.rows.length ≤ 20) ∧ l.length ≤ 410 ∧ ((l.length : Int) ≤ n ∨ 400 < l.length)) := by
    unfold law24_far
    have hle : Le W (W.add (.cells [.int .i64 v.sh, .int .i64 v.ttl, .int .i64 v.ses, sv, ev])) := (Le.refl W).add _
    have hg : (W.add (.cells [.int .i64 v.sh, .int .i64 v.ttl, .int .i64 v.ses, sv, ev])).get W.next = some (.cells [.int .i64 v.sh, .int .i64 v.ttl, .int .i64 v.ses, sv, ev]) := AW.get_add _ _
    simp only [SX, hiBox, Nat.zero_add]
    generalize W.add (.cells [.int .i64 v.sh, .int .i64 v.ttl, .int .i64 v.ses, sv, ev]) = W1 at *
    have h1 := h.mono hle
    have c3 : ldC (.pointer (some ⟨W.next, 3, none⟩)) W1 = some (sv, W1) := ldR hg rfl
    have c4 : ldC (.pointer (some ⟨W.next, 4, none⟩)) W1 = some (ev, W1) := ldR hg rfl
    refine Ok_loop (min v.secs.length 20) (by omega) (fun i R V => V = W1 ∧ R 1 = .int .i64 n ∧ R 2 = .pointer (some ⟨W.next, 0, none⟩) ∧ R 5 = .int .i64 (i : Int) ∧ ∀ j (hj : j < v.secs.length), j < i → v.secs[j].rows.length ≤ 20)
      (fun r => r.2.2 = W1 ∧ ((r.1 = .exit 0 ∧ r.2.1 1 = .int .i64 n ∧ r.2.1 2 = .pointer (some ⟨W.next, 0, none⟩) ∧ ∀ j (hj : j < v.secs.length), j < 20 → v.secs[j].rows.length ≤ 20) ∨ (r.1 = .ret ∧ r.2.1 4 = .bool true))) ⟨rfl, rfl, rfl, rfl, fun j hj h => by omega⟩ ?_ ?_ ?_
    · rintro i R V hi ⟨rfl, r1, r2, r5, hj⟩
      unfold law24_far_L1
      have hi' : i < v.secs.length := by omega
      have t1 : ((i : Int) < (v.secs.length : Int)) := by omega
      have t0 : ((i : Int) < 20) := by omega
      have t2 := fun W' => oBin_add (P := Tryz.prog) (W := W') (t := 3) (c := false) (d := true) (a := (i : Int)) (b := 1) (by omega) (by omega)
      have e3 : ((i + 1 : Nat) : Int) = (i : Int) + 1 := by omega
      obtain ⟨b, o, rv, i1, i2, -, i4, i5, -⟩ := Secs.get h1.secs.1 hi'
      obtain ⟨m, hm⟩ := lenStr9 (bytesL v.secs[i].name) V
      cases d2 : decide (100 < m)
      · by_cases c3' : v.secs[i].rows.length ≤ 20
        · have d3 : decide ((20 : Int) < (v.secs[i].rows.length : Int)) = false := decide_eq_false (by omega)
          simp only [SX, r1, r2, r5, Nat.zero_add, Nat.add_zero, c3, h1.secs.1.len lenS, t1, t0, decide_true, i1, i4 _ (Le.refl _), hm, d2, i5 _ (Le.refl _), i2.len len69, d3, t2, Ok_some]
          exact .inl ⟨trivial, trivial, r1, r2, by rw [e3]; rfl, fun j hj' hlt => by
            by_cases e : j = i
            · subst e; exact c3'
            · exact hj j hj' (by omega)⟩
        · have d3 : decide ((20 : Int) < (v.secs[i].rows.length : Int)) = true := decide_eq_true (by omega)
          simp only [SX, r1, r2, r5, Nat.zero_add, Nat.add_zero, c3, h1.secs.1.len lenS, t1, t0, decide_true, i1, i4 _ (Le.refl _), hm, d2, i5 _ (Le.refl _), i2.len len69, d3, t2, Ok_some]
          exact .inr ⟨by simp, trivial, .inr ⟨trivial, rfl⟩⟩
      · simp only [SX, r1, r2, r5, Nat.zero_add, Nat.add_zero, c3, h1.secs.1.len lenS, t1, t0, decide_true, i1, i4 _ (Le.refl _), hm, d2, t2, Ok_some]
        exact .inr ⟨by simp, trivial, .inr ⟨trivial, rfl⟩⟩
    · rintro R V ⟨rfl, r1, r2, r5, hj⟩
      unfold law24_far_L1
      by_cases c : v.secs.length ≤ 20
      · have t1 : ¬ (((min v.secs.length 20 : Nat) : Int) < (v.secs.length : Int)) := by omega
        simp only [SX, r2, r5, Nat.zero_add, c3, h1.secs.1.len lenS, t1, decide_false, Ok_some]
        exact ⟨by simp, trivial, .inl ⟨trivial, r1, r2, fun j h1 h2 => hj j h1 (by omega)⟩⟩
      · have t1 : (((min v.secs.length 20 : Nat) : Int) < (v.secs.length : Int)) := by omega
        have t0 : ¬ (((min v.secs.length 20 : Nat) : Int) < 20) := by omega
        simp only [SX, r2, r5, Nat.zero_add, c3, h1.secs.1.len lenS, t1, t0, decide_true, decide_false, Ok_some]
        exact ⟨by simp, trivial, .inl ⟨trivial, r1, r2, fun j h1 h2 => hj j h1 (by omega)⟩⟩
    · rintro ⟨q, R, V⟩ ⟨rfl, hq⟩
      simp only at hq
      rcases hq with ⟨rfl, r1, r2, hj⟩ | ⟨rfl, r4⟩
      · have hsm : v.secs.length ≤ 10 → ∀ s ∈ v.secs, s.rows.length ≤ 20 := fun hl s hs => by
          obtain ⟨j, hj', rfl⟩ := List.mem_iff_getElem.1 hs
          exact hj j hj' (by omega)
        by_cases k1 : v.secs.length ≤ 10
        · have d1 : decide ((10 : Int) < (v.secs.length : Int)) = false := decide_eq_false (by omega)
          by_cases k4 : l.length ≤ 410
          · have d4 : decide ((410 : Int) < (l.length : Int)) = false := decide_eq_false (by omega)
            by_cases k2 : n < (l.length : Int)
            · have d2 : decide (n < (l.length : Int)) = true := decide_eq_true k2
              by_cases k3 : (l.length : Int) ≤ 400
              · have d3 : decide ((l.length : Int) ≤ 400) = true := decide_eq_true k3
                simp only [SX, wu1, wu2, r1, r2, Nat.zero_add, c3, c4, h1.secs.1.len lenS, h1.evs.len len80, d1, d2, d3, d4, Ok_some]
                exact ⟨true, rfl, hle, fun h => by cases h⟩
              · have d3 : decide ((l.length : Int) ≤ 400) = false := decide_eq_false k3
                simp only [SX, wu1, wu2, r1, r2, Nat.zero_add, c3, c4, h1.secs.1.len lenS, h1.evs.len len80, d1, d2, d3, d4, Ok_some]
                exact ⟨false, rfl, hle, fun _ => ⟨k1, hsm k1, k4, .inr (by omega)⟩⟩
            · have d2 : decide (n < (l.length : Int)) = false := decide_eq_false k2
              simp only [SX, wu1, wu2, r1, r2, Nat.zero_add, c3, c4, h1.secs.1.len lenS, h1.evs.len len80, d1, d2, d4, Ok_some]
              exact ⟨false, rfl, hle, fun _ => ⟨k1, hsm k1, k4, .inl (by omega)⟩⟩
          · have d4 : decide ((410 : Int) < (l.length : Int)) = true := decide_eq_true (by omega)
            cases d2 : decide (n < (l.length : Int)) <;> cases d3 : decide ((l.length : Int) ≤ 400) <;>
              (simp only [SX, wu1, wu2, r1, r2, Nat.zero_add, c3, c4, h1.secs.1.len lenS, h1.evs.len len80, d1, d2, d3, d4, Ok_some]; exact ⟨true, rfl, hle, fun h => by cases h⟩)
        · have d1 : decide ((10 : Int) < (v.secs.length : Int)) = true := decide_eq_true (by omega)
          simp only [SX, wu1, wu2, r1, r2, Nat.zero_add, c3, h1.secs.1.len lenS, d1, Ok_some]
          exact ⟨true, rfl, hle, fun h => by cases h⟩
      · simp only [SX, r4, Ok_some]
        exact ⟨true, rfl, hle, fun h => by cases h⟩
  obtain ⟨⟨q, W'⟩, h1, c, h2, h3, h4⟩ := main
  simp only at h2
  subst h2
  refine ⟨c, om_drop rfl ⟨_, h1, rfl, h3⟩ law24_far_om, fun hc => ?_⟩
  obtain ⟨k1, k2, k3⟩ := h4 hc
  exact ⟨⟨h.secs, by omega, fun s hs => by have := k2 s hs; omega, h.evs⟩, k3⟩
end Go.Proofs.YtnigceddndemkaaGreatDoor
namespace Go.Proofs.YtnigceddndemkaaGreatDoor
open Go Go.Eng
set_option linter.unusedVariables false
set_option linter.unusedSimpArgs false
set_option linter.unusedSectionVars false
set_option maxRecDepth 100000

def isOpen (k : Nat) (o : HoT) : Bool := decide (o.fr ≤ (k : Int)) && (decide (o.to < 0) || decide ((k : Int) < o.to))
def openAt (ops : List HoT) (k : Nat) : Nat := (ops.filter (isOpen k)).length
def maxN (l : List Int) : Int := l.foldl max 0
theorem take_snoc' {α : Type} {l : List α} {i : Nat} (h : i < l.length) : l.take (i + 1) = l.take i ++ [l[i]] := List.take_succ_eq_append_getElem h
noncomputable def widthV (s : TL) : Int := maxN s.opn
def manyS (l : List RowT) : Int := sumI (l.map (·.many))
theorem oBox_ptr (p : Option Addr) (W : AW) : oBox (.pointer p) W = some (.pointer (some ⟨W.next, 0, none⟩), W.add (.cells [.pointer p])) := Eq.trans rfl rfl
theorem hoBox2 (o : HoT) (W : AW) : stV 25 (.pointer (some ⟨W.next, 0, none⟩)) (hoV o) (W.add (.cells (hoC ho0))) = some (undef, W.add (.cells (hoC o))) := by
  rw [stHo (AW.get_add _ _), put_add_cells]
theorem some_fn (tp : Option Addr) (i : Fn) (a b : Array Value) (W : AW) : ∃ W1, omS (.func (.func 111) #[] #[]) [.pointer tp, .func i a b] W = some (.func (.func 167) #[] #[.pointer (some ⟨W.next, 0, none⟩), .pointer (some ⟨W.next + 1, 0, none⟩)], W1) ∧ Le W W1 ∧ W1.next = W.next + 2 ∧
    W1.get W.next = some (.cells [.pointer tp]) ∧ W1.get (W.next + 1) = some (.cells [.func i a b]) := by
  refine ⟨(W.add (.cells [.pointer tp])).add (.cells [.func i a b]), ?_, ((Le.refl _).add _).add _, by rw [AW.add_next, AW.add_next], by rw [AW.get_add_ne _ _ (by rw [AW.add_next]; omega), AW.get_add], AW.get_add _ _⟩
  have : history_timeline_some omS (.pointer tp) (.func i a b) W = some (.func (.func 167) #[] #[.pointer (some ⟨W.next, 0, none⟩), .pointer (some ⟨W.next + 1, 0, none⟩)], (W.add (.cells [.pointer tp])).add (.cells [.func i a b])) := by
    unfold history_timeline_some
    simp only [SX, oBox_ptr, oBox_func, AW.add_next]
  rw [history_timeline_some_om this, gc_not rfl]
theorem some_ok {b1 b2 tb : Nat} {isF f ov : Value} {ops : List HoT} {W0 W : AW} (hr : HoL W0 ov ops) (hl : ops.length ≤ 1000) (P : HoT → Bool) (h1 : ldC (.pointer (some ⟨b1, 0, none⟩)) W = some (.pointer (some ⟨tb, 0, none⟩), W)) (h5 : ldC (.pointer (some ⟨tb, 5, none⟩)) W = some (ov, W))
    (I : List HoT → AW → Prop) (Q : AW → Prop) (hI : I [] W) (hS : ∀ pre W', I pre W' → Le W0 W' ∧ ldC (.pointer (some ⟨b2, 0, none⟩)) W' = some (isF, W')) (hA : ∀ pre W' cs, I pre W' → I pre (W'.add (.cells cs)))
    (his : ∀ pre o W', I pre W' → omS isF [hoV o] W' = some (.bool (P o), W')) (skip : ∀ pre o W', pre ++ [o] <+: ops → I pre W' → P o = false → I (pre ++ [o]) W')
    (step : ∀ pre o W', pre ++ [o] <+: ops → I pre W' → P o = true → ∃ b W2, omS f [hoV o] W' = some (.bool b, W2) ∧ (b = true → I (pre ++ [o]) W2) ∧ (b = false → Q W2)) :
    ∃ W2, omS (.func (.func 167) #[] #[.pointer (some ⟨b1, 0, none⟩), .pointer (some ⟨b2, 0, none⟩)]) [f] W = some (.tuple #[], W2) ∧ (I ops W2 ∨ Q W2) := by
  have main : Ok (history_timeline_some_1 omS f (.pointer (some ⟨b1, 0, none⟩)) (.pointer (some ⟨b2, 0, none⟩)) W) fun r => r.1 = .tuple #[] ∧ (I ops r.2 ∨ Q r.2) := by
    unfold history_timeline_some_1
    have l0 := (hS _ _ hI).1
    simp only [SX, h1, oNilCheck_ptr, Nat.zero_add, h5, (hr.mono l0).len len89]
    refine Ok_loop ops.length (by omega) (fun k R V => R 0 = f ∧ R 2 = .pointer (some ⟨b2, 0, none⟩) ∧ R 9 = ov ∧ R 10 = .int .i64 (ops.length : Int) ∧ R 11 = .int .i64 (k : Int) ∧ I (ops.take k) V)
      (fun r => (r.1 = .exit 0 ∧ I ops r.2.2) ∨ (r.1 = .ret ∧ Q r.2.2)) ⟨rfl, rfl, rfl, rfl, rfl, hI⟩ ?_ ?_ ?_
    · rintro k R V hk ⟨r0, r2, r9, r10, r11, hi⟩
      unfold history_timeline_some_1_L1
      have t1 : ((k : Int) < (ops.length : Int)) := by omega
      have t2 := fun W' => oBin_add (P := Tryz.prog) (W := W') (t := 3) (c := false) (d := true) (a := (k : Int)) (b := 1) (by omega) (by omega)
      have e3 : ((k + 1 : Nat) : Int) = (k : Int) + 1 := by omega
      obtain ⟨b, o, i1, i2, i3⟩ := HoL.get (hr.mono (hS _ _ hi).1) hk
      obtain ⟨f0, -⟩ := i3 V rfl
      have hpre : ops.take k ++ [ops[k]] <+: ops := by rw [← List.take_succ_eq_append_getElem hk]; exact List.take_prefix _ _
      have etk : ops.take (k + 1) = ops.take k ++ [ops[k]] := List.take_succ_eq_append_getElem hk
      rw [etk]
      generalize ops[k] = x at f0 hpre
      have hi2 := hA _ _ (hoC x) hi
      have g2 : ldA 25 (.pointer (some ⟨V.next, 0, none⟩)) (V.add (.cells (hoC x))) = some (hoV x, V.add (.cells (hoC x))) := hoB_all (AW.get_add _ _)
      have k2 := (hS _ _ hi2).2
      have hp := his _ x _ hi2
      cases hP : P x with
      | false =>
        rw [hP] at hp
        simp only [SX, r0, r2, r9, r10, r11, t1, decide_true, i1, f0, al176, hoBox2, k2, g2, hp, t2, Ok_some]
        exact .inl ⟨trivial, r0, r2, r9, r10, by rw [e3]; rfl, skip _ _ _ hpre hi2 hP⟩
      | true =>
        rw [hP] at hp
        obtain ⟨c, W2, s1, s2, s3⟩ := step _ x _ hpre hi2 hP
        cases c with
        | true =>
          simp only [SX, r0, r2, r9, r10, r11, t1, decide_true, i1, f0, al176, hoBox2, k2, g2, hp, s1, Bool.not_true, t2, Ok_some]
          exact .inl ⟨trivial, r0, r2, r9, r10, by rw [e3]; rfl, s2 rfl⟩
        | false =>
          simp only [SX, r0, r2, r9, r10, r11, t1, decide_true, i1, f0, al176, hoBox2, k2, g2, hp, s1, Bool.not_false, Ok_some]
          exact .inr ⟨by simp, .inr ⟨trivial, s3 rfl⟩⟩
    · rintro R V ⟨r0, r2, r9, r10, r11, hi⟩
      unfold history_timeline_some_1_L1
      have t1 : ¬ ((ops.length : Int) < (ops.length : Int)) := by omega
      rw [List.take_length] at hi
      simp only [SX, r10, r11, t1, decide_false, Ok_some]
      exact ⟨by simp, .inl ⟨trivial, hi⟩⟩
    · rintro ⟨x, R, V⟩ hq
      rcases hq with ⟨rfl, hi⟩ | ⟨rfl, hq⟩
      · simp only [SX, Ok_some]
        exact ⟨trivial, .inl hi⟩
      · simp only [SX, Ok_some]
        exact ⟨trivial, .inr hq⟩
  obtain ⟨⟨r, W'⟩, h1, h2, h3⟩ := main
  simp only at h2 h3
  subst h2
  exact ⟨W', by rw [history_timeline_some_1_om h1, gc_not rfl], h3⟩
theorem some_range {b1 b2 tb nt : Nat} {isF ov : Value} {ops : List HoT} {W0 W : AW} {R : Nat → Value} {ps : Array Tmp} {ac bd : Code} (hr : HoL W0 ov ops) (hl : ops.length ≤ 1000) (P : HoT → Bool) (hp : ps.size = 1)
    (h1 : ldC (.pointer (some ⟨b1, 0, none⟩)) (W.add (.loop .ready none R nt ps ac bd)) = some (.pointer (some ⟨tb, 0, none⟩), W.add (.loop .ready none R nt ps ac bd))) (h5 : ldC (.pointer (some ⟨tb, 5, none⟩)) (W.add (.loop .ready none R nt ps ac bd)) = some (ov, W.add (.loop .ready none R nt ps ac bd)))
    (J : List HoT → AW → Prop) (Q : X → AW → Prop) (h0 : J [] (W.add (.loop .ready none R nt ps ac bd)))
    (hS : ∀ pre W', J pre W' → Le W0 W' ∧ ldC (.pointer (some ⟨b2, 0, none⟩)) W' = some (isF, W')) (hA : ∀ pre W' cs, J pre W' → W.next < W'.next → J pre (W'.add (.cells cs))) (hP : ∀ pre W' o, J pre W' → J pre (W'.put W.next o)) (hQ : ∀ x W' o, Q x W' → Q x (W'.put W.next o))
    (his : ∀ pre o W', J pre W' → omS isF [hoV o] W' = some (.bool (P o), W')) (skip : ∀ pre o W', pre ++ [o] <+: ops → J pre W' → P o = false → J (pre ++ [o]) W')
    (d : Nat) (has : ∀ o W' R', R' = zipGo ps.toList [hoV o] R → kCode Tryz.prog omS false nt ac LT R' W' ret3 = some (.normal, rput R' (some d) (.pointer (some ⟨W'.next, 0, none⟩)), W'.add (.cells (hoC o))))
    (step : ∀ pre o W' b R', R' = rput (zipGo ps.toList [hoV o] R) (some d) (.pointer (some ⟨b, 0, none⟩)) → pre ++ [o] <+: ops → P o = true → J pre W' → W.next < W'.next → W'.get b = some (.cells (hoC o)) → W.next < b → b < W'.next →
      Ok (kCode Tryz.prog omS false nt bd LT R' W' ret3) fun q => W'.next ≤ q.2.2.next ∧ q.2.2.get W.next = W'.get W.next ∧ ((q.1 = .normal ∧ J (pre ++ [o]) q.2.2) ∨ (q.1 ≠ .normal ∧ Q q.1 q.2.2))) :
    ∃ x W2, oRange omS (.func (.func 167) #[] #[.pointer (some ⟨b1, 0, none⟩), .pointer (some ⟨b2, 0, none⟩)]) (.loop .ready none R nt ps ac bd) W = some (x, W2.kill W.next) ∧ ((x = .normal ∧ J ops W2) ∨ (x ≠ .normal ∧ Q x W2)) := by
  obtain ⟨W2, k1, k2⟩ := some_ok (f := .func (.yield W.next) #[] #[]) (W := W.add (.loop .ready none R nt ps ac bd)) (b2 := b2) (isF := isF) hr hl P h1 h5
    (fun pre W' => J pre W' ∧ W.next < W'.next ∧ W'.get W.next = some (.loop .ready none R nt ps ac bd))
    (fun W' => ∃ x, x ≠ .normal ∧ Q x W' ∧ W'.get W.next = some (.loop .done x.jump R nt ps ac bd))
    ⟨h0, by rw [AW.add_next]; omega, AW.get_add _ _⟩ (fun pre W' h => hS _ _ h.1)
    (fun pre W' cs h => ⟨hA _ _ _ h.1 h.2.1, by rw [AW.add_next]; omega, by rw [AW.get_add_ne _ _ (by omega)]; exact h.2.2⟩)
    (fun pre o W' h => his _ _ _ h.1) (fun pre o W' hpre h hn => ⟨skip _ _ _ hpre h.1 hn, h.2⟩)
    (fun pre o W' hpre ⟨hJ, hlt, hget⟩ hyes => by
      have hJ2 := hP _ _ (.loop .busy none R nt ps ac bd) (hA _ _ (hoC o) hJ hlt)
      obtain ⟨⟨x, R2, W3⟩, k1, k2, k3, k4⟩ := step pre o _ W'.next _ rfl hpre hyes hJ2 (by rw [AW.put_next, AW.add_next]; omega) (by rw [AW.get_put_ne _ _ (by omega)]; exact AW.get_add _ _) hlt (by rw [AW.put_next, AW.add_next]; omega)
      simp only at k1 k2 k3 k4
      rw [AW.get_put] at k3
      have hy := yield_gen (P := Tryz.prog) (args := [hoV o]) hget (by rw [hp]; rfl) (has o W' _ rfl) (by rw [AW.get_add_ne _ _ (by omega)]; exact hget) k1 k3
      have hn3 : W.next < W3.next := by rw [AW.put_next, AW.add_next] at k2; omega
      rcases k4 with ⟨rfl, k4⟩ | ⟨kx, k4⟩
      · exact ⟨true, _, hy, fun _ => ⟨hP _ _ _ k4, by rw [AW.put_next]; exact hn3, AW.get_put _ _ _⟩, fun h => by cases h⟩
      · refine ⟨false, W3.put W.next (.loop .done x.jump R nt ps ac bd), ?_, fun h => by (cases h), fun _ => ⟨x, kx, hQ _ _ _ k4, AW.get_put _ _ _⟩⟩
        refine hy.trans ?_
        cases x with
        | normal => exact absurd rfl kx
        | exit i => rfl
        | ret => rfl)
  rcases k2 with ⟨h2, h3, h4⟩ | ⟨x, h2, h3, h4⟩
  · exact ⟨.normal, W2, range_normal k1 h4 (by simp), .inl ⟨rfl, h2⟩⟩
  · exact ⟨x, W2, range_jump k1 h4, .inr ⟨h2, h3⟩⟩
theorem Ok_calls {b1 b2 tb nt : Nat} {isF ov : Value} {ops : List HoT} {W0 W : AW} {R : Nat → Value} {ps : Array Tmp} {ac bd : Code} {ρ : Type} {K : X × AW → Option ρ} {G : ρ → Prop} (hr : HoL W0 ov ops) (hl : ops.length ≤ 1000) (P : HoT → Bool) (hp : ps.size = 1)
    (h1 : ldC (.pointer (some ⟨b1, 0, none⟩)) (W.add (.loop .ready none R nt ps ac bd)) = some (.pointer (some ⟨tb, 0, none⟩), W.add (.loop .ready none R nt ps ac bd))) (h5 : ldC (.pointer (some ⟨tb, 5, none⟩)) (W.add (.loop .ready none R nt ps ac bd)) = some (ov, W.add (.loop .ready none R nt ps ac bd)))
    (J : List HoT → AW → Prop) (Q : X → AW → Prop) (h0 : J [] (W.add (.loop .ready none R nt ps ac bd)))
    (hS : ∀ pre W', J pre W' → Le W0 W' ∧ ldC (.pointer (some ⟨b2, 0, none⟩)) W' = some (isF, W')) (hA : ∀ pre W' cs, J pre W' → W.next < W'.next → J pre (W'.add (.cells cs))) (hP : ∀ pre W' o, J pre W' → J pre (W'.put W.next o)) (hQ : ∀ x W' o, Q x W' → Q x (W'.put W.next o))
    (his : ∀ pre o W', J pre W' → omS isF [hoV o] W' = some (.bool (P o), W')) (skip : ∀ pre o W', pre ++ [o] <+: ops → J pre W' → P o = false → J (pre ++ [o]) W')
    (d : Nat) (has : ∀ o W' R', R' = zipGo ps.toList [hoV o] R → kCode Tryz.prog omS false nt ac LT R' W' ret3 = some (.normal, rput R' (some d) (.pointer (some ⟨W'.next, 0, none⟩)), W'.add (.cells (hoC o))))
    (step : ∀ pre o W' b R', R' = rput (zipGo ps.toList [hoV o] R) (some d) (.pointer (some ⟨b, 0, none⟩)) → pre ++ [o] <+: ops → P o = true → J pre W' → W.next < W'.next → W'.get b = some (.cells (hoC o)) → W.next < b → b < W'.next →
      Ok (kCode Tryz.prog omS false nt bd LT R' W' ret3) fun q => W'.next ≤ q.2.2.next ∧ q.2.2.get W.next = W'.get W.next ∧ ((q.1 = .normal ∧ J (pre ++ [o]) q.2.2) ∨ (q.1 ≠ .normal ∧ Q q.1 q.2.2)))
    (after : ∀ x W2, (x = .normal ∧ J ops W2) ∨ (x ≠ .normal ∧ Q x W2) → Ok (K (x, W2.kill W.next)) G) :
    Ok (bnd (oRange omS (.func (.func 167) #[] #[.pointer (some ⟨b1, 0, none⟩), .pointer (some ⟨b2, 0, none⟩)]) (.loop .ready none R nt ps ac bd) W) K) G := by
  obtain ⟨x, W2, k1, k2⟩ := some_range hr hl P hp h1 h5 J Q h0 hS hA hP hQ his skip d has step
  rw [k1, bnd_some]
  exact after x W2 k2
def thIs (t : Int) (o : HoT) : Bool := decide (o.th = t)
def thIds (ops : List HoT) (t : Int) : List Int := (ops.filter (thIs t)).map (·.id)
theorem Ans.run {e0 : Int} {l : List EvT} {a e : Int} (h : Ans e0 l a e) : ∃ s, e = 0 → Run l l.length s := by
  by_cases he : e = 0
  · obtain ⟨-, -, s, hs⟩ := h.good he
    exact ⟨s, fun _ => hs⟩
  · exact ⟨TL.init, fun h => absurd h he⟩
end Go.Proofs.YtnigceddndemkaaGreatDoor
