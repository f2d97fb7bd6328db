/- Contracts of functions, and their laws. -/
import Derived.Test.YtfcfglpkgcheiaaDoorSDec
import Derived.Test.YtfcfglpkgcheiaaDoorOpnA
import Derived.KernelRfl
/- What small functions answer. -/
namespace Go.Proofs.YtfcfglpkgcheiaaDoor
open Go Go.Eng
set_option linter.unusedVariables false
set_option linter.unusedSimpArgs false
theorem lenI : ((#[38] : Array TypeId)[0]?).bind Tryd.prog.underlying = some (.slice 3) := by kernel_rfl
theorem lenS : ((#[34] : Array TypeId)[0]?).bind Tryd.prog.underlying = some (.slice 62) := by kernel_rfl
def outB (n lo hi : Int) : Bool := decide (n < lo) || decide (hi < n)
theorem outsideint_ok (n lo hi : Int) (W : AW) : omS (.func (.func 56) #[] #[]) [.int .i64 n, .int .i64 lo, .int .i64 hi] W = some (.bool (outB n lo hi), W) := by
  have h : venue_outsideint omS (.int .i64 n) (.int .i64 lo) (.int .i64 hi) W = some (.bool (outB n lo hi), W) := by
    unfold venue_outsideint outB
    by_cases h : n < lo <;> simp only [SX, h, Bool.true_or, Bool.false_or]
  rw [venue_outsideint_om h, gc_bool (.refl _)]
theorem outsideint64_ok (n lo hi : Int) (W : AW) : omS (.func (.func 59) #[] #[]) [.int .i64 n, .int .i64 lo, .int .i64 hi] W = some (.bool (outB n lo hi), W) := by
  have h : venue_outsideint64 omS (.int .i64 n) (.int .i64 lo) (.int .i64 hi) W = some (.bool (outB n lo hi), W) := by
    unfold venue_outsideint64 outB
    by_cases h : n < lo <;> simp only [SX, h, Bool.true_or, Bool.false_or]
  rw [venue_outsideint64_om h, gc_bool (.refl _)]
def inB (n lo hi : Int) : Bool := decide (lo ≤ n) && decide (n ≤ hi)
end Go.Proofs.YtfcfglpkgcheiaaDoor
/- Names. -/
namespace Go.Proofs.YtfcfglpkgcheiaaDoor
open Go Go.Eng
set_option linter.unusedVariables false
set_option linter.unusedSimpArgs false
set_option maxRecDepth 100000
theorem un9 : Tryd.prog.underlying 9 = some .string := by kernel_rfl
theorem len9 : ((#[9] : Array TypeId)[0]?).bind Tryd.prog.underlying = some .string := by kernel_rfl
def setL (l : List UInt8) : List Value := (List.range 256).map fun i => .bool (l.any fun c => c.toNat == i)
theorem setL_len (l : List UInt8) : (setL l).length = 256 := by simp [setL]
theorem setL_get (l : List UInt8) {i : Nat} (h : i < 256) : (setL l)[i]? = some (.bool (l.any fun c => c.toNat == i)) := by simp [setL, h]
theorem setL_one (l : List UInt8) : (setL l).all one = true := by
  unfold setL
  rw [List.all_map, List.all_eq_true]
  intro x _
  rfl
theorem setL_plain (l : List UInt8) : (plain (.tuple #[.agg (setL l).toArray, .bool true]) && !isU (.tuple #[.agg (setL l).toArray, .bool true])) = true := by
  have h : plain1 (.agg (setL l).toArray) = true := by
    show (setL l).toArray.toList.all scalar = true
    unfold setL
    rw [List.toList_toArray, List.all_map, List.all_eq_true]
    intro x _
    rfl
  have h2 : plain (.tuple #[.agg (setL l).toArray, .bool true]) = true := by
    show (plain1 (.agg (setL l).toArray) && (plain1 (.bool true) && true)) = true
    rw [h]; rfl
  rw [h2]; rfl
theorem setL_set (l : List UInt8) (c : UInt8) : (setL l).set c.toNat (.bool true) = setL (l ++ [c]) := by
  apply List.ext_getElem?
  intro i
  by_cases hi : i < 256
  · rw [List.getElem?_set, setL_get _ hi, setL_get _ hi, setL_len]
    by_cases hc : c.toNat = i
    · rw [if_pos hc, if_pos (by omega)]
      simp [hc]
    · rw [if_neg hc]
      have : (c.toNat == i) = false := by simpa using hc
      simp [this]
  · rw [List.getElem?_eq_none (by rw [List.length_set, setL_len]; omega), List.getElem?_eq_none (by rw [setL_len]; omega)]
theorem al156 (W : AW) : oAlloc Tryd.prog 156 W = some (.pointer (some ⟨W.next, 0, none⟩), W.add (.cells (setL []))) := Eq.trans (by kernel_rfl) rfl
theorem oL156 (x : Value) (W : AW) : oLoad Tryd.prog 156 x W = ldA 256 x W := by kernel_rfl
theorem setHas_ok {b : Nat} {l : List UInt8} {W : AW} (hb : cellsAt W b = some (setL l)) (c : UInt8) : omS (.func (.func 128) #[] #[]) [.pointer (some ⟨b, 0, none⟩), .int .u8 (c.toNat : Int)] W = some (.bool (l.any fun x => x == c), W) := by
  refine om_drop rfl ?_ strings_asciiSet_contains_om
  unfold strings_asciiSet_contains
  have hc : c.toNat < 256 := c.toNat_lt
  simp only [SX, oNilCheck_ptr, ixA_ok hc, ldC_eq, hb, Option.bind_some, Nat.mul_one, Nat.zero_add, setL_get l hc, Option.map_some, Ok_some]
  refine ⟨?_, .refl _⟩
  congr 2
  funext x
  rw [Bool.eq_iff_iff]; simp [UInt8.toNat_inj]
theorem mkSet_ok {l : List UInt8} (hl : l.length < 1000) (ha : ∀ c ∈ l, c.toNat < 128) (W : AW) : omS (.func (.func 117) #[] #[]) [.string (bytesL l)] W = some (.tuple #[.agg (setL l).toArray, .bool true], W) := by
  refine om_drop (setL_plain l) ?_ strings_makeASCIISet_om
  unfold strings_makeASCIISet
  simp only [SX, al156]
  refine Ok_loop l.length (by omega) (fun k R W' => R 0 = .string (bytesL l) ∧ R 2 = .pointer (some ⟨W.next, 0, none⟩) ∧ R 4 = .int .i64 (k : Int) ∧ rwCells W' W.next = some (setL (l.take k)) ∧ Le W W')
        (fun r => r.1 = .exit 0 ∧ r.2.1 2 = .pointer (some ⟨W.next, 0, none⟩) ∧ rwCells r.2.2 W.next = some (setL l) ∧ Le W r.2.2) ⟨rfl, rfl, rfl, rwCells_new, (Le.refl _).add _⟩ ?_ ?_ ?_
  · rintro k R W' hk ⟨h0, h2, h4, hb, hle⟩
    unfold strings_makeASCIISet_L1
    have hc : l[k].toNat < 128 := ha _ (List.getElem_mem hk)
    have e1 : ((k : Int) < (l.length : Int)) := by omega
    have e2 : ¬ (128 : Int) ≤ (l[k].toNat : Int) := by omega
    simp only [SX, h0, h2, h4, str_len len9, e1, str_index un9 hk, e2, ixA_ok (show l[k].toNat < 256 by omega), stV_bool, hb, Option.bind_some, Nat.mul_one, Nat.zero_add, setL_len, show l[k].toNat < 256 by omega, if_true, setL_set,
      oBin_add (show -9223372036854775808 ≤ (k : Int) + 1 by omega) (show (k : Int) + 1 < 9223372036854775808 by omega), Ok_some]
    have e2 : (k : Int) + 1 = ((k + 1 : Nat) : Int) := by omega
    refine .inl ⟨trivial, h0, h2, by rw [← e2]; rfl, ?_, hle.put (Nat.le_refl _) _⟩
    rw [rwCells_put, ← List.take_append_getElem hk]
  · rintro R W' ⟨h0, h2, h4, hb, hle⟩
    unfold strings_makeASCIISet_L1
    have e1 : ¬ ((l.length : Int) < (l.length : Int)) := by omega
    simp only [SX, h0, h2, h4, str_len len9, e1, Ok_some]
    rw [List.take_length] at hb
    exact ⟨by simp, trivial, h2, hb, hle⟩
  · rintro ⟨x, R, W'⟩ ⟨rfl, h2, hb, hle⟩
    simp only at h2 hb hle
    have h1 := stV_all hb (setL_one l)
    rw [setL_len] at h1
    have h3 := ldA_all (rwCells_cellsAt hb) (setL_len l)
    have h4 := ldA_all (W := W'.put W.next (.cells (setL l))) (cellsAt_put _) (setL_len l)
    simp only [SX, h2, h3, h1, oRes_L1n, oL156, h4, Option.bind_some, Ok_some]
    exact ⟨trivial, hle.put (Nat.le_refl _) _⟩
def rtrim (p : UInt8 → Bool) (l : List UInt8) : List UInt8 := (l.reverse.dropWhile p).reverse
theorem drop_all {p : UInt8 → Bool} : ∀ {l : List UInt8} {k : Nat}, (∀ c ∈ l.take k, p c = true) → (l.drop k).dropWhile p = l.dropWhile p
  | l, 0, _ => by simp
  | [], k + 1, _ => by simp
  | c :: l, k + 1, h => by
    have hc : p c = true := h c (by simp)
    rw [List.drop_succ_cons, List.dropWhile_cons, if_pos hc]
    exact drop_all fun d hd => h d (by simp [hd])
abbrev inS (S : List UInt8) (c : UInt8) : Bool := S.any fun x => x == c
theorem trimL_ok {b : Nat} {S l : List UInt8} {W : AW} (hb : cellsAt W b = some (setL S)) (hl : l.length < 1000) : omS (.func (.func 118) #[] #[]) [.string (bytesL l), .pointer (some ⟨b, 0, none⟩)] W = some (.string (bytesL (l.dropWhile (inS S))), W) := by
  refine om_drop rfl ?_ strings_trimLeftASCII_om
  unfold strings_trimLeftASCII
  simp only [SX]
  refine Ok_loop l.length (by omega) (fun k R W' => W' = W ∧ R 0 = .string (bytesL (l.drop k)) ∧ R 1 = .pointer (some ⟨b, 0, none⟩) ∧ ∀ c ∈ l.take k, inS S c = true)
        (fun r => r.2.2 = W ∧ r.1 = .exit 0 ∧ r.2.1 0 = .string (bytesL (l.dropWhile (inS S)))) ⟨rfl, rfl, rfl, by simp⟩ ?_ ?_ ?_
  · rintro k R W' hk ⟨rfl, h0, h1, ha⟩
    unfold strings_trimLeftASCII_L1
    have hd : l.drop k = l[k] :: l.drop (k + 1) := List.drop_eq_getElem_cons hk
    have e1 : (0 : Int) < ((l.drop k).length : Int) := by rw [List.length_drop]; omega
    have e0 : oIndex Tryd.prog 9 (.string (bytesL (l.drop k))) (.int .i64 0) W' = some (.int .u8 (l[k].toNat : Int), W') := by
      have := str_index (P := Tryd.prog) (W := W') (k := .i64) un9 (l := l.drop k) (i := 0) (by rw [List.length_drop]; omega)
      simpa using this
    have e3 : oSlice Tryd.prog 9 (.string (bytesL (l.drop k))) (some (.int .i64 1)) none none W' = some (.string (bytesL (l.drop (k + 1))), W') := by
      have := str_from (P := Tryd.prog) (W := W') (k := .i64) un9 (l := l.drop k) (a := 1) (by rw [List.length_drop]; omega)
      rw [List.drop_drop] at this
      exact this
    simp only [SX, h0, h1, str_len len9, e1, e0, setHas_ok hb, e3]
    cases hp : inS S l[k]
    · simp only [SX, show (S.any fun x => x == l[k]) = false from hp, Ok_some]
      refine .inr ⟨by simp, trivial, trivial, ?_⟩
      show R 0 = _
      rw [h0, ← drop_all ha, hd, List.dropWhile_cons, hp]; rfl
    · simp only [SX, show (S.any fun x => x == l[k]) = true from hp, Ok_some]
      refine .inl ⟨trivial, trivial, rfl, h1, ?_⟩
      rw [← List.take_append_getElem hk]
      intro c hc
      rcases List.mem_append.1 hc with h | h
      · exact ha c h
      · rw [List.mem_singleton.1 h]; exact hp
  · rintro R W' ⟨rfl, h0, h1, ha⟩
    unfold strings_trimLeftASCII_L1
    rw [List.drop_length] at h0
    have e1 : ¬ (0 : Int) < (([] : List UInt8).length : Int) := by simp
    simp only [SX, h0, h1, str_len len9, e1, Ok_some]
    refine ⟨by simp, trivial, trivial, ?_⟩
    show R 0 = _
    rw [h0, ← drop_all ha, List.drop_length]; rfl
  · rintro ⟨x, R, W'⟩ ⟨hW, hx, h0⟩
    simp only at hW hx h0
    subst hW hx
    simp only [SX, Ok_some, h0]
    exact ⟨trivial, .refl _⟩
theorem rtrim_take {p : UInt8 → Bool} {l : List UInt8} {n : Nat} (h : ∀ c ∈ l.drop n, p c = true) : rtrim p (l.take n) = rtrim p l := by
  unfold rtrim
  have h2 : l.reverse = (l.drop n).reverse ++ (l.take n).reverse := by rw [← List.reverse_append, List.take_append_drop]
  have h3 := drop_all (p := p) (l := l.reverse) (k := (l.drop n).reverse.length) (by
    rw [h2, List.take_left]
    intro c hc
    exact h c (List.mem_reverse.1 hc))
  rw [← h3, h2, List.drop_left]
theorem trimR_ok {b : Nat} {S l : List UInt8} {W : AW} (hb : cellsAt W b = some (setL S)) (hl : l.length < 1000) : omS (.func (.func 119) #[] #[]) [.string (bytesL l), .pointer (some ⟨b, 0, none⟩)] W = some (.string (bytesL (rtrim (inS S) l)), W) := by
  refine om_drop rfl ?_ strings_trimRightASCII_om
  unfold strings_trimRightASCII
  simp only [SX]
  refine Ok_loop l.length (by omega) (fun k R W' => W' = W ∧ R 0 = .string (bytesL (l.take (l.length - k))) ∧ R 1 = .pointer (some ⟨b, 0, none⟩) ∧ ∀ c ∈ l.drop (l.length - k), inS S c = true)
        (fun r => r.2.2 = W ∧ r.1 = .exit 0 ∧ r.2.1 0 = .string (bytesL (rtrim (inS S) l))) ⟨rfl, by simp; rfl, rfl, by simp⟩ ?_ ?_ ?_
  · rintro k R W' hk ⟨rfl, h0, h1, ha⟩
    unfold strings_trimRightASCII_L1
    obtain ⟨m, hm⟩ : ∃ m, l.length - k = m + 1 := ⟨l.length - k - 1, by omega⟩
    have hm2 : l.length - (k + 1) = m := by omega
    have hml : m < l.length := by omega
    rw [hm] at h0 ha
    have hlen : (l.take (m + 1)).length = m + 1 := by rw [List.length_take]; omega
    have e1 : (0 : Int) < (((m + 1 : Nat) : Int)) := by omega
    have e2 : ((m + 1 : Nat) : Int) - 1 = (m : Int) := by omega
    have e0 : oIndex Tryd.prog 9 (.string (bytesL (l.take (m + 1)))) (.int .i64 (m : Int)) W' = some (.int .u8 (l[m].toNat : Int), W') := by
      have := str_index (P := Tryd.prog) (W := W') (k := .i64) un9 (l := l.take (m + 1)) (i := m) (by rw [List.length_take]; omega)
      simpa using this
    have e3 : oSlice Tryd.prog 9 (.string (bytesL (l.take (m + 1)))) none (some (.int .i64 (m : Int))) none W' = some (.string (bytesL (l.take m)), W') := by
      have := str_to (P := Tryd.prog) (W := W') (k := .i64) un9 (l := l.take (m + 1)) (a := m) (by rw [List.length_take]; omega)
      rw [List.take_take, Nat.min_eq_left (by omega)] at this
      exact this
    have es := oBin_sub (P := Tryd.prog) (W := W') (t := 3) (c := false) (d := true) (a := ((m + 1 : Nat) : Int)) (b := 1) (by omega) (by omega)
    rw [e2] at es
    simp only [SX, h0, h1, str_len len9, hlen, e1, es, e0, setHas_ok hb, e3]
    cases hp : inS S l[m]
    · simp only [SX, show (S.any fun x => x == l[m]) = false from hp, Ok_some]
      refine .inr ⟨by simp, trivial, trivial, ?_⟩
      show R 0 = _
      rw [h0, ← rtrim_take ha, ← List.take_append_getElem hml]
      unfold rtrim
      rw [List.reverse_append, List.reverse_singleton, List.singleton_append, List.dropWhile_cons, hp]
      simp
    · simp only [SX, show (S.any fun x => x == l[m]) = true from hp, Ok_some]
      refine .inl ⟨trivial, trivial, by rw [hm2]; rfl, h1, ?_⟩
      rw [hm2, List.drop_eq_getElem_cons hml]
      intro c hc
      rcases List.mem_cons.1 hc with h | h
      · rw [h]; exact hp
      · exact ha c h
  · rintro R W' ⟨rfl, h0, h1, ha⟩
    unfold strings_trimRightASCII_L1
    rw [Nat.sub_self, List.take_zero] at h0
    rw [Nat.sub_self, List.drop_zero] at ha
    have e1 : ¬ (0 : Int) < (([] : List UInt8).length : Int) := by simp
    simp only [SX, h0, h1, str_len len9, e1, Ok_some]
    refine ⟨by simp, trivial, trivial, ?_⟩
    show R 0 = _
    rw [h0, ← rtrim_take (n := 0) (by simpa using ha)]; rfl
  · rintro ⟨x, R, W'⟩ ⟨hW, hx, h0⟩
    simp only at hW hx h0
    subst hW hx
    simp only [SX, Ok_some, h0]
    exact ⟨trivial, .refl _⟩
theorem dropW_nil {p : UInt8 → Bool} : ∀ {l : List UInt8}, l.dropWhile p = [] ↔ ∀ c ∈ l, p c = true
  | [] => by simp
  | c :: l => by
    rw [List.dropWhile_cons]
    cases hp : p c
    · simp [hp]
    · simp [hp, dropW_nil]
theorem trim_nil {p : UInt8 → Bool} {l : List UInt8} : (((rtrim p l).dropWhile p) == []) = l.all p := by
  rw [Bool.eq_iff_iff, beq_iff_eq, dropW_nil, List.all_eq_true]
  unfold rtrim
  constructor
  · intro h
    have h2 : l.reverse.dropWhile p = [] := by
      cases hd : l.reverse.dropWhile p with
      | nil => rfl
      | cons x xs =>
        have := List.head_dropWhile_not (p := p) (l := l.reverse) (by rw [hd]; simp)
        rw [hd] at h
        have h3 := h x (by simp)
        simp only [hd, List.head_cons] at this
        rw [h3] at this; cases this
    rw [dropW_nil] at h2
    exact fun c hc => h2 c (List.mem_reverse.2 hc)
  · intro h c hc
    exact h c (by
      have := List.mem_reverse.1 hc
      have := (List.dropWhile_sublist p).subset this
      exact List.mem_reverse.1 this)
def charsN : List Nat := [97, 98, 99, 100, 101, 102, 103, 104, 105, 106, 107, 108, 109, 110, 111, 112, 113, 114, 115, 116, 117, 118, 119, 120, 121, 122, 48, 49, 50, 51, 52, 53, 54, 55, 56, 57, 45]
def charsL : List UInt8 := charsN.map UInt8.ofNat
theorem charsL_in : ∀ n, n < 256 → inS charsL (UInt8.ofNat n) = nameC (UInt8.ofNat n) := by decide +kernel
theorem charsL_name (c : UInt8) : inS charsL c = nameC c := by
  have := charsL_in c.toNat c.toNat_lt
  rwa [UInt8.ofNat_toNat] at this
theorem trim_ok {l : List UInt8} (hl : l.length < 1000) (h0 : l ≠ []) (W : AW) : omS (.func (.func 98) #[] #[]) [.string (bytesL l), strV charsN] W = some (.string (bytesL ((rtrim (inS charsL) l).dropWhile (inS charsL))), W) := by
  refine om_drop rfl ?_ strings_Trim_om
  unfold strings_Trim
  have hs := mkSet_ok (l := charsL) (by decide) (by decide +kernel) W
  have e1 : (l == []) = false := by simpa using h0
  have e2 : (charsL == []) = false := by decide +kernel
  have e3 : ¬ ((charsL.length : Int) = 1) := by decide +kernel
  have hz : (setL []).length = 256 := setL_len []
  have hst : stV 256 (.pointer (some ⟨W.next, 0, none⟩)) (.agg (setL charsL).toArray) (W.add (.cells (setL []))) = some (undef, (W.add (.cells (setL []))).put W.next (.cells (setL charsL))) := by
    rw [stV_agg, rwCells_new]
    simp only [Option.bind_some, List.size_toArray, setL_len, Nat.zero_add, Nat.le_refl, setL_one, and_self, if_true, setN, List.take_zero, List.nil_append]
    rw [List.drop_of_length_le (by simp [setL_len]), List.append_nil]
  have hc : cellsAt ((W.add (.cells (setL []))).put W.next (.cells (setL charsL))) W.next = some (setL charsL) := cellsAt_put _
  have hr := trimR_ok (l := l) hc hl
  have hlt : (rtrim (inS charsL) l).length < 1000 := by
    have := (List.dropWhile_sublist (inS charsL) (l := l.reverse)).length_le
    unfold rtrim
    rw [List.length_reverse]
    rw [List.length_reverse] at this
    omega
  have hL := trimL_ok hc hlt
  show Ok _ _
  rw [strV_L]
  change omS (.func (.func 117) #[] #[]) [.string (bytesL (charsN.map UInt8.ofNat))] W = _ at hs
  simp only [SX, strV_L, List.map_nil, str_eql, e1, str_len len9]
  simp only [SX, show (charsN.map UInt8.ofNat == []) = false from e2, show ¬ (((charsN.map UInt8.ofNat).length : Int) = 1) from e3, hs, al156, hst, hr, hL, Ok_some]
  exact ⟨trivial, ((Le.refl _).add _).put (Nat.le_refl _) _⟩
theorem name_ok (l : List UInt8) (W : AW) : omS (.func (.func 76) #[] #[]) [.string (bytesL l)] W = some (.bool (nameL l), W) := by
  refine om_drop rfl ?_ words_Name_om
  unfold words_Name
  cases l with
  | nil =>
    simp only [SX, strV_L, List.map_nil, str_eql, BEq.rfl, Ok_some]
    exact ⟨rfl, .refl _⟩
  | cons c l =>
    have e1 : (c :: l == []) = false := rfl
    have e0 : oIndex Tryd.prog 9 (.string (bytesL (c :: l))) (.int .i64 0) W = some (.int .u8 (c.toNat : Int), W) := by
      have := str_index (P := Tryd.prog) (W := W) (k := .i64) un9 (l := c :: l) (i := 0) (by simp)
      simpa using this
    by_cases h1 : (16 : Int) < (((c :: l).length : Nat) : Int)
    · simp only [SX, strV_L, List.map_nil, str_eql, e1, str_len len9, h1, Ok_some]
      refine ⟨?_, .refl _⟩
      have : decide ((c :: l).length ≤ 16) = false := by simpa using (by omega : ¬ ((c :: l).length ≤ 16))
      simp only [nameL, this, Bool.and_false, Bool.false_and]
    · have h16 : decide ((c :: l).length ≤ 16) = true := by simpa using (by omega : ((c :: l).length ≤ 16))
      by_cases h2 : (c.toNat : Int) < 97
      · simp only [SX, strV_L, List.map_nil, str_eql, e1, str_len len9, h1, e0, h2, Ok_some]
        refine ⟨?_, .refl _⟩
        have : decide (97 ≤ c.toNat) = false := by simpa using (by omega : ¬ (97 ≤ c.toNat))
        simp only [nameL, this, Bool.and_false, Bool.false_and]
      · by_cases h3 : (122 : Int) < (c.toNat : Int)
        · simp only [SX, strV_L, List.map_nil, str_eql, e1, str_len len9, h1, e0, h2, h3, Ok_some]
          refine ⟨?_, .refl _⟩
          have : decide (c.toNat ≤ 122) = false := by simpa using (by omega : ¬ (c.toNat ≤ 122))
          simp only [nameL, this, Bool.and_false, Bool.false_and]
        · have ht := trim_ok (l := c :: l) (by omega) (by simp) W
          have hv : (strV [97, 98, 99, 100, 101, 102, 103, 104, 105, 106, 107, 108, 109, 110, 111, 112, 113, 114, 115, 116, 117, 118, 119, 120, 121, 122, 48, 49, 50, 51, 52, 53, 54, 55, 56, 57, 45]) = strV charsN := rfl
          rw [hv]
          simp only [SX, strV_L [], List.map_nil, str_eql, e1, str_len len9, h1, e0, h2, h3, ht, trim_nil, Ok_some]
          refine ⟨?_, .refl _⟩
          have i1 : decide (97 ≤ c.toNat) = true := by simpa using (by omega : (97 ≤ c.toNat))
          have i2 : decide (c.toNat ≤ 122) = true := by simpa using (by omega : (c.toNat ≤ 122))
          have i3 : inS charsL = nameC := funext charsL_name
          simp only [nameL, i1, i2, i3, h16, Bool.true_and]
end Go.Proofs.YtfcfglpkgcheiaaDoor
/- Names in the document's answer. -/
namespace Go.Proofs.YtfcfglpkgcheiaaDoor
open Go Go.Eng
set_option linter.unusedVariables false
set_option linter.unusedSimpArgs false
set_option maxRecDepth 100000
def lowC (c : UInt8) : Bool := decide (97 ≤ c.toNat) && decide (c.toNat ≤ 122)
def digC (c : UInt8) : Bool := decide (48 ≤ c.toNat) && decide (c.toNat ≤ 57)
end Go.Proofs.YtfcfglpkgcheiaaDoor
/- Venues: how they lie, and what is wrong with them. -/
namespace Go.Proofs.YtfcfglpkgcheiaaDoor
open Go Go.Eng
set_option linter.unusedVariables false
set_option linter.unusedSimpArgs false
set_option maxRecDepth 100000
structure Sec where
  name : List UInt8
  rows : List Int
  q : Int
structure Ven where
  sh : Int
  ttl : Int
  ses : Int
  secs : List Sec
def SecAt (W : AW) (cs : List Value) (p : Nat) (s : Sec) : Prop := cs[p]? = some (.string (bytesL s.name)) ∧ cs[p + 2]? = some (.int .i64 s.q) ∧ ∃ rv, cs[p + 1]? = some rv ∧ Ints W rv s.rows
abbrev Secs (W : AW) (v : Value) (l : List Sec) : Prop := Row W 3 (SecAt W) v l
theorem Row.imp {α : Type} {W W' : AW} {z : Nat} {f g : List Value → Nat → α → Prop} {v : Value} {l : List α} (h : Row W z f v l) (hle : Le W W') (hfg : ∀ cs p a, f cs p a → g cs p a) : Row W' z g v l := by
  obtain ⟨a, c, rfl, k⟩ := h.mono hle
  refine ⟨a, c, rfl, ?_⟩
  rcases k with h | ⟨b, o, cs, h1, h2, h3, h4⟩
  · exact .inl h
  · exact .inr ⟨b, o, cs, h1, h2, h3, fun i hi => hfg _ _ _ (h4 i hi)⟩
theorem Secs.mono {W W' : AW} {v : Value} {l : List Sec} (h : Secs W v l) (hle : Le W W') : Secs W' v l :=
  Row.imp h hle fun cs p s ⟨h1, h2, rv, h3, h4⟩ => ⟨h1, h2, rv, h3, h4.mono hle⟩
theorem take3 {cs : List Value} {p : Nat} {a b c : Value} (h0 : cs[p]? = some a) (h1 : cs[p + 1]? = some b) (h2 : cs[p + 2]? = some c) : (cs.drop p).take 3 = [a, b, c] := by
  obtain ⟨i0, e0⟩ := List.getElem?_eq_some_iff.1 h0
  obtain ⟨i1, e1⟩ := List.getElem?_eq_some_iff.1 h1
  obtain ⟨i2, e2⟩ := List.getElem?_eq_some_iff.1 h2
  rw [List.drop_eq_getElem_cons i0, List.drop_eq_getElem_cons i1, List.drop_eq_getElem_cons i2, e0, e1, e2]
  rfl
abbrev secV (s : Sec) (rv : Value) : Value := .agg #[.string (bytesL s.name), rv, .int .i64 s.q]
theorem Secs.get {W : AW} {v : Value} {l : List Sec} (h : Secs W v l) {i : Nat} (hi : i < l.length) : ∃ b o rv, (∀ W' k, ixS 3 v (.int k (i : Int)) W' = some (.pointer (some ⟨b, o, none⟩), W')) ∧ Ints W rv l[i].rows ∧
    (∀ W', Le W W' → ldA 3 (.pointer (some ⟨b, o, none⟩)) W' = some (secV l[i] rv, W')) ∧ (∀ W', Le W W' → ldC (.pointer (some ⟨b, o, none⟩)) W' = some (.string (bytesL l[i].name), W')) ∧
    (∀ W', Le W W' → ldC (.pointer (some ⟨b, o + 1, none⟩)) W' = some (rv, W')) ∧ (∀ W', Le W W' → ldC (.pointer (some ⟨b, o + 2, none⟩)) W' = some (.int .i64 l[i].q, W')) := by
  obtain ⟨b, o, cs, h1, h2, h3, h4, h5, rv, h6, h7⟩ := h.elem hi
  refine ⟨b, o, rv, h1, h7, fun W' hle => ?_, fun W' hle => ldC_ok (by rw [hle.cellsAt h2]; exact h3) h4, fun W' hle => ldC_ok (by rw [hle.cellsAt h2]; exact h3) h6, fun W' hle => ldC_ok (by rw [hle.cellsAt h2]; exact h3) h5⟩
  rw [ldA_eq, hle.cellsAt h2, h3]
  simp only [Option.bind_some, take3 h4 h6 h5, List.length_cons, List.length_nil, if_true]
/-- what is wrong with a section -/
def secE (s : Sec) (before : List Sec) : Int :=
  if nameL s.name = false then 6 else if (before.any fun x => x.name == s.name) = true then 8 else if s.rows.length = 0 then 6 else if 16 < s.rows.length then 3 else
  if (s.rows.any fun n => outB n 1 64) = true then 7 else if outB s.q 0 64 = true then 7 else 0
/-- the first that is wrong -/
def badK (l : List Sec) : Nat → Option (Nat × Int)
  | 0 => none
  | k + 1 => match badK l k with
    | some r => some r
    | none => match l[k]? with
      | some s => if secE s (l.take k) = 0 then none else some (k, secE s (l.take k))
      | none => none
theorem badK_mono {l : List Sec} {k n : Nat} {r : Nat × Int} (h : badK l k = some r) (hn : k ≤ n) : badK l n = some r := by
  induction n with
  | zero => obtain rfl : k = 0 := by omega
            exact h
  | succ n ih =>
    by_cases hk : k = n + 1
    · rw [← hk]; exact h
    · show (match badK l n with | some r => some r | none => _) = _
      rw [ih (by omega)]
def sumI (l : List Int) : Int := l.foldr (· + ·) 0
theorem sumI_app (l : List Int) (n : Int) : sumI (l ++ [n]) = sumI l + n := by
  induction l with
  | nil => simp [sumI]
  | cons a l ih => simp only [sumI, List.cons_append, List.foldr_cons] at ih ⊢; omega
def total (l : List Sec) : Int := sumI (l.map fun s => sumI s.rows)
def headBad (v : Ven) : Bool := outB v.sh 1 16 || outB v.ttl 1 1000000000 || outB v.ses 1 1000000000
/-- what is wrong with a venue -/
def venE (v : Ven) : Int × Int :=
  if headBad v = true then (-1, 7) else if v.secs.length = 0 then (-1, 6) else if 8 < v.secs.length then (-1, 3) else
  match badK v.secs v.secs.length with
  | some (i, e) => ((i : Int), e)
  | none => if 4096 < total v.secs then (-1, 3) else (0, 0)
abbrev venV (v : Ven) (sv : Value) : Value := .agg #[.int .i64 v.sh, .int .i64 v.ttl, .int .i64 v.ses, sv]
/-- the slice of sections, whose capacity is known -/
def SecsC (W : AW) (sv : Value) (l : List Sec) : Prop := Secs W sv l ∧ (∃ a c, sv = .slice a l.length c ∧ l.length ≤ c ∧ c < BIG ∧ (l ≠ [] → ∃ b o, a = some ⟨b, o, none⟩))
theorem SecsC.mono {W W' : AW} {v : Value} {l : List Sec} (h : SecsC W v l) (hle : Le W W') : SecsC W' v l := ⟨h.1.mono hle, h.2⟩
theorem Row.take {α : Type} {W : AW} {z : Nat} {f : List Value → Nat → α → Prop} {b o c : Nat} {l : List α} (h : Row W z f (.slice (some ⟨b, o, none⟩) l.length c) l) {k : Nat} (hk : k ≤ l.length) (h0 : l ≠ []) : Row W z f (.slice (some ⟨b, o, none⟩) k c) (l.take k) := by
  obtain ⟨a, c', he, h⟩ := h
  injection he with e1 e2 e3
  subst e1 e3
  refine ⟨_, c, by rw [List.length_take, Nat.min_eq_left hk], ?_⟩
  rcases h with h | ⟨b', o', cs, h1, h2, h3, h4⟩
  · exact absurd h h0
  · refine .inr ⟨b', o', cs, h1, h2, h3, fun i hi => ?_⟩
    rw [List.getElem_take]
    exact h4 i (by rw [List.length_take] at hi; omega)
theorem sl34 : sliceZ Tryd.prog 34 = some 3 := by kernel_rfl
theorem SecsC.pre {W : AW} {sv : Value} {l : List Sec} (h : SecsC W sv l) {k : Nat} (hk : k < l.length) : ∃ u, (∀ W', oSlice Tryd.prog 34 sv none (some (.int .i64 (k : Int))) none W' = some (u, W')) ∧ Secs W u (l.take k) := by
  obtain ⟨h1, a, c, rfl, h2, h3, h4⟩ := h
  have h0 : l ≠ [] := by intro e; rw [e] at hk; simp at hk
  obtain ⟨b, o, rfl⟩ := h4 h0
  exact ⟨_, fun W' => oSlice_to sl34 (by omega) h3, Row.take h1 (by omega) h0⟩
theorem al62 (W : AW) : oAlloc Tryd.prog 62 W = some (.pointer (some ⟨W.next, 0, none⟩), W.add (.cells [.string (bytesL []), .slice none 0 0, .int .i64 0])) := Eq.trans (by kernel_rfl) rfl
end Go.Proofs.YtfcfglpkgcheiaaDoor
/- What is wrong with a section: both answers. -/
namespace Go.Proofs.YtfcfglpkgcheiaaDoor
open Go Go.Eng
set_option linter.unusedVariables false
set_option linter.unusedSimpArgs false
set_option maxRecDepth 100000
def idxI {α : Type} (p : α → Bool) (l : List α) : Int := match l.findIdx? p with
  | some i => (i : Int)
  | none => -1
theorem idxI_some {α : Type} {p : α → Bool} {l : List α} {k : Nat} (hk : k < l.length) (h1 : p l[k] = true) (h2 : (l.take k).any p = false) : idxI p l = (k : Int) := by
  have : l.findIdx? p = some k := by
    rw [List.findIdx?_eq_some_iff_getElem]
    refine ⟨hk, h1, fun j hj => ?_⟩
    rw [List.any_eq_false] at h2
    exact h2 _ (by rw [List.mem_take_iff_getElem]; exact ⟨j, by omega, rfl⟩)
  unfold idxI
  rw [this]
theorem idxI_none {α : Type} {p : α → Bool} {l : List α} (h : l.any p = false) : idxI p l = -1 := by
  have : l.findIdx? p = none := by
    rw [List.findIdx?_eq_none_iff]
    intro x hx
    rw [List.any_eq_false] at h
    simpa using h x hx
  unfold idxI
  rw [this]
theorem any_take {α : Type} {p : α → Bool} {l : List α} {k : Nat} (hk : k < l.length) (h1 : p l[k] = false) (h2 : (l.take k).any p = false) : (l.take (k + 1)).any p = false := by
  rw [← List.take_append_getElem hk, List.any_append, h2]
  simpa using h1
theorem any_some {α : Type} {p : α → Bool} {l : List α} {k : Nat} (hk : k < l.length) (h1 : p l[k] = true) : l.any p = true := by
  rw [List.any_eq_true]; exact ⟨_, List.getElem_mem hk, h1⟩
theorem idxI_pos {α : Type} {p : α → Bool} {l : List α} : decide (0 ≤ idxI p l) = l.any p := by
  unfold idxI
  cases h : l.findIdx? p with
  | none =>
    rw [List.findIdx?_eq_none_iff] at h
    have : l.any p = false := by rw [List.any_eq_false]; intro x hx; simpa using h x hx
    rw [this]; rfl
  | some i =>
    rw [List.findIdx?_eq_some_iff_getElem] at h
    obtain ⟨h1, h2, h3⟩ := h
    rw [any_some h1 h2]; simp
theorem idxSec_ok {f v : Value} {p : Sec → Bool} {l : List Sec} {W : AW} (h : Secs W v l) (hl : l.length < 1000) (hp : ∀ s rv, omS f [secV s rv] W = some (.bool (p s), W)) : omS (.func (.func 99) #[] #[]) [v, f] W = some (.int .i64 (idxI p l), W) := by
  refine om_drop rfl ?_ slices_IndexFuncapi_VnSectionapi_VnSection_om
  unfold slices_IndexFuncapi_VnSectionapi_VnSection
  simp only [SX, h.len lenS]
  refine Ok_loop l.length (by omega) (fun k R W' => W' = W ∧ R 0 = v ∧ R 1 = f ∧ R 7 = .int .i64 (l.length : Int) ∧ R 8 = .int .i64 (k : Int) ∧ (l.take k).any p = false)
    (fun r => r.2.2 = W ∧ ((r.1 = .exit 0 ∧ idxI p l = -1) ∨ (r.1 = .ret ∧ r.2.1 4 = .int .i64 (idxI p l)))) ⟨rfl, rfl, rfl, rfl, rfl, rfl⟩ ?_ ?_ ?_
  · rintro k R W' hk ⟨rfl, h0, h1, h7, h8, ha⟩
    unfold slices_IndexFuncapi_VnSectionapi_VnSection_L1
    obtain ⟨b, o, rv, g1, g2, g3, _⟩ := h.get hk
    have e1 : ((k : Int) < (l.length : Int)) := by omega
    have e2 : (k : Int) + 1 = ((k + 1 : Nat) : Int) := by omega
    have ea := oBin_add (P := Tryd.prog) (W := W') (t := 3) (c := false) (d := true) (a := (k : Int)) (b := 1) (by omega) (by omega)
    simp only [SX, h0, h1, h7, h8, e1, g1, g3 _ (.refl _), hp]
    cases hx : p l[k]
    · simp only [SX, ea, Ok_some]
      exact .inl ⟨trivial, trivial, h0, h1, h7, by rw [← e2]; rfl, any_take hk hx ha⟩
    · simp only [SX, Ok_some]
      exact .inr ⟨by simp, trivial, .inr ⟨trivial, by rw [idxI_some hk hx ha]; rfl⟩⟩
  · rintro R W' ⟨rfl, h0, h1, h7, h8, ha⟩
    unfold slices_IndexFuncapi_VnSectionapi_VnSection_L1
    have e1 : ¬ ((l.length : Int) < (l.length : Int)) := by omega
    rw [List.take_length] at ha
    simp only [SX, h7, h8, e1, Ok_some]
    exact ⟨by simp, trivial, .inl ⟨trivial, idxI_none ha⟩⟩
  · rintro ⟨x, R, W'⟩ ⟨hW, hq⟩
    simp only at hW hq
    subst hW
    rcases hq with ⟨rfl, hq⟩ | ⟨rfl, h4⟩
    · simp only [SX, Ok_some, hq]
      exact ⟨trivial, .refl _⟩
    · simp only [SX, Ok_some, h4]
      exact ⟨trivial, .refl _⟩
theorem idxInt_ok {f v : Value} {p : Int → Bool} {l : List Int} {W : AW} (h : Ints W v l) (hl : l.length < 1000) (hp : ∀ n, omS f [.int .i64 n] W = some (.bool (p n), W)) : omS (.func (.func 100) #[] #[]) [v, f] W = some (.int .i64 (idxI p l), W) := by
  refine om_drop rfl ?_ slices_IndexFuncintint_om
  unfold slices_IndexFuncintint
  simp only [SX, h.len lenI]
  refine Ok_loop l.length (by omega) (fun k R W' => W' = W ∧ R 0 = v ∧ R 1 = f ∧ R 7 = .int .i64 (l.length : Int) ∧ R 8 = .int .i64 (k : Int) ∧ (l.take k).any p = false)
    (fun r => r.2.2 = W ∧ ((r.1 = .exit 0 ∧ idxI p l = -1) ∨ (r.1 = .ret ∧ r.2.1 4 = .int .i64 (idxI p l)))) ⟨rfl, rfl, rfl, rfl, rfl, rfl⟩ ?_ ?_ ?_
  · rintro k R W' hk ⟨rfl, h0, h1, h7, h8, ha⟩
    unfold slices_IndexFuncintint_L1
    obtain ⟨q, g1, g2⟩ := h.get hk
    have e1 : ((k : Int) < (l.length : Int)) := by omega
    have e2 : (k : Int) + 1 = ((k + 1 : Nat) : Int) := by omega
    have ea := oBin_add (P := Tryd.prog) (W := W') (t := 3) (c := false) (d := true) (a := (k : Int)) (b := 1) (by omega) (by omega)
    simp only [SX, h0, h1, h7, h8, e1, g1, g2 _ (.refl _), hp]
    cases hx : p l[k]
    · simp only [SX, ea, Ok_some]
      exact .inl ⟨trivial, trivial, h0, h1, h7, by rw [← e2]; rfl, any_take hk hx ha⟩
    · simp only [SX, Ok_some]
      exact .inr ⟨by simp, trivial, .inr ⟨trivial, by rw [idxI_some hk hx ha]; rfl⟩⟩
  · rintro R W' ⟨rfl, h0, h1, h7, h8, ha⟩
    unfold slices_IndexFuncintint_L1
    have e1 : ¬ ((l.length : Int) < (l.length : Int)) := by omega
    rw [List.take_length] at ha
    simp only [SX, h7, h8, e1, Ok_some]
    exact ⟨by simp, trivial, .inl ⟨trivial, idxI_none ha⟩⟩
  · rintro ⟨x, R, W'⟩ ⟨hW, hq⟩
    simp only at hW hq
    subst hW
    rcases hq with ⟨rfl, hq⟩ | ⟨rfl, h4⟩
    · simp only [SX, Ok_some, hq]
      exact ⟨trivial, .refl _⟩
    · simp only [SX, Ok_some, h4]
      exact ⟨trivial, .refl _⟩
theorem hasSec_ok {f v : Value} {p : Sec → Bool} {l : List Sec} {W : AW} (h : Secs W v l) (hl : l.length < 1000) (hp : ∀ s rv, omS f [secV s rv] W = some (.bool (p s), W)) : omS (.func (.func 77) #[] #[]) [v, f] W = some (.bool (l.any p), W) := by
  refine om_drop rfl ?_ slices_ContainsFuncapi_VnSectionapi_VnSection_om
  unfold slices_ContainsFuncapi_VnSectionapi_VnSection
  simp only [SX, idxSec_ok h hl hp, idxI_pos, Ok_some]
  exact ⟨trivial, .refl _⟩
theorem hasInt_ok {f v : Value} {p : Int → Bool} {l : List Int} {W : AW} (h : Ints W v l) (hl : l.length < 1000) (hp : ∀ n, omS f [.int .i64 n] W = some (.bool (p n), W)) : omS (.func (.func 79) #[] #[]) [v, f] W = some (.bool (l.any p), W) := by
  refine om_drop rfl ?_ slices_ContainsFuncintint_om
  unfold slices_ContainsFuncintint
  simp only [SX, idxInt_ok h hl hp, idxI_pos, Ok_some]
  exact ⟨trivial, .refl _⟩
theorem outRow_ok (n : Int) (W : AW) : omS (.func (.func 80) #[] #[]) [.int .i64 n] W = some (.bool (outB n 1 64), W) := by
  refine om_drop rfl ?_ venue_check_2_om
  unfold venue_check_2
  simp only [SX, outsideint_ok, Ok_some]
  exact ⟨trivial, .refl _⟩
theorem oBox3 (a b c : Value) (W : AW) : oBox (.agg #[a, b, c]) W = some (.pointer (some ⟨W.next, 0, none⟩), W.add (.cells [a, b, c])) := oBox_agg _
theorem sameName_ok {c : Nat} {m : List UInt8} {W : AW} (hc : ∀ W', Le W W' → ldC (.pointer (some ⟨c, 0, none⟩)) W' = some (.string (bytesL m), W')) (s : Sec) (rv : Value) :
    omS (.func (.func 78) #[] #[.pointer (some ⟨c, 0, none⟩)]) [secV s rv] W = some (.bool (s.name == m), W) := by
  refine om_drop rfl ?_ venue_check_1_om
  unfold venue_check_1
  have h0 := hc _ ((Le.refl W).add (.cells [.string (bytesL s.name), rv, .int .i64 s.q]))
  have h1 : ldC (.pointer (some ⟨W.next, 0, none⟩)) (W.add (.cells [.string (bytesL s.name), rv, .int .i64 s.q])) = some (.string (bytesL s.name), W.add (.cells [.string (bytesL s.name), rv, .int .i64 s.q])) := ldC_ok cellsAt_new rfl
  simp only [SX, oBox3, h0, h1, Nat.zero_add, str_eql, Ok_some]
  exact ⟨trivial, (Le.refl _).add _⟩
theorem check_ok' {s : Sec} {rv bv : Value} {before : List Sec} {W : AW} (hs : Ints W rv s.rows) (hb : Secs W bv before) (hl : before.length < 1000) : omS (.func (.func 60) #[] #[]) [secV s rv, bv] W = some (.int .i64 (secE s before), W) := by
  refine om_drop rfl ?_ venue_check_om
  unfold venue_check
  have hle : Le W (W.add (.cells [.string (bytesL s.name), rv, .int .i64 s.q])) := (Le.refl W).add _
  simp only [SX, oBox3, Nat.zero_add]
  generalize hW1 : W.add (.cells [.string (bytesL s.name), rv, .int .i64 s.q]) = W1 at *
  have hcs : cellsAt W1 W.next = some [.string (bytesL s.name), rv, .int .i64 s.q] := by rw [← hW1]; exact cellsAt_new
  have hn : W.next < W1.next := by rw [← hW1, AW.add_next]; omega
  have h0 : ∀ W', Le W1 W' → ldC (.pointer (some ⟨W.next, 0, none⟩)) W' = some (.string (bytesL s.name), W') := fun W' k => ldC_ok (by rw [k.cellsAt hn]; exact hcs) rfl
  have h1 : ldC (.pointer (some ⟨W.next, 1, none⟩)) W1 = some (rv, W1) := ldC_ok hcs rfl
  have h2 : ldC (.pointer (some ⟨W.next, 2, none⟩)) W1 = some (.int .i64 s.q, W1) := ldC_ok hcs rfl
  have hf := hasSec_ok (W := W1) (hb.mono hle) hl (p := fun x => x.name == s.name) (fun x rv => sameName_ok h0 x rv)
  unfold secE
  cases n1 : nameL s.name
  · simp only [SX, h0 _ (.refl _), name_ok, n1, if_true, Ok_some]
    exact ⟨trivial, hle⟩
  · cases n2 : before.any fun x => x.name == s.name
    · by_cases n3 : s.rows.length = 0
      · have e : ((s.rows.length : Int) = 0) := by omega
        simp only [SX, h0 _ (.refl _), name_ok, n1, hf, n2, h1, (hs.mono hle).len lenI, e, if_pos n3, if_true, if_false, Bool.true_eq_false, Bool.false_eq_true, Ok_some]
        exact ⟨trivial, hle⟩
      · have e : ¬ ((s.rows.length : Int) = 0) := by omega
        by_cases n4 : 16 < s.rows.length
        · have e2 : ((16 : Int) < (s.rows.length : Int)) := by omega
          simp only [SX, h0 _ (.refl _), name_ok, n1, hf, n2, h1, (hs.mono hle).len lenI, e, n3, e2, n4, if_true, if_false, Bool.true_eq_false, Bool.false_eq_true, Ok_some]
          exact ⟨trivial, hle⟩
        · have e2 : ¬ ((16 : Int) < (s.rows.length : Int)) := by omega
          have hg := hasInt_ok (W := W1) (hs.mono hle) (by omega) (p := fun n => outB n 1 64) (fun n => outRow_ok n W1)
          cases n5 : s.rows.any fun n => outB n 1 64
          · cases n6 : outB s.q 0 64
            · simp only [SX, h0 _ (.refl _), name_ok, n1, hf, n2, h1, (hs.mono hle).len lenI, e, n3, e2, n4, hg, n5, h2, outsideint_ok, n6, if_true, if_false, Bool.true_eq_false, Bool.false_eq_true, Ok_some]
              exact ⟨trivial, hle⟩
            · simp only [SX, h0 _ (.refl _), name_ok, n1, hf, n2, h1, (hs.mono hle).len lenI, e, n3, e2, n4, hg, n5, h2, outsideint_ok, n6, if_true, if_false, Bool.true_eq_false, Bool.false_eq_true, Ok_some]
              exact ⟨trivial, hle⟩
          · simp only [SX, h0 _ (.refl _), name_ok, n1, hf, n2, h1, (hs.mono hle).len lenI, e, n3, e2, n4, hg, n5, if_true, if_false, Bool.true_eq_false, Bool.false_eq_true, Ok_some]
            exact ⟨trivial, hle⟩
    · simp only [SX, h0 _ (.refl _), name_ok, n1, hf, n2, if_true, if_false, Bool.true_eq_false, Bool.false_eq_true, Ok_some]
      exact ⟨trivial, hle⟩
end Go.Proofs.YtfcfglpkgcheiaaDoor
/- What is wrong with a section: the document's answer. -/
namespace Go.Proofs.YtfcfglpkgcheiaaDoor
open Go Go.Eng
set_option linter.unusedVariables false
set_option linter.unusedSimpArgs false
set_option maxRecDepth 100000
theorem oBox4 (a b c d : Value) (W : AW) : oBox (.agg #[a, b, c, d]) W = some (.pointer (some ⟨W.next, 0, none⟩), W.add (.cells [a, b, c, d])) := oBox_agg _
theorem put_add_cells (W : AW) (cs ds : List Value) : (W.add (.cells cs)).put W.next (.cells ds) = W.add (.cells ds) := add_put W _ _
theorem stV3 {b : Nat} {a c d x y z : Value} {W : AW} (h : rwCells W b = some [x, y, z]) (h1 : one a = true) (h2 : one c = true) (h3 : one d = true) : stV 3 (.pointer (some ⟨b, 0, none⟩)) (.agg #[a, c, d]) W = some (undef, W.put b (.cells [a, c, d])) := by
  rw [stV_agg, h]
  have e : (#[a, c, d] : Array Value).toList.all one = true := by simp [h1, h2, h3]
  simp only [Option.bind_some, e, and_true]
  rfl
theorem Row.one {α : Type} {W : AW} {z : Nat} {f : List Value → Nat → α → Prop} {v : Value} {l : List α} (h : Row W z f v l) : one v = true := by
  obtain ⟨a, c, rfl, _⟩ := h; rfl
end Go.Proofs.YtfcfglpkgcheiaaDoor
/- What is wrong with a venue. -/
namespace Go.Proofs.YtfcfglpkgcheiaaDoor
open Go Go.Eng
set_option linter.unusedVariables false
set_option linter.unusedSimpArgs false
set_option maxRecDepth 100000
theorem secE_zero {s : Sec} {b : List Sec} (h : secE s b = 0) : nameL s.name = true ∧ (b.any fun x => x.name == s.name) = false ∧ s.rows.length ≠ 0 ∧ s.rows.length ≤ 16 ∧ (∀ n ∈ s.rows, 1 ≤ n ∧ n ≤ 64) ∧ 0 ≤ s.q ∧ s.q ≤ 64 := by
  unfold secE at h
  split at h
  · exact absurd h (by decide)
  rename_i h1
  split at h
  · exact absurd h (by decide)
  rename_i h2
  split at h
  · exact absurd h (by decide)
  rename_i h3
  split at h
  · exact absurd h (by decide)
  rename_i h4
  split at h
  · exact absurd h (by decide)
  rename_i h5
  split at h
  · exact absurd h (by decide)
  rename_i h6
  refine ⟨by simpa using h1, by simpa using h2, h3, by omega, ?_, ?_⟩
  · intro n hn
    have : outB n 1 64 = false := by
      cases ho : outB n 1 64
      · rfl
      · exact absurd (List.any_eq_true.2 ⟨n, hn, ho⟩) h5
    unfold outB at this
    simp only [Bool.or_eq_false_iff, decide_eq_false_iff_not] at this
    omega
  · unfold outB at h6
    simp only [Bool.or_eq_true, decide_eq_true_iff] at h6
    omega
theorem sumI_take {l : List Int} {k : Nat} (hk : k < l.length) : sumI (l.take (k + 1)) = sumI (l.take k) + l[k] := by
  rw [← List.take_append_getElem hk, sumI_app]
theorem total_take {l : List Sec} {k : Nat} (hk : k < l.length) : total (l.take (k + 1)) = total (l.take k) + sumI l[k].rows := by
  unfold total
  rw [List.map_take, List.map_take, sumI_take (by rw [List.length_map]; exact hk), List.getElem_map]
theorem sumI_bound {l : List Int} (h : ∀ n ∈ l, 1 ≤ n ∧ n ≤ 64) (k : Nat) : (0 ≤ sumI (l.take k) ∧ sumI (l.take k) ≤ 64 * k) ∧ (min k l.length : Int) ≤ sumI (l.take k) := by
  induction k with
  | zero => simp [sumI]; omega
  | succ k ih =>
    by_cases hk : k < l.length
    · rw [sumI_take hk]
      have := h _ (List.getElem_mem hk)
      omega
    · rw [List.take_of_length_le (by omega)] at ih ⊢
      omega
theorem badK_step {l : List Sec} {k : Nat} (h : badK l k = none) (hk : k < l.length) : badK l (k + 1) = if secE l[k] (l.take k) = 0 then none else some (k, secE l[k] (l.take k)) := by
  show (match badK l k with | some r => some r | none => match l[k]? with | some s => if secE s (l.take k) = 0 then none else some (k, secE s (l.take k)) | none => none) = _
  rw [h, List.getElem?_eq_getElem hk]
theorem badK_none {l : List Sec} {k : Nat} (h : badK l k = none) : ∀ i (hi : i < k) (hl : i < l.length), secE l[i] (l.take i) = 0 := by
  induction k with
  | zero => intro i hi; omega
  | succ k ih =>
    have h1 : badK l k = none := by
      cases hb : badK l k with
      | none => rfl
      | some r => rw [badK_mono hb (Nat.le_succ k)] at h; cases h
    intro i hi hl
    by_cases e : i = k
    · subst e
      rw [badK_step h1 hl] at h
      split at h
      · assumption
      · cases h
    · exact ih h1 i (by omega) hl
theorem total_bound {l : List Sec} {k : Nat} (h : badK l k = none) (hk : k ≤ l.length) : 0 ≤ total (l.take k) ∧ total (l.take k) ≤ 1024 * k := by
  induction k with
  | zero => simp [total, sumI]
  | succ k ih =>
    have h1 : badK l k = none := by
      cases hb : badK l k with
      | none => rfl
      | some r => rw [badK_mono hb (Nat.le_succ k)] at h; cases h
    have h2 := ih h1 (by omega)
    have hk' : k < l.length := by omega
    obtain ⟨_, _, _, h3, h4, _⟩ := secE_zero (badK_none h k (by omega) hk')
    rw [total_take hk']
    have h5 := (sumI_bound h4 l[k].rows.length).1
    rw [List.take_length] at h5
    omega
theorem venCheck_ok {v : Ven} {sv : Value} {W : AW} (hs : SecsC W sv v.secs) (hv : v.secs.length < 1000) : omS (.func (.func 42) #[] #[]) [venV v sv] W = some (.tuple #[.int .i64 (venE v).1, .int .i64 (venE v).2], W) := by
  refine om_drop rfl ?_ venue_Check_om
  unfold venue_Check
  have hle : Le W (W.add (.cells [.int .i64 v.sh, .int .i64 v.ttl, .int .i64 v.ses, sv])) := (Le.refl W).add _
  have hc : cellsAt (W.add (.cells [.int .i64 v.sh, .int .i64 v.ttl, .int .i64 v.ses, sv])) W.next = some [.int .i64 v.sh, .int .i64 v.ttl, .int .i64 v.ses, sv] := cellsAt_new
  have hn : W.next < (W.add (.cells [.int .i64 v.sh, .int .i64 v.ttl, .int .i64 v.ses, sv])).next := by rw [AW.add_next]; omega
  simp only [SX, oBox4, Nat.zero_add]
  generalize hW1 : W.add (.cells [.int .i64 v.sh, .int .i64 v.ttl, .int .i64 v.ses, sv]) = W1 at *
  have c0 : ldC (.pointer (some ⟨W.next, 0, none⟩)) W1 = some (.int .i64 v.sh, W1) := ldC_ok hc rfl
  have c1 : ldC (.pointer (some ⟨W.next, 1, none⟩)) W1 = some (.int .i64 v.ttl, W1) := ldC_ok hc rfl
  have c2 : ldC (.pointer (some ⟨W.next, 2, none⟩)) W1 = some (.int .i64 v.ses, W1) := ldC_ok hc rfl
  have c3 : ∀ W', Le W1 W' → ldC (.pointer (some ⟨W.next, 3, none⟩)) W' = some (sv, W') := fun W' k => ldC_ok (by rw [k.cellsAt hn]; exact hc) rfl
  simp only [SX, c0, outsideint_ok]
  unfold venE headBad
  cases n1 : outB v.sh 1 16
  case true => simp only [SX, Bool.true_or, if_true, Ok_some]; exact ⟨trivial, hle⟩
  simp only [SX, Nat.zero_add, c1, outsideint64_ok]
  cases n2 : outB v.ttl 1 1000000000
  case true => simp only [SX, Bool.true_or, Bool.or_true, if_true, Ok_some]; exact ⟨trivial, hle⟩
  simp only [SX, Nat.zero_add, c2, outsideint64_ok]
  cases n3 : outB v.ses 1 1000000000
  case true => simp only [SX, Bool.true_or, Bool.or_true, if_true, Ok_some]; exact ⟨trivial, hle⟩
  simp only [SX, Nat.zero_add, c3 _ (.refl _), hs.1.len lenS, Bool.or_self, Bool.false_eq_true, if_false]
  by_cases n4 : v.secs.length = 0
  case pos =>
    have e : ((v.secs.length : Int) = 0) := by omega
    simp only [SX, e, if_pos n4, Ok_some]; exact ⟨trivial, hle⟩
  have e4 : ¬ ((v.secs.length : Int) = 0) := by omega
  simp only [SX, e4, if_neg n4, Nat.zero_add, c3 _ (.refl _), hs.1.len lenS]
  by_cases n5 : 8 < v.secs.length
  case pos =>
    have e : ((8 : Int) < (v.secs.length : Int)) := by omega
    simp only [SX, e, if_pos n5, Ok_some]; exact ⟨trivial, hle⟩
  have e5 : ¬ ((8 : Int) < (v.secs.length : Int)) := by omega
  simp only [SX, e5, if_neg n5, Nat.zero_add, c3 _ (.refl _), hs.1.len lenS]
  refine Ok_loop v.secs.length (by omega) (fun k R W' => Le W1 W' ∧ R 1 = .pointer (some ⟨W.next, 0, none⟩) ∧ R 4 = .int .i64 (total (v.secs.take k)) ∧ R 35 = sv ∧ R 36 = .int .i64 (v.secs.length : Int) ∧ R 37 = .int .i64 (k : Int) ∧ badK v.secs k = none)
    (fun r => Le W1 r.2.2 ∧ ((r.1 = .exit 1 ∧ r.2.1 4 = .int .i64 (total v.secs) ∧ badK v.secs v.secs.length = none) ∨ (r.1 = .ret ∧ ∃ i e, r.2.1 2 = .int .i64 ((i : Nat) : Int) ∧ r.2.1 3 = .int .i64 e ∧ badK v.secs v.secs.length = some (i, e)))) ⟨.refl _, rfl, rfl, rfl, rfl, rfl, rfl⟩ ?_ ?_ ?_
  · rintro k R W' hk ⟨hl, h1, h4, h35, h36, h37, hb⟩
    unfold venue_Check_L1
    obtain ⟨b, o, rv, g1, g2, g3, _⟩ := hs.1.get hk
    obtain ⟨u, u1, u2⟩ := hs.pre hk
    have e1 : ((k : Int) < (v.secs.length : Int)) := by omega
    simp only [SX, h35, h36, h37, e1, g1, g3 _ (hle.trans hl), al62, stV3 rwCells_new (one_string _) (Row.one g2) (one_int _ _), put_add_cells]
    have hl2 : Le W1 (W'.add (.cells [.string (bytesL v.secs[k].name), rv, .int .i64 v.secs[k].q])) := hl.add _
    have hc2 : cellsAt (W'.add (.cells [.string (bytesL v.secs[k].name), rv, .int .i64 v.secs[k].q])) W'.next = some [.string (bytesL v.secs[k].name), rv, .int .i64 v.secs[k].q] := cellsAt_new
    generalize hW2 : W'.add (.cells [.string (bytesL v.secs[k].name), rv, .int .i64 v.secs[k].q]) = W2 at *
    have d3 : ldA 3 (.pointer (some ⟨W'.next, 0, none⟩)) W2 = some (secV v.secs[k] rv, W2) := ldA_all hc2 rfl
    have d1 : ldC (.pointer (some ⟨W'.next, 1, none⟩)) W2 = some (rv, W2) := ldC_ok hc2 rfl
    have hlr := (g2.mono (hle.trans hl2)).len (P := Tryd.prog) lenI
    simp only [SX, d3, h1, Nat.zero_add, c3 _ hl2, u1, check_ok' (g2.mono (hle.trans hl2)) (u2.mono (hle.trans hl2)) (by rw [List.length_take]; omega)]
    have hbs := badK_step hb hk
    by_cases hz : secE v.secs[k] (v.secs.take k) = 0
    · rw [if_pos hz] at hbs
      obtain ⟨_, _, _, hr1, hr2, _⟩ := secE_zero hz
      have htb := total_bound hb (by omega)
      simp only [SX, hz, d1, hlr]
      refine Ok_loop v.secs[k].rows.length (by omega) (fun j R' W3 => W3 = W2 ∧ R' 1 = .pointer (some ⟨W.next, 0, none⟩) ∧ R' 4 = .int .i64 (total (v.secs.take k) + sumI (v.secs[k].rows.take j)) ∧ R' 35 = sv ∧ R' 36 = .int .i64 (v.secs.length : Int) ∧ R' 37 = .int .i64 (k : Int) ∧ R' 53 = rv ∧ R' 54 = .int .i64 (v.secs[k].rows.length : Int) ∧ R' 55 = .int .i64 (j : Int))
        (fun r => r.2.2 = W2 ∧ r.1 = .exit 3 ∧ r.2.1 1 = .pointer (some ⟨W.next, 0, none⟩) ∧ r.2.1 4 = .int .i64 (total (v.secs.take (k + 1))) ∧ r.2.1 35 = sv ∧ r.2.1 36 = .int .i64 (v.secs.length : Int) ∧ r.2.1 37 = .int .i64 (k : Int)) ⟨rfl, h1, by rw [List.take_zero, show sumI [] = 0 from rfl, Int.add_zero]; exact h4, h35, h36, h37, rfl, rfl, rfl⟩ ?_ ?_ ?_
      · rintro j R' W3 hj ⟨rfl, h1, h4, h35, h36, h37, h53, h54, h55⟩
        unfold venue_Check_L1_L2
        obtain ⟨p, p1, p2⟩ := g2.get hj
        have e1 : ((j : Int) < (v.secs[k].rows.length : Int)) := by omega
        have e2 : (j : Int) + 1 = ((j + 1 : Nat) : Int) := by omega
        have ea := oBin_add (P := Tryd.prog) (W := W3) (t := 3) (c := false) (d := true) (a := (j : Int)) (b := 1) (by omega) (by omega)
        have hsb := (sumI_bound hr2 j).1
        have hsn := hr2 _ (List.getElem_mem hj)
        have eb := oBin_add (P := Tryd.prog) (W := W3) (t := 3) (c := false) (d := false) (a := total (v.secs.take k) + sumI (v.secs[k].rows.take j)) (b := v.secs[k].rows[j]) (by omega) (by omega)
        simp only [SX, h4, h53, h54, h55, e1, p1, p2 _ (hle.trans hl2), ea, eb, Ok_some]
        refine .inl ⟨trivial, trivial, h1, ?_, h35, h36, h37, h53, h54, by rw [← e2]; rfl⟩
        rw [sumI_take hj, ← Int.add_assoc]; rfl
      · rintro R' W3 ⟨rfl, h1, h4, h35, h36, h37, h53, h54, h55⟩
        unfold venue_Check_L1_L2
        have e1 : ¬ ((v.secs[k].rows.length : Int) < (v.secs[k].rows.length : Int)) := by omega
        simp only [SX, h54, h55, e1, Ok_some]
        refine ⟨by simp, trivial, trivial, h1, ?_, h35, h36, h37⟩
        rw [total_take hk]
        rw [List.take_length] at h4
        exact h4
      · rintro ⟨x, R', W3⟩ ⟨hW, rfl, h1, h4, h35, h36, h37⟩
        simp only at hW h1 h4 h35 h36 h37
        subst hW
        have e2 : (k : Int) + 1 = ((k + 1 : Nat) : Int) := by omega
        have ea := oBin_add (P := Tryd.prog) (W := W3) (t := 3) (c := false) (d := true) (a := (k : Int)) (b := 1) (by omega) (by omega)
        simp only [SX, h37, ea, Ok_some]
        exact .inl ⟨trivial, hl2, h1, h4, h35, h36, by rw [← e2]; rfl, hbs⟩
    · rw [if_neg hz] at hbs
      simp only [SX, hz, Ok_some]
      exact .inr ⟨by simp, hl2, .inr ⟨trivial, k, _, rfl, rfl, badK_mono hbs (by omega)⟩⟩
  · rintro R W' ⟨hl, h1, h4, h35, h36, h37, hb⟩
    unfold venue_Check_L1
    have e1 : ¬ ((v.secs.length : Int) < (v.secs.length : Int)) := by omega
    rw [List.take_length] at h4
    simp only [SX, h36, h37, e1, Ok_some]
    exact ⟨by simp, hl, .inl ⟨trivial, h4, hb⟩⟩
  · rintro ⟨x, R, W'⟩ ⟨hl, hq⟩
    simp only at hl hq
    rcases hq with ⟨rfl, h4, hb⟩ | ⟨rfl, i, e, h2, h3, hb⟩
    · rw [hb]
      by_cases n6 : 4096 < total v.secs
      · simp only [SX, h4, n6, if_true, Ok_some]
        exact ⟨trivial, hle.trans hl⟩
      · simp only [SX, h4, n6, if_false, Ok_some]
        exact ⟨trivial, hle.trans hl⟩
    · rw [hb]
      simp only [SX, h2, h3, Ok_some]
      exact ⟨trivial, hle.trans hl⟩
end Go.Proofs.YtfcfglpkgcheiaaDoor
/- The places of a venue. -/
namespace Go.Proofs.YtfcfglpkgcheiaaDoor
open Go Go.Eng
set_option linter.unusedVariables false
set_option linter.unusedSimpArgs false
set_option maxRecDepth 100000
abbrev Plc := Nat × Nat × Nat
def rowP (i k m : Nat) : List Plc := (List.range m).map fun j => (i, k, j)
def secP (i : Nat) (rows : List Int) (k : Nat) : List Plc := (List.range k).flatMap fun j => rowP i j (rows.getD j 0).toNat
def plcK (l : List Sec) (n : Nat) : List Plc := (List.range n).flatMap fun i => match l[i]? with
  | some s => secP i s.rows s.rows.length
  | none => []
def places (l : List Sec) : List Plc := plcK l l.length
theorem secP_succ (i : Nat) (rows : List Int) {k : Nat} (hk : k < rows.length) : secP i rows (k + 1) = secP i rows k ++ rowP i k rows[k].toNat := by
  unfold secP
  rw [List.range_succ, List.flatMap_append, List.flatMap_cons, List.flatMap_nil, List.append_nil, List.getD_eq_getElem?_getD, List.getElem?_eq_getElem hk, Option.getD_some]
theorem plcK_succ (l : List Sec) {n : Nat} (hn : n < l.length) : plcK l (n + 1) = plcK l n ++ secP n l[n].rows l[n].rows.length := by
  unfold plcK
  rw [List.range_succ, List.flatMap_append, List.flatMap_cons, List.flatMap_nil, List.append_nil, List.getElem?_eq_getElem hn]
structure Good (l : List Sec) : Prop where
  len : l.length ≤ 8
  rows : ∀ s ∈ l, s.rows.length ≠ 0 ∧ s.rows.length ≤ 16 ∧ ∀ n ∈ s.rows, 1 ≤ n ∧ n ≤ 64
theorem Good.of {l : List Sec} (h : l.length ≤ 8) (hb : badK l l.length = none) : Good l :=
  ⟨h, fun s hs => by
    obtain ⟨i, hi, rfl⟩ := List.getElem_of_mem hs
    obtain ⟨_, _, h3, h4, h5, _⟩ := secE_zero (badK_none hb i hi hi)
    exact ⟨h3, h4, h5⟩⟩
theorem rowP_len (i k m : Nat) : (rowP i k m).length = m := by simp [rowP]
theorem secP_len {i : Nat} {rows : List Int} (h : ∀ n ∈ rows, 1 ≤ n ∧ n ≤ 64) : ∀ {k : Nat}, k ≤ rows.length → ((secP i rows k).length : Int) = sumI (rows.take k)
  | 0, _ => by simp [secP, sumI]
  | k + 1, hk => by
    have hk' : k < rows.length := by omega
    rw [secP_succ i rows hk', List.length_append, rowP_len, sumI_take hk', ← secP_len (i := i) h (by omega : k ≤ rows.length)]
    have := h _ (List.getElem_mem hk')
    omega
theorem plcK_len {l : List Sec} (h : Good l) : ∀ {n : Nat}, n ≤ l.length → ((plcK l n).length : Int) = total (l.take n) ∧ (plcK l n).length ≤ 1024 * n
  | 0, _ => by simp [plcK, total, sumI]
  | n + 1, hn => by
    have hn' : n < l.length := by omega
    obtain ⟨h1, h2, h3⟩ := h.rows _ (List.getElem_mem hn')
    have ih := plcK_len h (by omega : n ≤ l.length)
    have hl := secP_len (i := n) h3 (Nat.le_refl _)
    have hb := (sumI_bound h3 l[n].rows.length).1
    rw [List.take_length] at hl hb
    rw [plcK_succ l hn', List.length_append, total_take hn']
    omega
def plcC (p : Plc) : List Value := [.int .i64 (p.1 : Int), .int .i64 (p.2.1 : Int), .int .i64 (p.2.2 : Int)]
def plcAt (cs : List Value) (p : Nat) (a : Plc) : Prop := cs[p]? = some (.int .i64 (a.1 : Int)) ∧ cs[p + 1]? = some (.int .i64 (a.2.1 : Int)) ∧ cs[p + 2]? = some (.int .i64 (a.2.2 : Int))
abbrev Plcs (W : AW) (v : Value) (l : List Plc) : Prop := Row W 3 plcAt v l
end Go.Proofs.YtfcfglpkgcheiaaDoor
/- What is wrong with a venue: the document's answer; how many seats there are. -/
namespace Go.Proofs.YtfcfglpkgcheiaaDoor
open Go Go.Eng
set_option linter.unusedVariables false
set_option linter.unusedSimpArgs false
set_option maxRecDepth 100000
theorem venE_good {v : Ven} (h : (venE v).2 = 0) : Good v.secs ∧ headBad v = false ∧ 0 < v.secs.length ∧ badK v.secs v.secs.length = none ∧ total v.secs ≤ 4096 ∧ (venE v).1 = 0 := by
  unfold venE at h ⊢
  split at h
  · exact absurd h (by decide)
  rename_i h1
  split at h
  · exact absurd h (by decide)
  rename_i h2
  split at h
  · exact absurd h (by decide)
  rename_i h3
  cases hb : badK v.secs v.secs.length with
  | some r =>
    obtain ⟨i, e⟩ := r
    rw [hb] at h
    simp only at h
    subst h
    exfalso
    -- what is wrong is not nought
    have : ∀ n, badK v.secs n ≠ some (i, 0) := by
      intro n
      induction n with
      | zero => simp [badK]
      | succ n ih =>
        intro hn
        have hn' : (match badK v.secs n with | some r => some r | none => match v.secs[n]? with | some s => if secE s (v.secs.take n) = 0 then none else some (n, secE s (v.secs.take n)) | none => none) = some (i, 0) := hn
        cases hbn : badK v.secs n with
        | some r => rw [hbn] at hn'; simp only at hn'; rw [hn'] at hbn; exact ih hbn
        | none =>
          rw [hbn] at hn'
          simp only at hn'
          split at hn'
          · split at hn'
            · cases hn'
            · rename_i hz; injection hn' with hn'; injection hn' with _ e; exact hz e
          · cases hn'
    exact this _ hb
  | none =>
    rw [hb] at h
    simp only at h ⊢
    split at h
    · exact absurd h (by decide)
    rename_i h4
    rw [if_neg h4, if_neg h1, if_neg h2, if_neg h3]
    exact ⟨Good.of (by omega) hb, by simpa using h1, by omega, trivial, by omega, rfl⟩
theorem venBox (v : Ven) (sv : Value) (W : AW) : ∃ W1, oBox (venV v sv) W = some (.pointer (some ⟨W.next, 0, none⟩), W1) ∧ Le W W1 ∧ W.next < W1.next ∧
    (∀ W', Le W1 W' → ldA 4 (.pointer (some ⟨W.next, 0, none⟩)) W' = some (venV v sv, W')) ∧ (∀ W', Le W1 W' → ldC (.pointer (some ⟨W.next, 0, none⟩)) W' = some (.int .i64 v.sh, W')) ∧ (∀ W', Le W1 W' → ldC (.pointer (some ⟨W.next, 3, none⟩)) W' = some (sv, W')) := by
  have hc : cellsAt (W.add (.cells [.int .i64 v.sh, .int .i64 v.ttl, .int .i64 v.ses, sv])) W.next = some [.int .i64 v.sh, .int .i64 v.ttl, .int .i64 v.ses, sv] := cellsAt_new
  have hn : W.next < (W.add (.cells [.int .i64 v.sh, .int .i64 v.ttl, .int .i64 v.ses, sv])).next := by rw [AW.add_next]; omega
  exact ⟨_, oBox4 _ _ _ _ W, (Le.refl W).add _, hn, fun W' k => ldA_all (by rw [k.cellsAt hn]; exact hc) rfl, fun W' k => ldC_ok (by rw [k.cellsAt hn]; exact hc) rfl, fun W' k => ldC_ok (by rw [k.cellsAt hn]; exact hc) rfl⟩
/-- how many seats -/
def seatsE (v : Ven) : Int × Int := if (venE v).2 = 0 then (total v.secs, 0) else (0, (venE v).2)
end Go.Proofs.YtfcfglpkgcheiaaDoor
/- The rows of a venue, one after another. -/
namespace Go.Proofs.YtfcfglpkgcheiaaDoor
open Go Go.Eng
set_option linter.unusedVariables false
set_option linter.unusedSimpArgs false
set_option maxRecDepth 100000
structure RowT where
  sec : Nat
  row : Nat
  first : Int
  many : Int
abbrev rowV (r : RowT) : Value := .agg #[.int .i64 (r.sec : Int), .int .i64 (r.row : Int), .int .i64 r.first, .int .i64 r.many]
/-- the first k rows of section i; the rows of the first n sections -/
def secR (l : List Sec) (i : Nat) (rows : List Int) (k : Nat) : List RowT := (List.range k).map fun j => ⟨i, j, total (l.take i) + sumI (rows.take j), rows.getD j 0⟩
def rowsK (l : List Sec) (n : Nat) : List RowT := (List.range n).flatMap fun i => match l[i]? with
  | some s => secR l i s.rows s.rows.length
  | none => []
def rowsL (l : List Sec) : List RowT := rowsK l l.length
theorem secR_succ (l : List Sec) (i : Nat) (rows : List Int) {k : Nat} (hk : k < rows.length) : secR l i rows (k + 1) = secR l i rows k ++ [⟨i, k, total (l.take i) + sumI (rows.take k), rows[k]⟩] := by
  unfold secR
  rw [List.range_succ, List.map_append, List.map_cons, List.map_nil, List.getD_eq_getElem?_getD, List.getElem?_eq_getElem hk, Option.getD_some]
theorem rowsK_succ (l : List Sec) {n : Nat} (hn : n < l.length) : rowsK l (n + 1) = rowsK l n ++ secR l n l[n].rows l[n].rows.length := by
  unfold rowsK
  rw [List.range_succ, List.flatMap_append, List.flatMap_cons, List.flatMap_nil, List.append_nil, List.getElem?_eq_getElem hn]
theorem secR_pre {l : List Sec} {i : Nat} {rows : List Int} {k n : Nat} (h : k ≤ n) (hn : n ≤ rows.length) : secR l i rows k <+: secR l i rows n := by
  induction n with
  | zero => obtain rfl : k = 0 := by omega
            exact List.prefix_refl _
  | succ n ih =>
    by_cases e : k = n + 1
    · subst e; exact List.prefix_refl _
    · rw [secR_succ l i rows (by omega)]
      exact (ih (by omega) (by omega)).trans (List.prefix_append _ _)
theorem rowsK_pre {l : List Sec} {k n : Nat} (h : k ≤ n) (hn : n ≤ l.length) : rowsK l k <+: rowsK l n := by
  induction n with
  | zero => obtain rfl : k = 0 := by omega
            exact List.prefix_refl _
  | succ n ih =>
    by_cases e : k = n + 1
    · subst e; exact List.prefix_refl _
    · rw [rowsK_succ l (by omega)]
      exact (ih (by omega) (by omega)).trans (List.prefix_append _ _)
theorem rows_pre {l : List Sec} {i k : Nat} (hi : i < l.length) (hk : k < l[i].rows.length) : (rowsK l i ++ secR l i l[i].rows k) ++ [⟨i, k, total (l.take i) + sumI (l[i].rows.take k), l[i].rows[k]⟩] <+: rowsL l := by
  rw [List.append_assoc, ← secR_succ l i _ hk]
  refine List.IsPrefix.trans ?_ (rowsK_pre (k := i + 1) (by omega) (Nat.le_refl _))
  rw [rowsK_succ l hi]
  exact (List.prefix_append_right_inj _).2 (secR_pre (by omega) (Nat.le_refl _))
theorem bd92 (a b c d : Int) (W : AW) : oBuild Tryd.prog 92 [(0, .int .i64 a), (1, .int .i64 b), (2, .int .i64 c), (3, .int .i64 d)] W = some (.agg #[.int .i64 a, .int .i64 b, .int .i64 c, .int .i64 d], W) := Eq.trans (by kernel_rfl) rfl
theorem rows_ok {v : Ven} {sv f : Value} {bx : Nat} {W0 W : AW} (hs : Secs W0 sv v.secs) (hg : Good v.secs) (hb : ldC (.pointer (some ⟨bx, 3, none⟩)) W = some (sv, W)) (I : List RowT → AW → Prop) (Q : AW → Prop)
    (hI : I [] W) (hS : ∀ pre W', I pre W' → Le W0 W') (hA : ∀ pre W' cs, I pre W' → I pre (W'.add (.cells cs)))
    (step : ∀ pre r W', pre ++ [r] <+: rowsL v.secs → I pre W' → ∃ b W2, omS f [rowV r] W' = some (.bool b, W2) ∧ (b = true → I (pre ++ [r]) W2) ∧ (b = false → Q W2)) :
    ∃ W2, omS (.func (.func 73) #[] #[.pointer (some ⟨bx, 0, none⟩)]) [f] W = some (.tuple #[], W2) ∧ (I (rowsL v.secs) W2 ∨ Q W2) := by
  have main : Ok (venue_rows_1 omS f (.pointer (some ⟨bx, 0, none⟩)) W) fun r => r.1 = .tuple #[] ∧ (I (rowsL v.secs) r.2 ∨ Q r.2) := by
    unfold venue_rows_1
    have hlen := hg.len
    have add1 : ∀ (k : Nat) (W' : AW), k < 1000000 → oBin Tryd.prog .add 3 false true (.int .i64 (k : Int)) (.int .i64 1) W' = some (.int .i64 ((k + 1 : Nat) : Int), W') := fun k W' hk => oBin_add (by omega) (by omega)
    simp only [SX, Nat.zero_add, hb, hs.len lenS]
    refine Ok_loop v.secs.length (by omega) (fun i R W' => R 0 = f ∧ R 3 = .int .i64 (total (v.secs.take i)) ∧ R 9 = sv ∧ R 10 = .int .i64 (v.secs.length : Int) ∧ R 11 = .int .i64 (i : Int) ∧ I (rowsK v.secs i) W')
      (fun r => (r.1 = .exit 0 ∧ I (rowsL v.secs) r.2.2) ∨ (r.1 = .ret ∧ Q r.2.2)) ⟨rfl, rfl, rfl, rfl, rfl, hI⟩ ?_ ?_ ?_
    · rintro i R W' hi ⟨h0, h3, h9, h10, h11, hi'⟩
      unfold venue_rows_1_L1
      have e1 : ((i : Int) < (v.secs.length : Int)) := by omega
      obtain ⟨b, o, rv, g1, g2, g3, _⟩ := hs.get hi
      obtain ⟨r1, r2, r3⟩ := hg.rows _ (List.getElem_mem hi)
      have htb : 0 ≤ total (v.secs.take i) ∧ total (v.secs.take i) ≤ 1024 * i := by
        have := plcK_len hg (by omega : i ≤ v.secs.length); omega
      have hI2 := hA _ _ [.string (bytesL v.secs[i].name), rv, .int .i64 v.secs[i].q] hi'
      have hc2 : cellsAt (W'.add (.cells [.string (bytesL v.secs[i].name), rv, .int .i64 v.secs[i].q])) W'.next = some [.string (bytesL v.secs[i].name), rv, .int .i64 v.secs[i].q] := cellsAt_new
      simp only [SX, h9, h10, h11, e1, g1, g3 _ (hS _ _ hi'), al62, stV3 rwCells_new (one_string _) (Row.one g2) (one_int _ _), put_add_cells, Nat.zero_add]
      generalize hW2 : W'.add (.cells [.string (bytesL v.secs[i].name), rv, .int .i64 v.secs[i].q]) = W2 at *
      have d1 : ldC (.pointer (some ⟨W'.next, 1, none⟩)) W2 = some (rv, W2) := ldC_ok hc2 rfl
      simp only [SX, d1, g2.len lenI]
      refine Ok_loop v.secs[i].rows.length (by omega) (fun k R W' => R 0 = f ∧ R 3 = .int .i64 (total (v.secs.take i) + sumI (v.secs[i].rows.take k)) ∧ R 4 = .int .i64 (i : Int) ∧ R 9 = sv ∧ R 10 = .int .i64 (v.secs.length : Int) ∧ R 11 = .int .i64 (i : Int) ∧ R 17 = rv ∧ R 18 = .int .i64 (v.secs[i].rows.length : Int) ∧ R 19 = .int .i64 (k : Int) ∧ I (rowsK v.secs i ++ secR v.secs i v.secs[i].rows k) W')
        (fun r => (r.1 = .exit 2 ∧ r.2.1 0 = f ∧ r.2.1 3 = .int .i64 (total (v.secs.take (i + 1))) ∧ r.2.1 9 = sv ∧ r.2.1 10 = .int .i64 (v.secs.length : Int) ∧ r.2.1 11 = .int .i64 (i : Int) ∧ I (rowsK v.secs (i + 1)) r.2.2) ∨ (r.1 = .ret ∧ Q r.2.2))
        ⟨h0, by rw [List.take_zero, show sumI [] = 0 from rfl, Int.add_zero]; exact h3, rfl, h9, h10, h11, rfl, rfl, rfl, by rw [show secR v.secs i v.secs[i].rows 0 = [] from rfl, List.append_nil]; exact hI2⟩ ?_ ?_ ?_
      · rintro k R W' hk ⟨h0, h3, h4, h9, h10, h11, h17, h18, h19, hi'⟩
        unfold venue_rows_1_L1_L2
        have e1 : ((k : Int) < (v.secs[i].rows.length : Int)) := by omega
        obtain ⟨p, p1, p2⟩ := g2.get hk
        obtain ⟨c, W3, s1, s2, s3⟩ := step _ ⟨i, k, total (v.secs.take i) + sumI (v.secs[i].rows.take k), v.secs[i].rows[k]⟩ W' (rows_pre hi hk) hi'
        have hsb := (sumI_bound r3 k).1
        have hsn := r3 _ (List.getElem_mem hk)
        have eb := oBin_add (P := Tryd.prog) (W := W3) (t := 3) (c := false) (d := false) (a := total (v.secs.take i) + sumI (v.secs[i].rows.take k)) (b := v.secs[i].rows[k]) (by omega) (by omega)
        simp only [SX, h0, h3, h4, h17, h18, h19, e1, p1, p2 _ (hS _ _ hi'), bd92, s1]
        cases c
        · simp only [SX, Ok_some]
          exact .inr ⟨by simp, .inr ⟨trivial, s3 rfl⟩⟩
        · simp only [SX, eb, add1 k _ (by omega), Ok_some]
          refine .inl ⟨trivial, h0, ?_, h4, h9, h10, h11, h17, h18, rfl, ?_⟩
          · rw [sumI_take hk, ← Int.add_assoc]; rfl
          · rw [secR_succ _ _ _ hk, ← List.append_assoc]; exact s2 rfl
      · rintro R W' ⟨h0, h3, h4, h9, h10, h11, h17, h18, h19, hi'⟩
        unfold venue_rows_1_L1_L2
        have e1 : ¬ ((v.secs[i].rows.length : Int) < (v.secs[i].rows.length : Int)) := by omega
        simp only [SX, h18, h19, e1, Ok_some]
        refine ⟨by simp, .inl ⟨trivial, h0, ?_, h9, h10, h11, ?_⟩⟩
        · rw [total_take hi]
          rw [List.take_length] at h3
          exact h3
        · rw [rowsK_succ _ hi]; exact hi'
      · rintro ⟨x, R, W'⟩ hq
        rcases hq with ⟨rfl, h0, h3, h9, h10, h11, hi'⟩ | ⟨rfl, hq⟩
        · simp only at h0 h3 h9 h10 h11 hi'
          simp only [SX, h11, add1 i _ (by omega), Ok_some]
          exact .inl ⟨trivial, h0, h3, h9, h10, rfl, hi'⟩
        · simp only [SX, Ok_some]
          exact .inr ⟨by simp, .inr ⟨trivial, hq⟩⟩
    · rintro R W' ⟨h0, h3, h9, h10, h11, hi'⟩
      unfold venue_rows_1_L1
      have e1 : ¬ ((v.secs.length : Int) < (v.secs.length : Int)) := by omega
      simp only [SX, h10, h11, e1, Ok_some]
      exact ⟨by simp, .inl ⟨trivial, hi'⟩⟩
    · rintro ⟨x, R, W'⟩ hq
      rcases hq with ⟨rfl, hi'⟩ | ⟨rfl, hq⟩
      · simp only [SX, Ok_some]
        exact ⟨trivial, .inl hi'⟩
      · simp only [SX, Ok_some]
        exact ⟨trivial, .inr hq⟩
  obtain ⟨⟨r, W'⟩, h1, h2, h3⟩ := main
  simp only at h2 h3
  subst h2
  exact ⟨W', by rw [venue_rows_1_om h1, gc_not rfl], h3⟩
end Go.Proofs.YtfcfglpkgcheiaaDoor
/- What ranges over the rows of a venue: the rule, and how many seats there are. -/
namespace Go.Proofs.YtfcfglpkgcheiaaDoor
open Go Go.Eng
set_option linter.unusedVariables false
set_option linter.unusedSimpArgs false
set_option maxRecDepth 100000
theorem rows_fn {v : Ven} {sv : Value} (W : AW) : ∃ W1, omS (.func (.func 55) #[] #[]) [venV v sv] W = some (.func (.func 73) #[] #[.pointer (some ⟨W.next, 0, none⟩)], W1) ∧ Le W W1 ∧ W.next < W1.next ∧ (∀ W', Le W1 W' → ldC (.pointer (some ⟨W.next, 3, none⟩)) W' = some (sv, W')) := by
  obtain ⟨W1, hB, hle, hn, c4, c0, c3⟩ := venBox v sv W
  refine ⟨W1, ?_, hle, hn, c3⟩
  have : venue_rows omS (venV v sv) W = some (.func (.func 73) #[] #[.pointer (some ⟨W.next, 0, none⟩)], W1) := by
    unfold venue_rows
    simp only [SX, hB]
  rw [venue_rows_om this, gc_not rfl]
theorem rows_range {v : Ven} {sv : Value} {W0 W : AW} {bx nt : Nat} {R : Nat → Value} {ps : Array Tmp} {ac bd : Code} (hs : Secs W0 sv v.secs) (hg : Good v.secs)
    (hb : ldC (.pointer (some ⟨bx, 3, none⟩)) (W.add (.loop .ready none R nt ps ac bd)) = some (sv, W.add (.loop .ready none R nt ps ac bd))) (hp : ps.size = 1)
    (J : List RowT → AW → Prop) (Q : X → AW → Prop) (h0 : J [] (W.add (.loop .ready none R nt ps ac bd)))
    (hS : ∀ pre W', J pre W' → Le W0 W') (hA : ∀ pre W' cs, J pre W' → W.next < W'.next → J pre (W'.add (.cells cs))) (hP : ∀ pre W' o, J pre W' → J pre (W'.put W.next o)) (hQ : ∀ x W' o, Q x W' → Q x (W'.put W.next o))
    (d : Nat) (has : ∀ r W' R', R' = zipGo ps.toList [rowV r] R → kCode Tryd.prog omS false nt ac LT R' W' ret3 = some (.normal, rput R' (some d) (.pointer (some ⟨W'.next, 0, none⟩)), W'.add (.cells [.int .i64 (r.sec : Int), .int .i64 (r.row : Int), .int .i64 r.first, .int .i64 r.many])))
    (step : ∀ pre r W' b R', R' = rput (zipGo ps.toList [rowV r] R) (some d) (.pointer (some ⟨b, 0, none⟩)) → pre ++ [r] <+: rowsL v.secs → J pre W' → W.next < W'.next → rwCells W' b = some [.int .i64 (r.sec : Int), .int .i64 (r.row : Int), .int .i64 r.first, .int .i64 r.many] → W.next < b → b < W'.next →
      Ok (kCode Tryd.prog omS false nt bd LT R' W' ret3) fun q => W'.next ≤ q.2.2.next ∧ q.2.2.get W.next = W'.get W.next ∧ ((q.1 = .normal ∧ J (pre ++ [r]) q.2.2) ∨ (q.1 ≠ .normal ∧ Q q.1 q.2.2))) :
    ∃ x W2, oRange omS (.func (.func 73) #[] #[.pointer (some ⟨bx, 0, none⟩)]) (.loop .ready none R nt ps ac bd) W = some (x, W2.kill W.next) ∧ ((x = .normal ∧ J (rowsL v.secs) W2) ∨ (x ≠ .normal ∧ Q x W2)) := by
  obtain ⟨W2, h1, h2⟩ := rows_ok (f := .func (.yield W.next) #[] #[]) (W := W.add (.loop .ready none R nt ps ac bd)) hs hg hb
    (fun pre W' => J pre W' ∧ W.next < W'.next ∧ W'.get W.next = some (.loop .ready none R nt ps ac bd))
    (fun W' => ∃ x, x ≠ .normal ∧ Q x W' ∧ W'.get W.next = some (.loop .done x.jump R nt ps ac bd))
    ⟨h0, by rw [AW.add_next]; omega, AW.get_add _ _⟩ (fun pre W' h => hS _ _ h.1)
    (fun pre W' cs h => ⟨hA _ _ _ h.1 h.2.1, by rw [AW.add_next]; omega, by rw [AW.get_add_ne _ _ (by omega)]; exact h.2.2⟩)
    (fun pre r W' hpre ⟨hJ, hlt, hget⟩ => by
      have hJ2 := hP _ _ (.loop .busy none R nt ps ac bd) (hA _ _ [.int .i64 (r.sec : Int), .int .i64 (r.row : Int), .int .i64 r.first, .int .i64 r.many] hJ hlt)
      obtain ⟨⟨x, R2, W3⟩, k1, k2, k3, k4⟩ := step pre r _ W'.next _ rfl hpre hJ2 (by rw [AW.put_next, AW.add_next]; omega) (by rw [rwCells_put_ne _ (by omega)]; exact rwCells_new) hlt (by rw [AW.put_next, AW.add_next]; omega)
      simp only at k1 k2 k3 k4
      rw [AW.get_put] at k3
      have hy := yield_gen (P := Tryd.prog) (args := [rowV r]) hget (by rw [hp]; rfl) (has r W' _ rfl) (by rw [AW.get_add_ne _ _ (by omega)]; exact hget) k1 k3
      have hn3 : W.next < W3.next := by rw [AW.put_next, AW.add_next] at k2; omega
      rcases k4 with ⟨rfl, k4⟩ | ⟨kx, k4⟩
      · exact ⟨true, _, hy, fun _ => ⟨hP _ _ _ k4, by rw [AW.put_next]; exact hn3, AW.get_put _ _ _⟩, fun h => by cases h⟩
      · refine ⟨false, W3.put W.next (.loop .done x.jump R nt ps ac bd), ?_, fun h => by (cases h), fun _ => ⟨x, kx, hQ _ _ _ k4, AW.get_put _ _ _⟩⟩
        refine hy.trans ?_
        cases x with
        | normal => exact absurd rfl kx
        | exit i => rfl
        | ret => rfl)
  rcases h2 with ⟨h2, h3, h4⟩ | ⟨x, h2, h3, h4⟩
  · exact ⟨.normal, W2, range_normal h1 h4 (by simp), .inl ⟨rfl, h2⟩⟩
  · exact ⟨x, W2, range_jump h1 h4, .inr ⟨h2, h3⟩⟩
theorem Ok_rows {v : Ven} {sv : Value} {W0 W : AW} {bx nt : Nat} {R : Nat → Value} {ps : Array Tmp} {ac bd : Code} {ρ : Type} {K : X × AW → Option ρ} {G : ρ → Prop} (hs : Secs W0 sv v.secs) (hg : Good v.secs)
    (hb : ldC (.pointer (some ⟨bx, 3, none⟩)) (W.add (.loop .ready none R nt ps ac bd)) = some (sv, W.add (.loop .ready none R nt ps ac bd))) (hp : ps.size = 1)
    (J : List RowT → AW → Prop) (Q : X → AW → Prop) (h0 : J [] (W.add (.loop .ready none R nt ps ac bd)))
    (hS : ∀ pre W', J pre W' → Le W0 W') (hA : ∀ pre W' cs, J pre W' → W.next < W'.next → J pre (W'.add (.cells cs))) (hP : ∀ pre W' o, J pre W' → J pre (W'.put W.next o)) (hQ : ∀ x W' o, Q x W' → Q x (W'.put W.next o))
    (d : Nat) (has : ∀ r W' R', R' = zipGo ps.toList [rowV r] R → kCode Tryd.prog omS false nt ac LT R' W' ret3 = some (.normal, rput R' (some d) (.pointer (some ⟨W'.next, 0, none⟩)), W'.add (.cells [.int .i64 (r.sec : Int), .int .i64 (r.row : Int), .int .i64 r.first, .int .i64 r.many])))
    (step : ∀ pre r W' b R', R' = rput (zipGo ps.toList [rowV r] R) (some d) (.pointer (some ⟨b, 0, none⟩)) → pre ++ [r] <+: rowsL v.secs → J pre W' → W.next < W'.next → rwCells W' b = some [.int .i64 (r.sec : Int), .int .i64 (r.row : Int), .int .i64 r.first, .int .i64 r.many] → W.next < b → b < W'.next →
      Ok (kCode Tryd.prog omS false nt bd LT R' W' ret3) fun q => W'.next ≤ q.2.2.next ∧ q.2.2.get W.next = W'.get W.next ∧ ((q.1 = .normal ∧ J (pre ++ [r]) q.2.2) ∨ (q.1 ≠ .normal ∧ Q q.1 q.2.2)))
    (after : ∀ x W2, (x = .normal ∧ J (rowsL v.secs) W2) ∨ (x ≠ .normal ∧ Q x W2) → Ok (K (x, W2.kill W.next)) G) :
    Ok (bnd (oRange omS (.func (.func 73) #[] #[.pointer (some ⟨bx, 0, none⟩)]) (.loop .ready none R nt ps ac bd) W) K) G := by
  obtain ⟨x, W2, h1, h2⟩ := rows_range hs hg hb hp J Q h0 hS hA hP hQ d has step
  rw [h1, bnd_some]
  exact after x W2 h2
/-- how many seats rows have -/
def manyS (l : List RowT) : Int := sumI (l.map (·.many))
end Go.Proofs.YtfcfglpkgcheiaaDoor
/- The rows of a venue in plain: their first seats, how many there are, their places. -/
namespace Go.Proofs.YtfcfglpkgcheiaaDoor
open Go Go.Eng
set_option linter.unusedVariables false
set_option linter.unusedSimpArgs false
set_option maxRecDepth 100000
def Firsts : Int → List RowT → Prop
  | _, [] => True
  | s, r :: l => r.first = s ∧ Firsts (s + r.many) l
theorem manyS_nil : manyS [] = 0 := rfl
theorem manyS_cons (r : RowT) (l : List RowT) : manyS (r :: l) = r.many + manyS l := rfl
theorem manyS_append (a b : List RowT) : manyS (a ++ b) = manyS a + manyS b := by
  induction a with
  | nil => simp [manyS_nil]
  | cons r a ih => rw [List.cons_append, manyS_cons, manyS_cons, ih]; omega
theorem Firsts.append : ∀ {a b : List RowT} {s : Int}, Firsts s a → Firsts (s + manyS a) b → Firsts s (a ++ b)
  | [], _, s, _, h => by rw [manyS_nil, Int.add_zero] at h; exact h
  | r :: a, b, s, ⟨h1, h2⟩, h => ⟨h1, Firsts.append h2 (by rw [manyS_cons, ← Int.add_assoc] at h; exact h)⟩
theorem Firsts.at : ∀ {a b : List RowT} {r : RowT} {s : Int}, Firsts s (a ++ r :: b) → r.first = s + manyS a
  | [], _, _, s, ⟨h, _⟩ => by rw [h, manyS_nil, Int.add_zero]
  | x :: a, b, r, s, ⟨_, h⟩ => by rw [Firsts.at h, manyS_cons, Int.add_assoc]
theorem secR_sum (l : List Sec) (i : Nat) (rows : List Int) : ∀ {k : Nat}, k ≤ rows.length → manyS (secR l i rows k) = sumI (rows.take k)
  | 0, _ => rfl
  | k + 1, hk => by
    rw [secR_succ l i rows (by omega), manyS_append, secR_sum l i rows (by omega), sumI_take (by omega), manyS_cons, manyS_nil, Int.add_zero]
theorem secR_firsts (l : List Sec) (i : Nat) (rows : List Int) : ∀ {k : Nat}, k ≤ rows.length → Firsts (total (l.take i)) (secR l i rows k)
  | 0, _ => trivial
  | k + 1, hk => by
    rw [secR_succ l i rows (by omega)]
    exact (secR_firsts l i rows (by omega)).append ⟨by rw [secR_sum l i rows (by omega)], trivial⟩
theorem rowsK_sum (l : List Sec) : ∀ {n : Nat}, n ≤ l.length → manyS (rowsK l n) = total (l.take n)
  | 0, _ => rfl
  | n + 1, hn => by
    rw [rowsK_succ l (by omega), manyS_append, rowsK_sum l (by omega), secR_sum l n _ (Nat.le_refl _), total_take (by omega), List.take_length]
theorem rowsK_firsts (l : List Sec) : ∀ {n : Nat}, n ≤ l.length → Firsts 0 (rowsK l n)
  | 0, _ => trivial
  | n + 1, hn => by
    rw [rowsK_succ l (by omega)]
    refine (rowsK_firsts l (by omega)).append ?_
    rw [rowsK_sum l (by omega), Int.zero_add]
    exact secR_firsts l n _ (Nat.le_refl _)
theorem rows_sum (l : List Sec) : manyS (rowsL l) = total l := by
  have := rowsK_sum l (Nat.le_refl l.length)
  rwa [List.take_length] at this
theorem rows_firsts (l : List Sec) : Firsts 0 (rowsL l) := rowsK_firsts l (Nat.le_refl _)
/-- where a row comes from -/
def RowOf (l : List Sec) (r : RowT) : Prop := ∃ (hi : r.sec < l.length) (hk : r.row < l[r.sec].rows.length), r.many = l[r.sec].rows[r.row]
theorem rows_mem {l : List Sec} {r : RowT} (h : r ∈ rowsL l) : RowOf l r := by
  unfold rowsL rowsK at h
  obtain ⟨i, hi, h⟩ := List.mem_flatMap.1 h
  rw [List.mem_range] at hi
  rw [List.getElem?_eq_getElem hi] at h
  unfold secR at h
  obtain ⟨k, hk, rfl⟩ := List.mem_map.1 h
  rw [List.mem_range] at hk
  exact ⟨hi, hk, by simp [List.getD_eq_getElem?_getD, List.getElem?_eq_getElem hk]⟩
theorem RowOf.many {l : List Sec} {r : RowT} (h : RowOf l r) (hg : Good l) : 1 ≤ r.many ∧ r.many ≤ 64 ∧ r.sec < 8 ∧ r.row < 16 := by
  obtain ⟨hi, hk, hm⟩ := h
  obtain ⟨_, h2, h3⟩ := hg.rows _ (List.getElem_mem hi)
  have := h3 _ (List.getElem_mem hk)
  have := hg.len
  omega
theorem manyS_pos {l : List RowT} (h : ∀ r ∈ l, 1 ≤ r.many) : (l.length : Int) ≤ manyS l := by
  induction l with
  | nil => simp [manyS_nil]
  | cons r l ih =>
    have h1 := h r (by simp)
    have h2 := ih fun x hx => h x (by simp [hx])
    rw [manyS_cons, List.length_cons]; omega
theorem manyS_pre {a l : List RowT} (h : a <+: l) (hm : ∀ r ∈ l, 1 ≤ r.many) : 0 ≤ manyS a ∧ manyS a ≤ manyS l := by
  obtain ⟨b, rfl⟩ := h
  have h1 := manyS_pos (l := a) fun r hr => hm r (by simp [hr])
  have h2 := manyS_pos (l := b) fun r hr => hm r (by simp [hr])
  rw [manyS_append]; omega
theorem total_max {l : List Sec} (hg : Good l) : 0 ≤ total l ∧ total l ≤ 8192 := by
  have h := (plcK_len hg (Nat.le_refl l.length))
  rw [List.take_length] at h
  have := hg.len
  omega
/-- facts of the next row -/
theorem row_next {l : List Sec} (hg : Good l) {pre : List RowT} {r : RowT} (h : pre ++ [r] <+: rowsL l) : RowOf l r ∧ r.first = manyS pre ∧ 0 ≤ manyS pre ∧ manyS (pre ++ [r]) ≤ 8192 ∧ 1 ≤ r.many ∧ r.many ≤ 64 ∧ manyS (pre ++ [r]) = manyS pre + r.many := by
  have hm : ∀ r ∈ rowsL l, 1 ≤ r.many := fun r hr => ((rows_mem hr).many hg).1
  have hr : r ∈ rowsL l := h.subset (by simp)
  have h1 := manyS_pre h hm
  have h2 := manyS_pre ((List.prefix_append pre [r]).trans h) hm
  rw [rows_sum] at h1
  obtain ⟨b, hb⟩ := h
  have hf := rows_firsts l
  rw [← hb, List.append_assoc] at hf
  have := Firsts.at hf
  have hx := (rows_mem hr).many hg
  have := total_max hg
  refine ⟨rows_mem hr, by omega, by omega, by omega, by omega, by omega, ?_⟩
  rw [manyS_append, manyS_cons, manyS_nil, Int.add_zero]
end Go.Proofs.YtfcfglpkgcheiaaDoor
/- How many seats there are: the code's answer. -/
namespace Go.Proofs.YtfcfglpkgcheiaaDoor
open Go Go.Eng
set_option linter.unusedVariables false
set_option linter.unusedSimpArgs false
set_option maxRecDepth 100000
theorem oL3 (x : Value) (W : AW) : oLoad Tryd.prog 3 x W = ldC x W := by kernel_rfl
theorem oL28 (x : Value) (W : AW) : oLoad Tryd.prog 28 x W = ldC x W := by kernel_rfl
theorem oL92 (x : Value) (W : AW) : oLoad Tryd.prog 92 x W = ldA 4 x W := by kernel_rfl
theorem al3 (W : AW) : oAlloc Tryd.prog 3 W = some (.pointer (some ⟨W.next, 0, none⟩), W.add (.cells [.int .i64 0])) := Eq.trans (by kernel_rfl) rfl
theorem al28 (W : AW) : oAlloc Tryd.prog 28 W = some (.pointer (some ⟨W.next, 0, none⟩), W.add (.cells [.int .i64 0])) := Eq.trans (by kernel_rfl) rfl
theorem al92 (W : AW) : oAlloc Tryd.prog 92 W = some (.pointer (some ⟨W.next, 0, none⟩), W.add (.cells [.int .i64 0, .int .i64 0, .int .i64 0, .int .i64 0])) := Eq.trans (by kernel_rfl) rfl
theorem bd92z (W : AW) : oBuild Tryd.prog 92 [] W = some (.agg #[.int .i64 0, .int .i64 0, .int .i64 0, .int .i64 0], W) := Eq.trans (by kernel_rfl) rfl
theorem stV4 {b : Nat} {a c d e x y z u : Value} {W : AW} (h : rwCells W b = some [x, y, z, u]) (h1 : one a = true) (h2 : one c = true) (h3 : one d = true) (h4 : one e = true) : stV 4 (.pointer (some ⟨b, 0, none⟩)) (.agg #[a, c, d, e]) W = some (undef, W.put b (.cells [a, c, d, e])) := by
  rw [stV_eq, h, Option.bind_some]
  have hc : (Value.agg #[a, c, d, e]).cells = #[a, c, d, e] := cells_agg _
  rw [hc, if_pos ⟨rfl, by simp, by simp [h1, h2, h3, h4]⟩]
  rfl
theorem stI {b : Nat} {x : Value} {n : Int} {W : AW} (h : rwCells W b = some [x]) : stV 1 (.pointer (some ⟨b, 0, none⟩)) (.int .i64 n) W = some (undef, W.put b (.cells [.int .i64 n])) := by
  rw [stV_int, h]; rfl
theorem ldI {b : Nat} {x : Value} {W : AW} (h : rwCells W b = some [x]) : ldC (.pointer (some ⟨b, 0, none⟩)) W = some (x, W) := ldC_ok (rwCells_cellsAt h) rfl
theorem ldR {b o : Nat} {cs : List Value} {x : Value} {W : AW} (h : rwCells W b = some cs) (hv : cs[o]? = some x) : ldC (.pointer (some ⟨b, o, none⟩)) W = some (x, W) := ldC_ok (rwCells_cellsAt h) hv
theorem seats_ok {v : Ven} {sv : Value} {W : AW} (hs : SecsC W sv v.secs) (hv : v.secs.length < 1000) : omS (.func (.func 31) #[] #[]) [venV v sv] W = some (.tuple #[.int .i64 (seatsE v).1, .int .i64 (seatsE v).2], W) := by
  refine om_drop rfl ?_ venue_Seats_om
  unfold venue_Seats seatsE
  obtain ⟨W1, hB, hle, hn, c4, c0, c3⟩ := venBox v sv W
  have l2 : Le W1 (W1.add (.cells [.int .i64 0])) := (Le.refl W1).add _
  have hr : rwCells (W1.add (.cells [.int .i64 0])) W1.next = some [.int .i64 0] := rwCells_new
  have hn2 : W1.next < (W1.add (.cells [.int .i64 0])).next := by rw [AW.add_next]; omega
  simp only [SX, hB, al3]
  generalize W1.add (.cells [.int .i64 0]) = W2 at *
  simp only [SX, c4 _ l2, venCheck_ok (hs.mono (hle.trans l2)) hv]
  by_cases he : (venE v).2 = 0
  case neg =>
    simp only [SX, he, if_false, stI hr, oRes_L1n, oL3, ldI (rwCells_put _), Option.bind_some, Ok_some]
    exact ⟨trivial, (hle.trans l2).put (by have := hle.next; omega) _⟩
  obtain ⟨hg, -⟩ := venE_good he
  obtain ⟨W3, q1, q2, q3, q4⟩ := rows_fn (v := v) (sv := sv) W2
  have l3 : W1.next < W3.next := by have := q2.next; omega
  simp only [SX, decide_eq_true he, c4 _ l2, q1, if_pos he]
  refine Ok_rows (hs.mono hle).1 hg (q4 _ ((Le.refl _).add _)) rfl (fun pre W' => Le W1 W' ∧ rwCells W' W1.next = some [.int .i64 (manyS pre)]) (fun _ _ => False) ⟨(l2.trans q2).add _, by rw [rwCells_add _ l3, q2.rwCells hn2]; exact hr⟩ (fun _ _ h => h.1)
    (fun pre W' cs h hl => ⟨h.1.add _, by rw [rwCells_add _ (by omega)]; exact h.2⟩) (fun pre W' o h => ⟨h.1.put (by omega) _, by rw [rwCells_put_ne _ (by omega)]; exact h.2⟩) (fun _ _ _ h => h) 6 ?_ ?_ ?_
  · intro r W' R' hR
    have r17 : R' 17 = rowV r := by rw [hR]; rfl
    rw [venue_Seats_Y1a_eq]
    unfold venue_Seats_Y1a
    simp only [SX, al92, r17, stV4 rwCells_new (one_int _ _) (one_int _ _) (one_int _ _) (one_int _ _), put_add_cells]
  · intro pre r W' b R' hR hpre ⟨h1, h2⟩ hl hb hb1 hb2
    have r2 : R' 2 = .pointer (some ⟨W1.next, 0, none⟩) := by rw [hR]; rfl
    have r6 : R' 6 = .pointer (some ⟨b, 0, none⟩) := by rw [hR]; rfl
    clear hR
    rw [venue_Seats_Y1b_eq]
    unfold venue_Seats_Y1b
    obtain ⟨k1, k2, k3, k4, k5, k6, k7⟩ := row_next hg hpre
    have ea := oBin_add (P := Tryd.prog) (W := W') (t := 3) (c := false) (d := false) (a := manyS pre) (b := r.many) (by omega) (by omega)
    simp only [SX, r2, r6, ldI h2, ldR (o := 3) hb rfl, ea, stI h2, Nat.zero_add, Ok_some]
    exact ⟨by rw [AW.put_next]; omega, by rw [AW.get_put_ne _ _ (by omega)], .inl ⟨trivial, h1.put (Nat.le_refl _) _, by rw [k7]; exact rwCells_put _⟩⟩
  · rintro x W4 (⟨rfl, h1, h2⟩ | ⟨_, h⟩)
    case inr => exact h.elim
    have h3 : rwCells (W4.kill W3.next) W1.next = some [.int .i64 (manyS (rowsL v.secs))] := by
      rw [← h2]; unfold rwCells; rw [AW.get_kill_ne _ (by omega)]
    simp only [SX, ldI h3, stI h3, oRes_L1n, oL3, ldI (rwCells_put _), Option.bind_some, rows_sum, Ok_some]
    exact ⟨trivial, (hle.trans (h1.kill (by omega))).put (by have := hle.next; omega) _⟩
end Go.Proofs.YtfcfglpkgcheiaaDoor
/- Which row a seat is in: the code's answer. -/
namespace Go.Proofs.YtfcfglpkgcheiaaDoor
open Go Go.Eng
set_option linter.unusedVariables false
set_option linter.unusedSimpArgs false
set_option maxRecDepth 100000
abbrev rowC (r : RowT) : List Value := [.int .i64 (r.sec : Int), .int .i64 (r.row : Int), .int .i64 r.first, .int .i64 r.many]
theorem find_pre {α : Type} {p : α → Bool} {pre l : List α} {r : α} (h : pre ++ [r] <+: l) (h0 : ∀ x ∈ pre, p x = false) (h1 : p r = true) : l.find? p = some r := by
  obtain ⟨b, rfl⟩ := h
  rw [List.append_assoc, List.find?_append, List.find?_eq_none.2 (fun x hx => by simp [h0 x hx]), List.cons_append, List.find?_cons_of_pos h1]
  rfl
theorem find_no {α : Type} {p : α → Bool} {l : List α} (h0 : ∀ x ∈ l, p x = false) : l.find? p = none := List.find?_eq_none.2 (fun x hx => by simp [h0 x hx])
theorem snoc_all {α : Type} {p : α → Bool} {pre : List α} {r : α} (h0 : ∀ x ∈ pre, p x = false) (h1 : p r = false) : ∀ x ∈ pre ++ [r], p x = false := by
  intro x hx
  rcases List.mem_append.1 hx with h | h
  · exact h0 x h
  · rw [List.mem_singleton.1 h]; exact h1
theorem boxI (n : Int) (W : AW) : ∃ W1, oBox (.int .i64 n) W = some (.pointer (some ⟨W.next, 0, none⟩), W1) ∧ W1.next = W.next + 1 ∧ Le W W1 ∧ rwCells W1 W.next = some [.int .i64 n] :=
  ⟨_, oBox_int _ _, AW.add_next _ _, (Le.refl W).add _, rwCells_new⟩
theorem new3 (W : AW) : ∃ W1, oAlloc Tryd.prog 3 W = some (.pointer (some ⟨W.next, 0, none⟩), W1) ∧ W1.next = W.next + 1 ∧ Le W W1 ∧ rwCells W1 W.next = some [.int .i64 0] := ⟨_, al3 W, AW.add_next _ _, (Le.refl W).add _, rwCells_new⟩
theorem new28 (W : AW) : ∃ W1, oAlloc Tryd.prog 28 W = some (.pointer (some ⟨W.next, 0, none⟩), W1) ∧ W1.next = W.next + 1 ∧ Le W W1 ∧ rwCells W1 W.next = some [.int .i64 0] := ⟨_, al28 W, AW.add_next _ _, (Le.refl W).add _, rwCells_new⟩
theorem new92 (W : AW) : ∃ W1, oAlloc Tryd.prog 92 W = some (.pointer (some ⟨W.next, 0, none⟩), W1) ∧ W1.next = W.next + 1 ∧ Le W W1 ∧ rwCells W1 W.next = some [.int .i64 0, .int .i64 0, .int .i64 0, .int .i64 0] := ⟨_, al92 W, AW.add_next _ _, (Le.refl W).add _, rwCells_new⟩
theorem rw_kill {W : AW} {b c : Nat} (h : b ≠ c) : rwCells (W.kill b) c = rwCells W c := by unfold rwCells; rw [W.get_kill_ne h]
theorem ld4 {b : Nat} {x y z u : Value} {W : AW} (h : rwCells W b = some [x, y, z, u]) : ldA 4 (.pointer (some ⟨b, 0, none⟩)) W = some (.agg #[x, y, z, u], W) := ldA_all (rwCells_cellsAt h) rfl
theorem stV4i {b : Nat} {a c d e : Int} {x y z u : Value} {W : AW} (h : rwCells W b = some [x, y, z, u]) : stV 4 (.pointer (some ⟨b, 0, none⟩)) (.agg #[.int .i64 a, .int .i64 c, .int .i64 d, .int .i64 e]) W = some (undef, W.put b (.cells [.int .i64 a, .int .i64 c, .int .i64 d, .int .i64 e])) := stV4 h rfl rfl rfl rfl
/-- is a seat in a row -/
def inRow (seat : Int) (r : RowT) : Bool := decide (r.first ≤ seat) && decide (seat < r.first + r.many)
abbrev zs : List Value := [.int .i64 0, .int .i64 0, .int .i64 0, .int .i64 0]
abbrev row0 : RowT := ⟨0, 0, 0, 0⟩
def findE (v : Ven) (seat : Int) : RowT × Int := if (venE v).2 = 0 then (match (rowsL v.secs).find? (inRow seat) with
  | some r => (r, 0)
  | none => (row0, 4)) else (row0, (venE v).2)
theorem find_ok {v : Ven} {sv : Value} {W : AW} {seat : Int} (hs : SecsC W sv v.secs) (hv : v.secs.length < 1000) : omS (.func (.func 57) #[] #[]) [venV v sv, .int .i64 seat] W = some (.tuple #[rowV (findE v seat).1, .int .i64 (findE v seat).2], W) := by
  refine om_drop rfl ?_ venue_find_om
  unfold venue_find findE
  obtain ⟨W1, hB, hle, hn, c4, c0, c3⟩ := venBox v sv W
  obtain ⟨W2, b2, n2, l2, r2⟩ := boxI seat W1
  obtain ⟨W3, b3, n3, l3, r3⟩ := new92 W2
  obtain ⟨W4, b4, n4, l4, r4⟩ := new28 W3
  have r34 : rwCells W4 W2.next = some [.int .i64 0, .int .i64 0, .int .i64 0, .int .i64 0] := by rw [l4.rwCells (by omega)]; exact r3
  have l24 := l3.trans l4
  have l02 := hle.trans l2
  have hsn := hle.next
  simp only [SX, hB, b2, b3, b4, c4 _ (l2.trans l24), venCheck_ok (hs.mono (l02.trans l24)) hv]
  by_cases he : (venE v).2 = 0
  case neg =>
    have p1 : rwCells (W4.put W2.next (.cells (zs))) W3.next = some [.int .i64 0] := by rw [rwCells_put_ne _ (by omega)]; exact r4
    have p2 : ∀ x, rwCells ((W4.put W2.next (.cells (zs))).put W3.next x) W2.next = some (zs) := fun x => by rw [rwCells_put_ne _ (by omega)]; exact rwCells_put _
    simp only [SX, he, if_false, bd92z, stV4i r34, stI p1, oRes_L2, oL92, oL28, ld4 (p2 _), ldI (rwCells_put _), Option.bind_some, Ok_some]
    exact ⟨rfl, ((l02.trans l24).put (by omega) _).put (by omega) _⟩
  obtain ⟨hg, -⟩ := venE_good he
  obtain ⟨W5, q1, q2, q3, q4⟩ := rows_fn (v := v) (sv := sv) W4
  have hn5 := q2.next
  simp only [SX, decide_eq_true he, c4 _ (l2.trans l24), q1, if_pos he]
  refine Ok_rows (hs.mono l02).1 hg (q4 _ ((Le.refl _).add _)) rfl (fun pre W' => Le W2 W' ∧ rwCells W' W2.next = some (zs) ∧ rwCells W' W3.next = some [.int .i64 0] ∧ ∀ r ∈ pre, inRow seat r = false)
    (fun x W' => x = .ret ∧ Le W2 W' ∧ ∃ r, (rowsL v.secs).find? (inRow seat) = some r ∧ rwCells W' W2.next = some (rowC r) ∧ rwCells W' W3.next = some [.int .i64 0])
    ⟨(l24.trans q2).add _, by rw [rwCells_add _ (by omega), q2.rwCells (by omega)]; exact r34, by rw [rwCells_add _ (by omega), q2.rwCells (by omega)]; exact r4, by simp⟩ (fun _ _ h => h.1)
    (fun pre W' cs h hl => ⟨h.1.add _, by rw [rwCells_add _ (by omega)]; exact h.2.1, by rw [rwCells_add _ (by omega)]; exact h.2.2.1, h.2.2.2⟩)
    (fun pre W' o h => ⟨h.1.put (by omega) _, by rw [rwCells_put_ne _ (by omega)]; exact h.2.1, by rw [rwCells_put_ne _ (by omega)]; exact h.2.2.1, h.2.2.2⟩)
    (fun x W' o ⟨h1, h2, r, h3, h4, h5⟩ => ⟨h1, h2.put (by omega) _, r, h3, by rw [rwCells_put_ne _ (by omega)]; exact h4, by rw [rwCells_put_ne _ (by omega)]; exact h5⟩) 8 ?_ ?_ ?_
  · intro r W' R' hR
    have r17 : R' 20 = rowV r := by rw [hR]; rfl
    rw [venue_find_Y1a_eq]
    unfold venue_find_Y1a
    simp only [SX, al92, r17, stV4i rwCells_new, put_add_cells]
  · intro pre r W' b R' hR hpre ⟨h1, h2, h3, h4⟩ hl hb hb1 hb2
    have f3 : R' 3 = .pointer (some ⟨W1.next, 0, none⟩) := by rw [hR]; rfl
    have f4 : R' 4 = .pointer (some ⟨W2.next, 0, none⟩) := by rw [hR]; rfl
    have f5 : R' 5 = .pointer (some ⟨W3.next, 0, none⟩) := by rw [hR]; rfl
    have f8 : R' 8 = .pointer (some ⟨b, 0, none⟩) := by rw [hR]; rfl
    clear hR
    rw [venue_find_Y1b_eq]
    unfold venue_find_Y1b
    obtain ⟨k1, k2, k3, k4, k5, k6, k7⟩ := row_next hg hpre
    have ea := oBin_add (P := Tryd.prog) (W := W') (t := 3) (c := false) (d := false) (a := r.first) (b := r.many) (by omega) (by omega)
    have hse : rwCells W' W1.next = some [.int .i64 seat] := by rw [h1.rwCells (by omega)]; exact r2
    simp only [SX, f3, f8, ldI hse, ldR (o := 2) hb rfl, Nat.zero_add]
    have hin : inRow seat r = (decide (r.first ≤ seat) && decide (seat < r.first + r.many)) := rfl
    by_cases t1 : r.first ≤ seat
    case neg =>
      rw [decide_eq_false t1, Bool.false_and] at hin
      simp only [SX, t1, Ok_some]
      exact ⟨Nat.le_refl _, trivial, .inl ⟨trivial, h1, h2, h3, snoc_all h4 hin⟩⟩
    simp only [SX, decide_eq_true t1, f3, f8, ldI hse, ldR (o := 2) hb rfl, ldR (o := 3) hb rfl, ea, Nat.zero_add]
    by_cases t2 : seat < r.first + r.many
    case neg =>
      rw [decide_eq_false t2, Bool.and_false] at hin
      simp only [SX, t2, Ok_some]
      exact ⟨Nat.le_refl _, trivial, .inl ⟨trivial, h1, h2, h3, snoc_all h4 hin⟩⟩
    rw [decide_eq_true t1, decide_eq_true t2] at hin
    have p1 : rwCells (W'.put W2.next (.cells (rowC r))) W3.next = some [.int .i64 0] := by rw [rwCells_put_ne _ (by omega)]; exact h3
    simp only [SX, decide_eq_true t2, f4, f5, f8, ld4 hb, stV4i h2, stI p1, Ok_some]
    exact ⟨Nat.le_refl _, by rw [AW.get_put_ne _ _ (by omega), AW.get_put_ne _ _ (by omega)], .inr ⟨by simp, trivial, (h1.put (by omega) _).put (by omega) _, r, find_pre hpre h4 hin, by rw [rwCells_put_ne _ (by omega)]; exact rwCells_put _, rwCells_put _⟩⟩
  · rintro x W6 (⟨rfl, h1, h2, h3, h4⟩ | ⟨_, rfl, h1, r, h2, h3, h4⟩)
    · have k2 : rwCells (W6.kill W5.next) W2.next = some (zs) := by rw [rw_kill (by omega)]; exact h2
      have k3 : rwCells ((W6.kill W5.next).put W2.next (.cells (zs))) W3.next = some [.int .i64 0] := by rw [rwCells_put_ne _ (by omega), rw_kill (by omega)]; exact h3
      have p2 : ∀ x, rwCells (((W6.kill W5.next).put W2.next (.cells (zs))).put W3.next x) W2.next = some (zs) := fun x => by rw [rwCells_put_ne _ (by omega)]; exact rwCells_put _
      simp only [SX, bd92z, stV4i k2, stI k3, oRes_L2, oL92, oL28, ld4 (p2 _), ldI (rwCells_put _), Option.bind_some, find_no h4, Ok_some]
      exact ⟨rfl, (((l02.trans h1).kill (by omega)).put (by omega) _).put (by omega) _⟩
    · have k2 : rwCells (W6.kill W5.next) W2.next = some (rowC r) := by rw [rw_kill (by omega)]; exact h3
      have k3 : rwCells (W6.kill W5.next) W3.next = some [.int .i64 0] := by rw [rw_kill (by omega)]; exact h4
      simp only [SX, oRes_L2, oL92, oL28, ld4 k2, ldI k3, Option.bind_some, h2, Ok_some]
      exact ⟨trivial, (l02.trans h1).kill (by omega)⟩
end Go.Proofs.YtfcfglpkgcheiaaDoor
/- The seats of a section, and of a row: the code's answers. -/
namespace Go.Proofs.YtfcfglpkgcheiaaDoor
open Go Go.Eng
set_option linter.unusedVariables false
set_option linter.unusedSimpArgs false
set_option maxRecDepth 100000
/-- is a row in a section -/
def isSec (sec : Int) (r : RowT) : Bool := decide ((r.sec : Int) = sec)
def fstS : List RowT → Int
  | [] => 0
  | r :: _ => r.first
def ofE (v : Ven) (sec : Int) : Int × Int × Int := if (venE v).2 = 0 then
  if manyS ((rowsL v.secs).filter (isSec sec)) = 0 then (0, 0, 4) else (fstS ((rowsL v.secs).filter (isSec sec)), manyS ((rowsL v.secs).filter (isSec sec)), 0)
  else (0, 0, (venE v).2)
theorem filter_yes {α : Type} {p : α → Bool} {pre : List α} {r : α} (h : p r = true) : (pre ++ [r]).filter p = pre.filter p ++ [r] := by simp [List.filter_append, h]
theorem filter_not {α : Type} {p : α → Bool} {pre : List α} {r : α} (h : p r = false) : (pre ++ [r]).filter p = pre.filter p := by simp [List.filter_append, h]
theorem fstS_snoc {l : List RowT} {r : RowT} (h : l ≠ []) : fstS (l ++ [r]) = fstS l := by
  cases l with
  | nil => exact absurd rfl h
  | cons => rfl
theorem of_ok {v : Ven} {sv : Value} {W : AW} {sec : Int} (hs : SecsC W sv v.secs) (hv : v.secs.length < 1000) : omS (.func (.func 32) #[] #[]) [venV v sv, .int .i64 sec] W = some (.tuple #[.int .i64 (ofE v sec).1, .int .i64 (ofE v sec).2.1, .int .i64 (ofE v sec).2.2], W) := by
  refine om_drop rfl ?_ venue_Of_om
  unfold venue_Of ofE
  obtain ⟨W1, hB, hle, hn, c4, c0, c3⟩ := venBox v sv W
  obtain ⟨W2, b2, n2, l2, r2⟩ := boxI sec W1
  obtain ⟨W3, b3, n3, l3, r3⟩ := new3 W2
  obtain ⟨W4, b4, n4, l4, r4⟩ := new3 W3
  have r34 : rwCells W4 W2.next = some [.int .i64 0] := by rw [l4.rwCells (by omega)]; exact r3
  have l24 := l3.trans l4
  have l02 := hle.trans l2
  have hsn := hle.next
  have e2 : ∀ (W' : AW) a b, rwCells ((W'.put W2.next (.cells a)).put W3.next b) W2.next = some a := fun W' a b => by rw [rwCells_put_ne _ (by omega)]; exact rwCells_put _
  have e3 : ∀ (W' : AW) a, rwCells (W'.put W2.next a) W3.next = rwCells W' W3.next := fun W' a => rwCells_put_ne _ (by omega)
  simp only [SX, hB, b2, b3, b4, c4 _ (l2.trans l24), venCheck_ok (hs.mono (l02.trans l24)) hv]
  by_cases he : (venE v).2 = 0
  case neg =>
    simp only [SX, he, if_false, stI r34, stI ((e3 _ _).trans r4), oRes_L2n, oL3, ldI (e2 _ _ _), ldI (rwCells_put _), Option.bind_some, Ok_some]
    exact ⟨trivial, ((l02.trans l24).put (by omega) _).put (by omega) _⟩
  obtain ⟨hg, -⟩ := venE_good he
  obtain ⟨W5, q1, q2, q3, q4⟩ := rows_fn (v := v) (sv := sv) W4
  have hn5 := q2.next
  simp only [SX, decide_eq_true he, c4 _ (l2.trans l24), q1, if_pos he]
  refine Ok_rows (hs.mono l02).1 hg (q4 _ ((Le.refl _).add _)) rfl (fun pre W' => Le W2 W' ∧ rwCells W' W2.next = some [.int .i64 (fstS (pre.filter (isSec sec)))] ∧ rwCells W' W3.next = some [.int .i64 (manyS (pre.filter (isSec sec)))])
    (fun x W' => False)
    ⟨(l24.trans q2).add _, by rw [rwCells_add _ (by omega), q2.rwCells (by omega)]; exact r34, by rw [rwCells_add _ (by omega), q2.rwCells (by omega)]; exact r4⟩ (fun _ _ h => h.1)
    (fun pre W' cs h hl => ⟨h.1.add _, by rw [rwCells_add _ (by omega)]; exact h.2.1, by rw [rwCells_add _ (by omega)]; exact h.2.2⟩)
    (fun pre W' o h => ⟨h.1.put (by omega) _, by rw [rwCells_put_ne _ (by omega)]; exact h.2.1, by rw [rwCells_put_ne _ (by omega)]; exact h.2.2⟩)
    (fun x W' o h => h) 9 ?_ ?_ ?_
  · intro r W' R' hR
    have r17 : R' 20 = rowV r := by rw [hR]; rfl
    rw [venue_Of_Y1a_eq]
    unfold venue_Of_Y1a
    simp only [SX, al92, r17, stV4i rwCells_new, put_add_cells]
  · intro pre r W' b R' hR hpre ⟨h1, h2, h3⟩ hl hb hb1 hb2
    have f3 : R' 3 = .pointer (some ⟨W1.next, 0, none⟩) := by rw [hR]; rfl
    have f4 : R' 4 = .pointer (some ⟨W2.next, 0, none⟩) := by rw [hR]; rfl
    have f5 : R' 5 = .pointer (some ⟨W3.next, 0, none⟩) := by rw [hR]; rfl
    have f8 : R' 9 = .pointer (some ⟨b, 0, none⟩) := by rw [hR]; rfl
    clear hR
    rw [venue_Of_Y1b_eq]
    unfold venue_Of_Y1b
    obtain ⟨k1, k2, k3, k4, k5, k6, k7⟩ := row_next hg hpre
    have hse : rwCells W' W1.next = some [.int .i64 sec] := by rw [h1.rwCells (by omega)]; exact r2
    have hmp : ∀ x ∈ pre, 1 ≤ x.many := fun x hx => ((rows_mem (((List.prefix_append pre [r]).trans hpre).subset hx)).many hg).1
    have hms := manyS_pos (l := pre.filter (isSec sec)) (fun x hx => hmp x (List.mem_filter.1 hx).1)
    have hms2 : manyS (pre.filter (isSec sec)) ≤ manyS pre := by
      have : ∀ l : List RowT, (∀ x ∈ l, 1 ≤ x.many) → manyS (l.filter (isSec sec)) ≤ manyS l := by
        intro l
        induction l with
        | nil => intro _; exact Int.le_refl _
        | cons x l ih =>
          intro h
          have := ih fun y hy => h y (by simp [hy])
          have := h x (by simp)
          rw [List.filter_cons]
          split
          · rw [manyS_cons, manyS_cons]; omega
          · rw [manyS_cons]; omega
      exact this _ hmp
    have ea : ∀ W', oBin Tryd.prog .add 3 false false (.int .i64 (manyS (pre.filter (isSec sec)))) (.int .i64 r.many) W' = some (.int .i64 (manyS (pre.filter (isSec sec)) + r.many), W') := fun W' => oBin_add (by omega) (by omega)
    simp only [SX, f3, f8, ldI hse, ldR (o := 0) hb rfl, Nat.zero_add]
    by_cases t1 : (r.sec : Int) = sec
    case neg =>
      have hin : isSec sec r = false := decide_eq_false t1
      simp only [SX, t1, Ok_some]
      exact ⟨Nat.le_refl _, trivial, .inl ⟨trivial, h1, by rw [filter_not hin]; exact h2, by rw [filter_not hin]; exact h3⟩⟩
    have hin : isSec sec r = true := decide_eq_true t1
    have hms3 : manyS (pre.filter (isSec sec) ++ [r]) = manyS (pre.filter (isSec sec)) + r.many := by rw [manyS_append, manyS_cons, manyS_nil, Int.add_zero]
    simp only [SX, decide_eq_true t1, f5, ldI h3]
    by_cases t2 : manyS (pre.filter (isSec sec)) = 0
    · have hnil : pre.filter (isSec sec) = [] := by
        rw [t2] at hms
        exact List.length_eq_zero_iff.1 (by omega)
      have hb' : rwCells (W'.put W2.next (.cells [.int .i64 r.first])) b = some (rowC r) := by rw [rwCells_put_ne _ (by omega)]; exact hb
      simp only [SX, decide_eq_true t2, f4, f5, f8, ldR (o := 2) hb rfl, ldR (o := 3) hb' rfl, Nat.zero_add, stI h2, ldI ((e3 _ _).trans h3), ea, stI ((e3 _ _).trans h3), Ok_some]
      exact ⟨Nat.le_refl _, by rw [AW.get_put_ne _ _ (by omega), AW.get_put_ne _ _ (by omega)], .inl ⟨trivial, (h1.put (by omega) _).put (by omega) _, by rw [e2, filter_yes hin, hnil]; rfl, by rw [rwCells_put, filter_yes hin, hms3]⟩⟩
    · have hne : pre.filter (isSec sec) ≠ [] := fun e => t2 (by rw [e]; rfl)
      simp only [SX, t2, f4, f5, f8, ldR (o := 3) hb rfl, Nat.zero_add, ldI h3, ea, stI h3, Ok_some]
      exact ⟨Nat.le_refl _, by rw [AW.get_put_ne _ _ (by omega)], .inl ⟨trivial, h1.put (by omega) _, by rw [rwCells_put_ne _ (by omega), filter_yes hin, fstS_snoc hne]; exact h2, by rw [rwCells_put, filter_yes hin, hms3]⟩⟩
  · rintro x W6 (⟨rfl, h1, h2, h3⟩ | ⟨_, h⟩)
    case inr => exact h.elim
    have k2 : rwCells (W6.kill W5.next) W2.next = some [.int .i64 (fstS ((rowsL v.secs).filter (isSec sec)))] := by rw [rw_kill (by omega)]; exact h2
    have k3 : rwCells (W6.kill W5.next) W3.next = some [.int .i64 (manyS ((rowsL v.secs).filter (isSec sec)))] := by rw [rw_kill (by omega)]; exact h3
    simp only [SX, ldI k3]
    by_cases t2 : manyS ((rowsL v.secs).filter (isSec sec)) = 0
    · simp only [SX, decide_eq_true t2, if_pos t2, stI k2, stI ((e3 _ _).trans k3), oRes_L2n, oL3, ldI (e2 _ _ _), ldI (rwCells_put _), Option.bind_some, Ok_some]
      exact ⟨trivial, (((l02.trans h1).kill (by omega)).put (by omega) _).put (by omega) _⟩
    · have hag : agV true (some (.int .i64 (manyS ((rowsL v.secs).filter (isSec sec))), (W6.kill W5.next).put W2.next (.cells [.int .i64 (fstS ((rowsL v.secs).filter (isSec sec)))]))) (.int .i64 (manyS ((rowsL v.secs).filter (isSec sec)))) = true := agV_true rfl (vsame_int _ _)
      simp only [SX, t2, if_neg t2, ldI k2, ldI k3, stI k2, ldI ((e3 _ _).trans k3), hag, Bool.and_self, stI ((e3 _ _).trans k3), oRes_L2n, oL3, ldI (e2 _ _ _), ldI (rwCells_put _), Option.bind_some, Ok_some]
      exact ⟨by simp only [if_false], (((l02.trans h1).kill (by omega)).put (by omega) _).put (by omega) _⟩
def isRow (sec row : Int) (r : RowT) : Bool := decide ((r.sec : Int) = sec) && decide ((r.row : Int) = row)
def rowE (v : Ven) (sec row : Int) : Int × Int × Int := if (venE v).2 = 0 then (match (rowsL v.secs).find? (isRow sec row) with
  | some r => (r.first, r.many, 0)
  | none => (0, 0, 4)) else (0, 0, (venE v).2)
end Go.Proofs.YtfcfglpkgcheiaaDoor
/- Place, Seat, Shard, Lock of a venue: the code's answers. -/
namespace Go.Proofs.YtfcfglpkgcheiaaDoor
open Go Go.Eng
set_option linter.unusedVariables false
set_option linter.unusedSimpArgs false
set_option maxRecDepth 100000
theorem mem_pre {α : Type} {l : List α} {r : α} (h : r ∈ l) : ∃ pre, pre ++ [r] <+: l := by
  obtain ⟨a, b, rfl⟩ := List.append_of_mem h
  exact ⟨a, ⟨b, by simp⟩⟩
/-- facts of a row -/
theorem row_mem {l : List Sec} (hg : Good l) {r : RowT} (h : r ∈ rowsL l) : RowOf l r ∧ 0 ≤ r.first ∧ r.first + r.many ≤ 8192 ∧ 1 ≤ r.many ∧ r.many ≤ 64 ∧ r.sec < 8 ∧ r.row < 16 := by
  obtain ⟨pre, hp⟩ := mem_pre h
  obtain ⟨k1, k2, k3, k4, k5, k6, k7⟩ := row_next hg hp
  have := k1.many hg
  exact ⟨k1, by omega, by omega, k5, k6, by omega, by omega⟩
theorem findE_zero {v : Ven} {seat : Int} (h : (findE v seat).2 = 0) : (venE v).2 = 0 ∧ (findE v seat).1 ∈ rowsL v.secs ∧ (rowsL v.secs).find? (inRow seat) = some (findE v seat).1 ∧ (findE v seat).1.first ≤ seat ∧ seat < (findE v seat).1.first + (findE v seat).1.many := by
  unfold findE at h ⊢
  by_cases he : (venE v).2 = 0
  · rw [if_pos he] at h ⊢
    cases hf : (rowsL v.secs).find? (inRow seat) with
    | none => rw [hf] at h; exact absurd h (by decide)
    | some r =>
      have hi := List.find?_some hf
      unfold inRow at hi
      simp only [Bool.and_eq_true, decide_eq_true_eq] at hi
      exact ⟨he, List.mem_of_find?_eq_some hf, rfl, hi.1, hi.2⟩
  · rw [if_neg he] at h
    exact absurd h he
/-- a place, and whether there is one -/
def placeE (v : Ven) (seat : Int) : Plc × Int := if (findE v seat).2 = 0 then (((findE v seat).1.sec, (findE v seat).1.row, (seat - (findE v seat).1.first).toNat), 0) else ((0, 0, 0), (findE v seat).2)
abbrev plcV (p : Plc) : Value := .agg #[.int .i64 (p.1 : Int), .int .i64 (p.2.1 : Int), .int .i64 (p.2.2 : Int)]
def shardE (v : Ven) (seat : Int) : Int × Int := if (findE v seat).2 = 0 then (seat % v.sh, 0) else (0, (findE v seat).2)
theorem headBad_sh {v : Ven} (h : headBad v = false) : 1 ≤ v.sh ∧ v.sh ≤ 16 := by
  unfold headBad outB at h
  simp only [Bool.or_eq_false_iff, decide_eq_false_iff_not] at h
  omega
theorem venE_sh {v : Ven} (h : (venE v).2 = 0) : 1 ≤ v.sh ∧ v.sh ≤ 16 := headBad_sh (venE_good h).2.1
theorem shard_ok {v : Ven} {sv : Value} {W : AW} {seat : Int} (hs : SecsC W sv v.secs) (hv : v.secs.length < 1000) : omS (.func (.func 37) #[] #[]) [venV v sv, .int .i64 seat] W = some (.tuple #[.int .i64 (shardE v seat).1, .int .i64 (shardE v seat).2], W) := by
  refine om_drop rfl ?_ venue_Shard_om
  unfold venue_Shard shardE
  obtain ⟨W1, hB, hle, hn, c4, c0, c3⟩ := venBox v sv W
  obtain ⟨W3, b3, n3, l3, r3⟩ := new92 W1
  have hsn := hle.next
  simp only [SX, hB, b3, c4 _ (.refl _), find_ok (hs.mono hle) hv, stV4i r3]
  by_cases he : (findE v seat).2 = 0
  case neg =>
    simp only [SX, he, if_false, Ok_some]
    exact ⟨trivial, (hle.trans l3).put (by omega) _⟩
  obtain ⟨h1, h2, h3, h4, h5⟩ := findE_zero he
  obtain ⟨k1, k2, k3, k4, k5, -, -⟩ := row_mem (venE_good h1).1 h2
  have hsh := venE_sh h1
  have ea : ∀ W', oBin Tryd.prog .rem 3 false false (.int .i64 seat) (.int .i64 v.sh) W' = some (.int .i64 (seat % v.sh), W') := fun W' => by
    rw [oBin_rem (by omega), Int.tmod_eq_emod_of_nonneg (by omega)]
  simp only [SX, decide_eq_true he, if_pos he, Nat.zero_add, c0 _ (l3.put (Nat.le_refl _) _), ea, Ok_some]
  exact ⟨trivial, (hle.trans l3).put (by omega) _⟩
def lockE (v : Ven) (sec : Int) : Int × Int := if (ofE v sec).2.2 = 0 then (v.sh + sec, 0) else (0, (ofE v sec).2.2)
theorem ofE_zero {v : Ven} {sec : Int} (h : (ofE v sec).2.2 = 0) : (venE v).2 = 0 ∧ 0 ≤ sec ∧ sec < v.secs.length ∧ ∃ r l, (rowsL v.secs).filter (isSec sec) = r :: l ∧ (ofE v sec) = (r.first, manyS ((rowsL v.secs).filter (isSec sec)), 0) := by
  unfold ofE at h ⊢
  by_cases he : (venE v).2 = 0
  · rw [if_pos he] at h ⊢
    by_cases h2 : manyS ((rowsL v.secs).filter (isSec sec)) = 0
    · rw [if_pos h2] at h; exact absurd h (by decide)
    · rw [if_neg h2]
      cases hf : (rowsL v.secs).filter (isSec sec) with
      | nil => rw [hf] at h2; exact absurd rfl h2
      | cons r l =>
        have hr : r ∈ (rowsL v.secs).filter (isSec sec) := by rw [hf]; simp
        obtain ⟨m1, m2⟩ := List.mem_filter.1 hr
        obtain ⟨hi, -, -⟩ := rows_mem m1
        have : (r.sec : Int) = sec := of_decide_eq_true m2
        exact ⟨he, by omega, by omega, r, l, rfl, rfl⟩
  · rw [if_neg he] at h
    exact absurd h he
theorem lock_ok {v : Ven} {sv : Value} {W : AW} {sec : Int} (hs : SecsC W sv v.secs) (hv : v.secs.length < 1000) : omS (.func (.func 39) #[] #[]) [venV v sv, .int .i64 sec] W = some (.tuple #[.int .i64 (lockE v sec).1, .int .i64 (lockE v sec).2], W) := by
  refine om_drop rfl ?_ venue_Lock_om
  unfold venue_Lock lockE
  obtain ⟨W1, hB, hle, hn, c4, c0, c3⟩ := venBox v sv W
  simp only [SX, hB, c4 _ (.refl _), of_ok (hs.mono hle) hv]
  by_cases he : (ofE v sec).2.2 = 0
  case neg =>
    simp only [SX, he, if_false, Ok_some]
    exact ⟨trivial, hle⟩
  obtain ⟨h1, h2, h3, -⟩ := ofE_zero he
  have hsh := venE_sh h1
  have ea : ∀ W', oBin Tryd.prog .add 3 false false (.int .i64 v.sh) (.int .i64 sec) W' = some (.int .i64 (v.sh + sec), W') := fun W' => oBin_add (by omega) (by omega)
  simp only [SX, decide_eq_true he, if_pos he, Nat.zero_add, c0 _ (.refl _), ea, Ok_some]
  exact ⟨trivial, hle⟩
def seatE (v : Ven) (sec row k : Int) : Int × Int := if (rowE v sec row).2.2 = 0 then (if outB k 0 ((rowE v sec row).2.1 - 1) then (0, 4) else ((rowE v sec row).1 + k, 0)) else (0, (rowE v sec row).2.2)
end Go.Proofs.YtfcfglpkgcheiaaDoor
/- The shards of a section: the code's answer. -/
namespace Go.Proofs.YtfcfglpkgcheiaaDoor
open Go Go.Eng
set_option linter.unusedVariables false
set_option linter.unusedSimpArgs false
set_option maxRecDepth 100000
theorem min_ok (a b : Int) (W : AW) : oBuiltin Tryd.prog .min #[3, 3] 3 #[false, false] [.int .i64 a, .int .i64 b] W = some (.int .i64 (min a b), W) := by
  have e : oBuiltin Tryd.prog .min #[3, 3] 3 #[false, false] [.int .i64 a, .int .i64 b] W = (pureS Tryd.prog ([Value.int .i64 a, .int .i64 b].all plain) (builtin .min #[3, 3] 3 #[false, false] #[.int .i64 a, .int .i64 b])).map fun v => (v, W) := by
    unfold oBuiltin
    rfl
  rw [e]
  have e2 : builtin .min #[3, 3] 3 #[false, false] #[.int .i64 a, .int .i64 b] = (do pure (.value (← Builtin.min_ #[3, 3] 3 #[.int .i64 a, .int .i64 b]))) := rfl
  rw [e2]
  refine pureV ?_ rfl _ rfl
  unfold Builtin.min_
  simp only [List.foldlM_cons, List.foldlM_nil, pureRun_bind, Builtin.min2, pureRun_pure, Option.bind_some]
  congr 2
  by_cases h : b < a
  · rw [if_pos h]; omega
  · rw [if_neg h]; omega
theorem bs38 (a : Int) (W : AW) : oBuildSlice Tryd.prog 38 1 [(0, .int .i64 a)] W = some (.slice (some ⟨W.next, 0, none⟩) 1 1, W.add (.cells [.int .i64 a])) := Eq.trans (by kernel_rfl) rfl
theorem ap38 : appOk Tryd.prog #[38, 38] 1 8 = true := by kernel_rfl
/-- first, first + 1, .., each modulo sh -/
def covL (sh first : Int) (n : Nat) : List Int := (List.range n).map fun (i : Nat) => (first + (i : Int)) % sh
theorem covL_succ (sh first : Int) (n : Nat) : covL sh first (n + 1) = covL sh first n ++ [(first + (n : Int)) % sh] := by simp [covL, List.range_succ]
theorem covL_len (sh first : Int) (n : Nat) : (covL sh first n).length = n := by simp [covL]
def coverE (v : Ven) (sec : Int) : List Int × Int := if (ofE v sec).2.2 = 0 then (sortL (covL v.sh (ofE v sec).1 (min (ofE v sec).2.1 v.sh).toNat), 0) else ([], (ofE v sec).2.2)
theorem ofE_bound {v : Ven} {sec : Int} (h : (ofE v sec).2.2 = 0) : 0 ≤ (ofE v sec).1 ∧ (ofE v sec).1 ≤ 8192 ∧ 1 ≤ (ofE v sec).2.1 ∧ (ofE v sec).2.1 ≤ 8192 := by
  obtain ⟨h1, h2, h3, r, l, h4, h5⟩ := ofE_zero h
  have hg := (venE_good h1).1
  have hr : r ∈ (rowsL v.secs).filter (isSec sec) := by rw [h4]; simp
  obtain ⟨k1, k2, k3, k4, k5, -, -⟩ := row_mem hg (List.mem_filter.1 hr).1
  have hm : ∀ x ∈ rowsL v.secs, 1 ≤ x.many := fun x hx => ((rows_mem hx).many hg).1
  have hms2 : ∀ l : List RowT, (∀ x ∈ l, 1 ≤ x.many) → manyS (l.filter (isSec sec)) ≤ manyS l := by
    intro l
    induction l with
    | nil => intro _; exact Int.le_refl _
    | cons x l ih =>
      intro h
      have := ih fun y hy => h y (by simp [hy])
      have := h x (by simp)
      rw [List.filter_cons]
      split
      · rw [manyS_cons, manyS_cons]; omega
      · rw [manyS_cons]; omega
  have hle := hms2 _ hm
  rw [rows_sum] at hle
  have := total_max hg
  have hpos := manyS_pos (l := (rowsL v.secs).filter (isSec sec)) (fun x hx => hm x (List.mem_filter.1 hx).1)
  rw [h4, List.length_cons] at hpos
  rw [← h4] at hpos
  rw [h5]
  exact ⟨k2, by omega, by simp only; omega, by simp only; omega⟩
theorem cover_ok {v : Ven} {sv : Value} {W : AW} {sec : Int} (hs : SecsC W sv v.secs) (hv : v.secs.length < 1000) : ∃ u W2, omS (.func (.func 38) #[] #[]) [venV v sv, .int .i64 sec] W = some (.tuple #[u, .int .i64 (coverE v sec).2], W2) ∧ Le W W2 ∧ Ints W2 u (coverE v sec).1 := by
  refine om_row2 ?_ venue_Cover_om
  unfold venue_Cover coverE
  obtain ⟨W1, hB, hle, hn, c4, c0, c3⟩ := venBox v sv W
  have hsn := hle.next
  simp only [SX, hB, c4 _ (.refl _), of_ok (hs.mono hle) hv]
  by_cases he : (ofE v sec).2.2 = 0
  case neg =>
    simp only [SX, he, if_false, Ok_some]
    exact ⟨_, rfl, hle, Row.nil⟩
  obtain ⟨h1, h2, h3, -⟩ := ofE_zero he
  obtain ⟨b1, b2, b3, b4⟩ := ofE_bound he
  have hsh := venE_sh h1
  generalize hfm : ofE v sec = fm at *
  obtain ⟨fi, ma, er⟩ := fm
  simp only at he b1 b2 b3 b4 ⊢
  subst he
  simp only [SX, if_true, decide_true, Nat.zero_add, c0 _ (.refl _), min_ok]
  obtain ⟨n, hn2⟩ : ∃ n : Nat, (n : Int) = min ma v.sh := ⟨(min ma v.sh).toNat, by omega⟩
  have hn3 : (min ma v.sh).toNat = n := by omega
  rw [← hn2]
  refine Ok_loop n (by omega) (fun i R W' => Le W1 W' ∧ R 2 = .pointer (some ⟨W.next, 0, none⟩) ∧ R 6 = .int .i64 fi ∧ R 24 = .int .i64 (n : Int) ∧ R 25 = .int .i64 (i : Int) ∧ ∃ u, R 9 = u ∧ Lst W1.next W' 1 intC u (covL v.sh fi i))
    (fun r => Le W1 r.2.2 ∧ r.1 = .exit 0 ∧ ∃ u, r.2.1 9 = u ∧ Lst W1.next r.2.2 1 intC u (covL v.sh fi n)) ⟨.refl _, rfl, rfl, rfl, rfl, _, rfl, .nil _ _ _ _⟩ ?_ ?_ ?_
  · rintro i R W' hi ⟨hl, f2, f6, f24, f25, u, f9, hL⟩
    unfold venue_Cover_L1
    have e1 : ((i : Int) < (n : Int)) := by omega
    have e2 : (i : Int) + 1 = ((i + 1 : Nat) : Int) := by omega
    have ea : ∀ W', oBin Tryd.prog .add 3 false false (.int .i64 fi) (.int .i64 (i : Int)) W' = some (.int .i64 (fi + (i : Int)), W') := fun W' => oBin_add (by omega) (by omega)
    have er : ∀ W', oBin Tryd.prog .rem 3 false false (.int .i64 (fi + (i : Int))) (.int .i64 v.sh) W' = some (.int .i64 ((fi + (i : Int)) % v.sh), W') := fun W' => by
      rw [oBin_rem (by omega), Int.tmod_eq_emod_of_nonneg (by omega)]
    have eb : ∀ W', oBin Tryd.prog .add 3 false true (.int .i64 (i : Int)) (.int .i64 1) W' = some (.int .i64 ((i + 1 : Nat) : Int), W') := fun W' => by rw [← e2]; exact oBin_add (by omega) (by omega)
    have hLm := hL.mono ((Le.refl W').add (.cells [.int .i64 ((fi + (i : Int)) % v.sh)]))
    obtain ⟨v', W2, q1, q2, q3, q4⟩ := Lst.push (P := Tryd.prog) (a := (fi + (i : Int)) % v.sh) (b := W'.next) (c := 1) ap38 intC_len intC_one hLm cellsAt_new (by rw [covL_len]; omega) (by rw [covL_len]; omega) (by rw [AW.add_next]; have := hl.next; omega)
    simp only [SX, f2, f6, f9, f24, f25, e1, ea, Nat.zero_add, c0 _ hl, er, bs38, q1, eb, Ok_some]
    refine .inl ⟨trivial, q4 _ (hl.add _) (Nat.le_refl _), f2, f6, f24, rfl, _, rfl, ?_⟩
    rw [covL_succ]
    exact q2
  · rintro R W' ⟨hl, f2, f6, f24, f25, u, f9, hL⟩
    unfold venue_Cover_L1
    have e1 : ¬ ((n : Int) < (n : Int)) := by omega
    simp only [SX, f24, f25, e1, Ok_some]
    exact ⟨by simp, hl, trivial, u, f9, hL⟩
  · rintro ⟨x, R, W'⟩ ⟨hl, hx, u, f9, hL⟩
    simp only at hl hx f9 hL
    subst hx
    have hne : covL v.sh fi n ≠ [] := fun e => by have := covL_len v.sh fi n; rw [e] at this; simp at this; omega
    obtain ⟨W2, s1, s2, s3, s4⟩ := hL.sort hne (by rw [covL_len]; omega)
    simp only [SX, f9, sort_ok s1, Ok_some]
    exact ⟨_, rfl, hle.trans (s4 _ hl (Nat.le_refl _)), by rw [Int.toNat_natCast]; exact s2.ints⟩
end Go.Proofs.YtfcfglpkgcheiaaDoor
/- Place, Of, Shard, Lock, Cover of the document: what they answer. -/
namespace Go.Proofs.YtfcfglpkgcheiaaDoor
open Go Go.Eng
set_option linter.unusedVariables false
set_option linter.unusedSimpArgs false
set_option maxRecDepth 100000
theorem Plcs.get {W : AW} {v : Value} {l : List Plc} (h : Plcs W v l) {i : Nat} (hi : i < l.length) : ∃ b o, (∀ W' k, ixS 3 v (.int k (i : Int)) W' = some (.pointer (some ⟨b, o, none⟩), W')) ∧
    ∀ W', Le W W' → ldC (.pointer (some ⟨b, o, none⟩)) W' = some (.int .i64 (l[i].1 : Int), W') ∧ ldC (.pointer (some ⟨b, o + 1, none⟩)) W' = some (.int .i64 (l[i].2.1 : Int), W') ∧ ldA 3 (.pointer (some ⟨b, o, none⟩)) W' = some (plcV l[i], W') := by
  obtain ⟨a, c, rfl, h⟩ := h
  rcases h with rfl | ⟨b, o, cs, rfl, hb, hc, hat⟩
  · simp at hi
  · refine ⟨b, o + i * 3, fun W' k => ixS_ok hi, fun W' hle => ?_⟩
    have hc' := (hle.cellsAt hb).trans hc
    obtain ⟨h1, h2, h3⟩ := hat i hi
    refine ⟨ldC_ok hc' h1, ldC_ok hc' h2, ?_⟩
    have := take3 h1 h2 h3
    rw [ldA_eq, hc', Option.bind_some, this]
    rfl
/-- the index of the first, and nought if there is none -/
def fidx {α : Type} (p : α → Bool) (l : List α) : Nat := if (l.filter p).length = 0 then 0 else l.findIdx p
def isSecP (sec : Int) (q : Plc) : Bool := decide ((q.1 : Int) = sec)
def refOfE (v : Ven) (sec : Int) : Int × Int × Int := if (venE v).2 = 0 then
  if ((places v.secs).filter (isSecP sec)).length = 0 then (0, 0, 4) else ((fidx (isSecP sec) (places v.secs) : Nat), (((places v.secs).filter (isSecP sec)).length : Nat), 0)
  else (0, 0, (venE v).2)
end Go.Proofs.YtfcfglpkgcheiaaDoor
/- The rows and the places say the same: in plain. -/
namespace Go.Proofs.YtfcfglpkgcheiaaDoor
open Go Go.Eng
set_option linter.unusedVariables false
set_option linter.unusedSimpArgs false
set_option maxRecDepth 100000
def rowPl (r : RowT) : List Plc := rowP r.sec r.row r.many.toNat
def refPlaceE (v : Ven) (seat : Int) : Plc × Int := if (seatsE v).2 = 0 then (if seat < 0 ∨ (seatsE v).1 ≤ seat then ((0, 0, 0), 4) else ((places v.secs).getD seat.toNat (0, 0, 0), 0)) else ((0, 0, 0), (seatsE v).2)
end Go.Proofs.YtfcfglpkgcheiaaDoor
/- Place, Shard, Lock, Cover of the document: the same answers as the code's. -/
namespace Go.Proofs.YtfcfglpkgcheiaaDoor
open Go Go.Eng
set_option linter.unusedVariables false
set_option linter.unusedSimpArgs false
set_option maxRecDepth 100000
/-- is s the shard of one of many seats from fi on -/
def hitS (sh fi : Int) (m : Nat) (s : Nat) : Bool := (List.range m).any fun (i : Nat) => decide ((fi + (i : Int)) % sh = (s : Int))
theorem hitS_succ (sh fi : Int) (m s : Nat) : hitS sh fi (m + 1) s = (hitS sh fi m s || decide ((fi + (m : Int)) % sh = (s : Int))) := by simp [hitS, List.range_succ]
def refCov (sh fi : Int) (m : Nat) (k : Nat) : List Int := ((List.range k).filter (hitS sh fi m)).map fun (s : Nat) => (s : Int)
theorem refCov_succ (sh fi : Int) (m k : Nat) : refCov sh fi m (k + 1) = if hitS sh fi m k = true then refCov sh fi m k ++ [(k : Int)] else refCov sh fi m k := by
  unfold refCov
  rw [List.range_succ]
  cases h : hitS sh fi m k with
  | true => rw [filter_yes h, if_pos rfl, List.map_append]; rfl
  | false => rw [filter_not h, if_neg (by simp)]
theorem refCov_len (sh fi : Int) (m k : Nat) : (refCov sh fi m k).length ≤ k := by
  unfold refCov
  rw [List.length_map]
  have := List.length_filter_le (hitS sh fi m) (List.range k)
  rwa [List.length_range] at this
theorem law_cov {sh fi : Int} {m : Nat} (hsh : 1 ≤ sh) (hfi : 0 ≤ fi) : refCov sh fi m sh.toNat = sortL (covL sh fi (min (m : Int) sh).toNat) := by
  have hp : (refCov sh fi m sh.toNat).Pairwise fun a b => a < b := by
    unfold refCov
    rw [List.pairwise_map]
    exact (List.pairwise_lt_range.filter _).imp fun h => by omega
  have hn1 : (refCov sh fi m sh.toNat).Nodup := hp.imp fun h => by omega
  have hn2 : (covL sh fi (min (m : Int) sh).toNat).Nodup := by
    unfold covL List.Nodup
    rw [List.pairwise_map]
    refine List.Pairwise.imp_of_mem ?_ (List.pairwise_lt_range (n := (min (m : Int) sh).toNat))
    intro i j hi hj hij he
    rw [List.mem_range] at hi hj
    have h1 := Int.emod_emod_of_dvd (fi + (j : Int)) (Int.dvd_refl sh)
    have h2 := (Int.emod_eq_emod_iff_emod_sub_eq_zero).1 he.symm
    rw [show fi + (j : Int) - (fi + (i : Int)) = (j : Int) - i by omega, Int.emod_eq_of_lt (by omega) (by omega)] at h2
    omega
  have hperm : (covL sh fi (min (m : Int) sh).toNat).Perm (refCov sh fi m sh.toNat) := by
    rw [List.perm_ext_iff_of_nodup hn2 hn1]
    intro a
    unfold covL refCov hitS
    simp only [List.mem_map, List.mem_range, List.mem_filter, List.any_eq_true, decide_eq_true_eq]
    constructor
    · rintro ⟨i, hi, rfl⟩
      have h1 := Int.emod_nonneg (fi + (i : Int)) (by omega : sh ≠ 0)
      have h2 := Int.emod_lt_of_pos (fi + (i : Int)) (by omega : 0 < sh)
      exact ⟨((fi + (i : Int)) % sh).toNat, ⟨by omega, i, by omega, by omega⟩, by omega⟩
    · rintro ⟨s, ⟨hs, i, hi, he⟩, rfl⟩
      by_cases hc : (m : Int) ≤ sh
      · exact ⟨i, by omega, he⟩
      · have h1 := Int.emod_nonneg (i : Int) (by omega : sh ≠ 0)
        have h2 := Int.emod_lt_of_pos (i : Int) (by omega : 0 < sh)
        refine ⟨((i : Int) % sh).toNat, by omega, ?_⟩
        rw [Int.toNat_of_nonneg h1, Int.add_emod_emod]
        exact he
  refine List.Perm.eq_of_pairwise (le := fun a b => a ≤ b) (fun a b _ _ h1 h2 => by omega) (hp.imp fun h => by omega) ?_ (hperm.symm.trans (List.mergeSort_perm _ _).symm)
  refine (List.pairwise_mergeSort (le := fun x y : Int => decide (x ≤ y)) ?_ ?_ _).imp fun h => of_decide_eq_true h
  · intro a b c h1 h2
    have := of_decide_eq_true h1
    have := of_decide_eq_true h2
    exact decide_eq_true (by omega)
  · intro a b
    by_cases h : a ≤ b
    · rw [decide_eq_true h]; rfl
    · rw [decide_eq_true (show b ≤ a by omega), Bool.or_true]
end Go.Proofs.YtfcfglpkgcheiaaDoor
/- The seats beside one; venues that are too far to be looked at. -/
namespace Go.Proofs.YtfcfglpkgcheiaaDoor
open Go Go.Eng
set_option linter.unusedVariables false
set_option linter.unusedSimpArgs false
set_option maxRecDepth 100000
def sidesE (v : Ven) (seat : Int) : Int × Int × Int := if (findE v seat).2 = 0 then
  (if seat - 1 < (findE v seat).1.first then -1 else seat - 1, if seat + 1 = (findE v seat).1.first + (findE v seat).1.many then -1 else seat + 1, 0) else (0, 0, (findE v seat).2)
/-- seats that are counted: rows of 1 to 100 -/
def cntI (l : List Int) : Int := sumI (l.map fun n => if 0 < n ∧ n ≤ 100 then n else 0)
theorem cntI_take {l : List Int} {k : Nat} (hk : k < l.length) : cntI (l.take (k + 1)) = cntI (l.take k) + (if 0 < l[k] ∧ l[k] ≤ 100 then l[k] else 0) := by
  unfold cntI
  rw [List.take_add_one, List.getElem?_eq_getElem hk, Option.toList_some, List.map_append, List.map_cons, List.map_nil, sumI_app]
theorem cntI_bound (l : List Int) (k : Nat) : 0 ≤ cntI (l.take k) ∧ cntI (l.take k) ≤ 100 * k := by
  induction k with
  | zero => simp [cntI, sumI]
  | succ k ih =>
    by_cases hk : k < l.length
    · rw [cntI_take hk]
      split <;> omega
    · rw [List.take_of_length_le (show l.length ≤ k by omega)] at ih
      rw [List.take_of_length_le (show l.length ≤ k + 1 by omega)]
      omega
def cnt (l : List Sec) : Int := sumI (l.map fun s => cntI s.rows)
theorem cnt_take {l : List Sec} {k : Nat} (hk : k < l.length) : cnt (l.take (k + 1)) = cnt (l.take k) + cntI l[k].rows := by
  unfold cnt
  rw [List.take_add_one, List.getElem?_eq_getElem hk, Option.toList_some, List.map_append, List.map_cons, List.map_nil, sumI_app]
theorem cnt_bound (l : List Sec) (h : ∀ s ∈ l, s.rows.length ≤ 20) (k : Nat) : 0 ≤ cnt (l.take k) ∧ cnt (l.take k) ≤ 2000 * k := by
  induction k with
  | zero => simp [cnt, sumI]
  | succ k ih =>
    by_cases hk : k < l.length
    · rw [cnt_take hk]
      have h1 := cntI_bound l[k].rows l[k].rows.length
      rw [List.take_length] at h1
      have := h _ (List.getElem_mem hk)
      omega
    · rw [List.take_of_length_le (show l.length ≤ k by omega)] at ih
      rw [List.take_of_length_le (show l.length ≤ k + 1 by omega)]
      omega
theorem lenV : ((#[34] : Array TypeId)[0]?).bind Tryd.prog.underlying = some (.slice 62) := by kernel_rfl
/-- is a venue near enough -/
def Near (v : Ven) : Prop := v.secs.length ≤ 10 ∧ (∀ s ∈ v.secs, s.rows.length ≤ 20) ∧ cnt v.secs ≤ 200
theorem far_ok {v : Ven} {sv : Value} {W : AW} (hs : Secs W sv v.secs) : ∃ b, omS (.func (.func 29) #[] #[]) [venV v sv] W = some (.bool b, W) ∧ (b = false → Near v) := by
  have main : Ok (law15_Far omS (venV v sv) W) fun r => ∃ b, r.1 = .bool b ∧ Le W r.2 ∧ (b = false → Near v) := by
    unfold law15_Far
    obtain ⟨W1, hB, hle, hn, c4, c0, c3⟩ := venBox v sv W
    have hs1 := hs.mono hle
    have hsn := hle.next
    have add1 : ∀ (k : Nat) (W' : AW), k < 1000000 → oBin Tryd.prog .add 3 false true (.int .i64 (k : Int)) (.int .i64 1) W' = some (.int .i64 ((k + 1 : Nat) : Int), W') := fun k W' hk => oBin_add (by omega) (by omega)
    simp only [SX, hB, c3 _ (.refl _), hs1.len lenV]
    by_cases t0 : 10 < (v.secs.length : Int)
    · simp only [SX, decide_eq_true t0, Ok_some]
      exact ⟨_, rfl, hle, fun hb => by cases hb⟩
    simp only [SX, decide_eq_false t0]
    have hl : v.secs.length ≤ 10 := by omega
    refine Ok_loop v.secs.length (by omega) (fun i R W' => Le W1 W' ∧ R 1 = .pointer (some ⟨W.next, 0, none⟩) ∧ R 3 = .int .i64 (cnt (v.secs.take i)) ∧ R 4 = .int .i64 (i : Int) ∧ ∀ j (h : j < v.secs.length), j < i → v.secs[j].rows.length ≤ 20)
      (fun r => Le W1 r.2.2 ∧ ((r.1 = .exit 0 ∧ r.2.1 3 = .int .i64 (cnt v.secs) ∧ ∀ s ∈ v.secs, s.rows.length ≤ 20) ∨ (r.1 = .ret ∧ r.2.1 2 = .bool true))) ⟨.refl _, rfl, rfl, rfl, fun j h hj => by omega⟩ ?_ ?_ ?_
    · rintro i R W' hi ⟨hl1, f1, f3, f4, hj⟩
      unfold law15_Far_L1
      have e1 : ((i : Int) < (v.secs.length : Int)) := by omega
      obtain ⟨b, o, rv, p1, p2, p3, p4, p5, -⟩ := hs1.get hi
      have hlw := hl1.next
      have hc2 : cellsAt (W'.add (.cells [.string (bytesL v.secs[i].name), rv, .int .i64 v.secs[i].q])) W'.next = some [.string (bytesL v.secs[i].name), rv, .int .i64 v.secs[i].q] := cellsAt_new
      simp only [SX, f1, f4, Nat.zero_add, c3 _ hl1, hs1.len lenV, e1, decide_true, p1, p3 _ hl1, al62, stV3 rwCells_new (one_string _) (Row.one p2) (one_int _ _), put_add_cells]
      have l2 : Le W1 (W'.add (.cells [.string (bytesL v.secs[i].name), rv, .int .i64 v.secs[i].q])) := hl1.add _
      have n2 : (W'.add (.cells [.string (bytesL v.secs[i].name), rv, .int .i64 v.secs[i].q])).next = W'.next + 1 := AW.add_next _ _
      generalize hW2 : W'.add (.cells [.string (bytesL v.secs[i].name), rv, .int .i64 v.secs[i].q]) = W2 at *
      have d0 : ∀ W3, Le W2 W3 → ldC (.pointer (some ⟨W'.next, 0, none⟩)) W3 = some (.string (bytesL v.secs[i].name), W3) := fun W3 h3 => ldC_ok (by rw [h3.cellsAt (by omega)]; exact hc2) rfl
      have d1 : ∀ W3, Le W2 W3 → ldC (.pointer (some ⟨W'.next, 1, none⟩)) W3 = some (rv, W3) := fun W3 h3 => ldC_ok (by rw [h3.cellsAt (by omega)]; exact hc2) rfl
      simp only [SX, d1 _ (.refl _), p2.len lenI]
      by_cases t1 : 20 < (v.secs[i].rows.length : Int)
      · simp only [SX, decide_eq_true t1, Ok_some]
        exact .inr ⟨by simp, l2, .inr ⟨trivial, rfl⟩⟩
      simp only [SX, decide_eq_false t1, d0 _ (.refl _), str_len len9]
      by_cases t2 : 100 < (v.secs[i].name.length : Int)
      · simp only [SX, decide_eq_true t2, Ok_some]
        exact .inr ⟨by simp, l2, .inr ⟨trivial, rfl⟩⟩
      simp only [SX, decide_eq_false t2]
      have hj20 : ∀ s ∈ v.secs.take i, s.rows.length ≤ 20 := fun s hs => by
        obtain ⟨j, hj2, rfl⟩ := List.getElem_of_mem hs
        rw [List.length_take] at hj2
        rw [List.getElem_take]
        exact hj j (by omega) (by omega)
      have hcb := cnt_bound (v.secs.take i) hj20 i
      rw [List.take_take, Nat.min_self] at hcb
      refine Ok_loop v.secs[i].rows.length (by omega) (fun k R X => X = W2 ∧ R 1 = .pointer (some ⟨W.next, 0, none⟩) ∧ R 3 = .int .i64 (cnt (v.secs.take i) + cntI (v.secs[i].rows.take k)) ∧ R 4 = .int .i64 (i : Int) ∧ R 5 = .pointer (some ⟨W'.next, 0, none⟩) ∧ R 6 = .int .i64 (k : Int))
        (fun r => r.2.2 = W2 ∧ r.1 = .exit 2 ∧ r.2.1 1 = .pointer (some ⟨W.next, 0, none⟩) ∧ r.2.1 3 = .int .i64 (cnt (v.secs.take i) + cntI v.secs[i].rows) ∧ r.2.1 4 = .int .i64 (i : Int)) ⟨rfl, f1, by rw [show cntI (v.secs[i].rows.take 0) = 0 from rfl, Int.add_zero]; exact f3, f4, rfl, rfl⟩ ?_ ?_ ?_
      · rintro k R W3 hk ⟨rfl, g1, g3, g4, g5, g6⟩
        unfold law15_Far_L1_L2
        have e2 : ((k : Int) < (v.secs[i].rows.length : Int)) := by omega
        obtain ⟨p, q1, q2⟩ := p2.get hk
        have hkb := cntI_bound v.secs[i].rows k
        have ht := cntI_take hk
        simp only [SX, g3, g5, g6, Nat.zero_add, d1 _ (.refl _), p2.len lenI, e2, decide_true, q1, q2 _ l2]
        by_cases t3 : 0 < v.secs[i].rows[k]
        case neg =>
          rw [if_neg (by omega), Int.add_zero] at ht
          simp only [SX, decide_eq_false t3, g6, add1 k _ (by omega), Ok_some]
          exact .inl ⟨trivial, trivial, g1, by rw [ht]; exact g3, g4, g5, rfl⟩
        simp only [SX, decide_eq_true t3, g5, g6, Nat.zero_add, d1 _ (.refl _), q1, q2 _ l2]
        by_cases t4 : v.secs[i].rows[k] ≤ 100
        case neg =>
          rw [if_neg (by omega), Int.add_zero] at ht
          simp only [SX, decide_eq_false t4, g6, add1 k _ (by omega), Ok_some]
          exact .inl ⟨trivial, trivial, g1, by rw [ht]; exact g3, g4, g5, rfl⟩
        rw [if_pos ⟨t3, t4⟩] at ht
        have ea : ∀ W', oBin Tryd.prog .add 3 false false (.int .i64 (cnt (v.secs.take i) + cntI (v.secs[i].rows.take k))) (.int .i64 v.secs[i].rows[k]) W' = some (.int .i64 (cnt (v.secs.take i) + cntI (v.secs[i].rows.take k) + v.secs[i].rows[k]), W') := fun W' => oBin_add (by omega) (by omega)
        simp only [SX, decide_eq_true t4, g3, g5, g6, Nat.zero_add, d1 _ (.refl _), q1, q2 _ l2, ea, add1 k _ (by omega), Ok_some]
        exact .inl ⟨trivial, trivial, g1, by rw [ht, ← Int.add_assoc]; rfl, g4, g5, rfl⟩
      · rintro R W3 ⟨rfl, g1, g3, g4, g5, g6⟩
        unfold law15_Far_L1_L2
        have e2 : ¬ ((v.secs[i].rows.length : Int) < (v.secs[i].rows.length : Int)) := by omega
        rw [List.take_length] at g3
        simp only [SX, g5, g6, Nat.zero_add, d1 _ (.refl _), p2.len lenI, e2, decide_false, Ok_some]
        exact ⟨by simp, trivial, trivial, g1, g3, g4⟩
      · rintro ⟨x, R, W3⟩ ⟨hW, hx, g1, g3, g4⟩
        simp only at hW hx g1 g3 g4
        subst hW hx
        simp only [SX, g4, add1 i _ (by omega), Ok_some]
        refine .inl ⟨trivial, l2, g1, by rw [cnt_take hi]; exact g3, rfl, fun j h hji => ?_⟩
        by_cases hji2 : j < i
        · exact hj j h hji2
        · obtain rfl : j = i := by omega
          omega
    · rintro R W' ⟨hl1, f1, f3, f4, hj⟩
      unfold law15_Far_L1
      have e1 : ¬ ((v.secs.length : Int) < (v.secs.length : Int)) := by omega
      rw [List.take_length] at f3
      simp only [SX, f1, f4, Nat.zero_add, c3 _ hl1, hs1.len lenV, e1, decide_false, Ok_some]
      exact ⟨by simp, hl1, .inl ⟨trivial, f3, fun s hs => by
        obtain ⟨j, hj2, rfl⟩ := List.getElem_of_mem hs
        exact hj j hj2 hj2⟩⟩
    · rintro ⟨x, R, W'⟩ ⟨hl1, hq⟩
      simp only at hl1 hq
      rcases hq with ⟨rfl, f3, hj⟩ | ⟨rfl, f2⟩
      · simp only [SX, f3, Ok_some]
        exact ⟨_, rfl, hle.trans hl1, fun hb => ⟨hl, hj, by have := of_decide_eq_false hb; omega⟩⟩
      · simp only [SX, f2, Ok_some]
        exact ⟨_, rfl, hle.trans hl1, fun hb => by cases hb⟩
  obtain ⟨⟨r, W'⟩, h1, b, h2, h3, h4⟩ := main
  simp only at h2 h3
  subst h2
  exact ⟨b, by rw [law15_Far_om h1, gc_bool h3], h4⟩
end Go.Proofs.YtfcfglpkgcheiaaDoor
/- Where the rows of a venue lie: the code's answers at the places that there are. -/
namespace Go.Proofs.YtfcfglpkgcheiaaDoor
open Go Go.Eng
set_option linter.unusedVariables false
set_option linter.unusedSectionVars false
set_option linter.unusedSimpArgs false
set_option maxRecDepth 100000
theorem mem_secR {l : List Sec} {i k : Nat} {rows : List Int} {x : RowT} (h : x ∈ secR l i rows k) : x.sec = i ∧ x.row < k := by
  unfold secR at h
  obtain ⟨j, hj, rfl⟩ := List.mem_map.1 h
  exact ⟨rfl, List.mem_range.1 hj⟩
abbrev rowAt (l : List Sec) (i k : Nat) (n : Int) : RowT := ⟨i, k, total (l.take i) + sumI ((l.getD i ⟨[], [], 0⟩).rows.take k), n⟩
section
variable {v : Ven} (he : (venE v).2 = 0)
include he
theorem first_bounds {i k : Nat} (hi : i < v.secs.length) (hk : k < v.secs[i].rows.length) : 0 ≤ total (v.secs.take i) ∧ 0 ≤ sumI (v.secs[i].rows.take k) ∧ 1 ≤ v.secs[i].rows[k] ∧ v.secs[i].rows[k] ≤ 64 ∧ total (v.secs.take i) + sumI (v.secs[i].rows.take k) + v.secs[i].rows[k] ≤ total v.secs ∧ total v.secs ≤ 4096 := by
  obtain ⟨hg, -, -, -, hm, -⟩ := venE_good he
  have hp := rows_pre hi hk
  obtain ⟨k1, k2, k3, k4, k5, k6, k7⟩ := row_next hg hp
  simp only at k2 k5 k6 k7
  have h1 := plcK_len hg (by omega : i ≤ v.secs.length)
  have h2 := (sumI_bound (hg.rows _ (List.getElem_mem hi)).2.2 k).1
  have h3 := manyS_pre hp (fun r hr => ((rows_mem hr).many hg).1)
  rw [rows_sum] at h3
  refine ⟨by omega, by omega, k5, k6, ?_, hm⟩
  omega
theorem filter_sec (i : Nat) : ∀ {n : Nat}, n ≤ v.secs.length → (rowsK v.secs n).filter (isSec (i : Int)) = if h : i < n then secR v.secs i (v.secs.getD i ⟨[], [], 0⟩).rows (v.secs.getD i ⟨[], [], 0⟩).rows.length else []
  | 0, _ => by simp [rowsK]
  | n + 1, hn => by
    have hn' : n < v.secs.length := by omega
    rw [rowsK_succ v.secs hn', List.filter_append, filter_sec i (by omega)]
    by_cases h : i < n
    · rw [dif_pos h, dif_pos (by omega)]
      rw [List.filter_eq_nil_iff.2, List.append_nil]
      intro x hx
      obtain ⟨h1, -⟩ := mem_secR hx
      simp only [isSec, decide_eq_true_eq]
      omega
    · rw [dif_neg h, List.nil_append]
      by_cases h2 : i = n
      · subst h2
        rw [dif_pos (by omega), List.filter_eq_self.2, List.getD_eq_getElem?_getD, List.getElem?_eq_getElem hn', Option.getD_some]
        intro x hx
        obtain ⟨h1, -⟩ := mem_secR hx
        simp only [isSec, decide_eq_true_eq]
        omega
      · rw [dif_neg (by omega), List.filter_eq_nil_iff.2]
        intro x hx
        obtain ⟨h1, -⟩ := mem_secR hx
        simp only [isSec, decide_eq_true_eq]
        omega
theorem ofE_at {i : Nat} (hi : i < v.secs.length) : ofE v (i : Int) = (total (v.secs.take i), sumI v.secs[i].rows, 0) := by
  obtain ⟨hg, -⟩ := venE_good he
  obtain ⟨h1, h2, h3⟩ := hg.rows _ (List.getElem_mem hi)
  have hf : (rowsL v.secs).filter (isSec (i : Int)) = secR v.secs i v.secs[i].rows v.secs[i].rows.length := by
    unfold rowsL
    rw [filter_sec he i (Nat.le_refl _), dif_pos hi, List.getD_eq_getElem?_getD, List.getElem?_eq_getElem hi, Option.getD_some]
  have hm := secR_sum v.secs i v.secs[i].rows (Nat.le_refl _)
  rw [List.take_length] at hm
  have hp := (sumI_bound h3 v.secs[i].rows.length).2
  rw [List.take_length] at hp
  have hfst : fstS (secR v.secs i v.secs[i].rows v.secs[i].rows.length) = total (v.secs.take i) := by
    obtain ⟨n, hn⟩ : ∃ n, v.secs[i].rows.length = n + 1 := ⟨v.secs[i].rows.length - 1, by omega⟩
    rw [hn]
    unfold secR
    rw [List.range_succ_eq_map, List.map_cons]
    simp [fstS, sumI]
  unfold ofE
  rw [if_pos he, hf, hm, hfst, if_neg (by omega)]
end
end Go.Proofs.YtfcfglpkgcheiaaDoor
/- VenueInverse: what it answers. -/
namespace Go.Proofs.YtfcfglpkgcheiaaDoor
open Go Go.Eng
set_option linter.unusedVariables false
set_option linter.unusedSimpArgs false
set_option linter.unusedSectionVars false
set_option maxRecDepth 100000
theorem cntI_total {l : List Int} (h : ∀ n ∈ l, 1 ≤ n ∧ n ≤ 64) : cntI l = sumI l := by
  unfold cntI
  congr 1
  refine (List.map_congr_left (g := id) fun n hn => ?_).trans (List.map_id l)
  have := h n hn
  rw [if_pos (by omega)]
  rfl
theorem cnt_total {l : List Sec} (hg : Good l) : cnt l = total l := by
  unfold cnt total
  congr 1
  exact List.map_congr_left fun s hs => cntI_total (hg.rows s hs).2.2
section
variable {v : Ven} (he : (venE v).2 = 0)
include he
theorem total_pos : 1 ≤ total v.secs := by
  obtain ⟨hg, -, h0, -⟩ := venE_good he
  obtain ⟨h1, -, -⟩ := hg.rows _ (List.getElem_mem h0)
  have := first_bounds he h0 (k := 0) (by omega)
  omega
end
end Go.Proofs.YtfcfglpkgcheiaaDoor
/- VenueBeside: what it answers. -/
namespace Go.Proofs.YtfcfglpkgcheiaaDoor
open Go Go.Eng
set_option linter.unusedVariables false
set_option linter.unusedSimpArgs false
set_option linter.unusedSectionVars false
set_option maxRecDepth 100000
section
variable {v : Ven} (he : (venE v).2 = 0)
include he
theorem findE_row {a b : List RowT} {r : RowT} (h : rowsL v.secs = a ++ r :: b) {s : Int} (h0 : r.first ≤ s) (h1 : s < r.first + r.many) : findE v s = (r, 0) ∧ r.first = manyS a := by
  obtain ⟨hg, -⟩ := venE_good he
  have hf := rows_firsts v.secs
  rw [h] at hf
  have e2 := Firsts.at hf
  have hp : a ++ [r] <+: rowsL v.secs := ⟨b, by rw [h]; simp⟩
  refine ⟨?_, by omega⟩
  unfold findE
  rw [if_pos he, find_pre hp (fun x hx => ?_) (by simp only [inRow, Bool.and_eq_true, decide_eq_true_eq]; omega)]
  obtain ⟨c, d, hcd⟩ := List.append_of_mem hx
  rw [hcd] at hf e2
  have e1 := Firsts.at (a := c) (b := d ++ r :: b) (r := x) (s := 0) (by simpa using hf)
  rw [manyS_append, manyS_cons] at e2
  have hb : 0 ≤ manyS d := by
    have := manyS_pos (l := d) (fun y hy => ((rows_mem (l := v.secs) (r := y) (by rw [h, hcd]; simp [hy])).many hg).1)
    omega
  simp only [inRow, Bool.and_eq_false_iff, decide_eq_false_iff_not]
  right
  omega
theorem findE_in {s : Int} (h0 : 0 ≤ s) (h1 : s < total v.secs) : (findE v s).2 = 0 := by
  obtain ⟨hg, -⟩ := venE_good he
  have key : ∀ (b a : List RowT), rowsL v.secs = a ++ b → manyS a ≤ s → (findE v s).2 = 0 := by
    intro b
    induction b with
    | nil =>
      intro a h hm
      have := rows_sum v.secs
      rw [h, List.append_nil] at this
      omega
    | cons r b ih =>
      intro a h hm
      have hf := rows_firsts v.secs
      rw [h] at hf
      have e2 := Firsts.at hf
      by_cases hlt : s < r.first + r.many
      · rw [(findE_row he h (s := s) (by omega) hlt).1]
      · exact ih (a ++ [r]) (by rw [h]; simp) (by rw [manyS_append, manyS_cons, manyS_nil]; omega)
  exact key _ [] rfl (by rw [manyS_nil]; exact h0)
end
/-- which seat is said to be to the right, when a seat's turn comes -/
def lastE (v : Ven) (s : Int) : Int := if s = total v.secs ∨ (findE v s).1.first = s then -1 else s
end Go.Proofs.YtfcfglpkgcheiaaDoor
/- VenueShards: what it answers. -/
namespace Go.Proofs.YtfcfglpkgcheiaaDoor
open Go Go.Eng
set_option linter.unusedVariables false
set_option linter.unusedSimpArgs false
set_option linter.unusedSectionVars false
set_option maxRecDepth 100000
def updV {α : Type} (f : Nat → α) (i : Nat) (a : α) : Nat → α := fun j => if j = i then a else f j
def rowN (n : Nat) (f : Nat → Value) : List Value := (List.range n).map f
def intV (f : Nat → Int) : Nat → Value := fun j => .int .i64 (f j)
def boolV (f : Nat → Bool) : Nat → Value := fun j => .bool (f j)
theorem rowN_len (n : Nat) (f : Nat → Value) : (rowN n f).length = n := by simp [rowN]
theorem rowN_get {n : Nat} (f : Nat → Value) {i : Nat} (h : i < n) : (rowN n f)[i]? = some (f i) := by
  unfold rowN
  rw [List.getElem?_map, List.getElem?_range h]; rfl
theorem rowN_set {n : Nat} (f : Nat → Value) (i : Nat) (v : Value) : (rowN n f).set i v = rowN n (updV f i v) := by
  apply List.ext_getElem?
  intro j
  rw [List.getElem?_set, rowN_len]
  by_cases hj : j < n
  · rw [rowN_get _ hj, rowN_get _ hj]
    unfold updV
    by_cases hij : i = j
    · rw [if_pos hij, if_pos (by omega), if_pos hij.symm]
    · rw [if_neg hij, if_neg (fun e => hij e.symm)]
  · rw [List.getElem?_eq_none (l := rowN n f) (by rw [rowN_len]; omega), List.getElem?_eq_none (l := rowN n (updV f i v)) (by rw [rowN_len]; omega)]
    split
    · rw [if_neg (by omega)]
    · rfl
theorem updV_int (f : Nat → Int) (i : Nat) (a : Int) : updV (intV f) i (.int .i64 a) = intV (updV f i a) := by
  funext j
  by_cases h : j = i
  · simp [updV, intV, h]
  · simp [updV, intV, h]
theorem updV_bool (f : Nat → Bool) (i : Nat) (a : Bool) : updV (boolV f) i (.bool a) = boolV (updV f i a) := by
  funext j
  by_cases h : j = i
  · simp [updV, boolV, h]
  · simp [updV, boolV, h]
theorem ar16 {b : Nat} {x : Nat} {k : IntKind} {W : AW} (h : x < 16) : ixA 16 1 (.pointer (some ⟨b, 0, none⟩)) (.int k (x : Int)) W = some (.pointer (some ⟨b, x, none⟩), W) := by
  rw [ixA_ok h, Nat.zero_add, Nat.mul_one]
theorem rowN_ld {b n i : Nat} {f : Nat → Value} {W : AW} (h : rwCells W b = some (rowN n f)) (hi : i < n) : ldC (.pointer (some ⟨b, i, none⟩)) W = some (f i, W) := ldR h (rowN_get f hi)
theorem rowN_stI {b n i : Nat} {f : Nat → Int} {W : AW} (h : rwCells W b = some (rowN n (intV f))) (hi : i < n) (x : Int) : stV 1 (.pointer (some ⟨b, i, none⟩)) (.int .i64 x) W = some (undef, W.put b (.cells (rowN n (intV (updV f i x))))) := by
  rw [stV_int, h, Option.bind_some, if_pos (by rw [rowN_len]; exact hi), rowN_set, updV_int]
theorem rowN_stB {b n i : Nat} {f : Nat → Bool} {W : AW} (h : rwCells W b = some (rowN n (boolV f))) (hi : i < n) (x : Bool) : stV 1 (.pointer (some ⟨b, i, none⟩)) (.bool x) W = some (undef, W.put b (.cells (rowN n (boolV (updV f i x))))) := by
  rw [stV_bool, h, Option.bind_some, if_pos (by rw [rowN_len]; exact hi), rowN_set, updV_bool]
theorem al69 (W : AW) : oAlloc Tryd.prog 69 W = some (.pointer (some ⟨W.next, 0, none⟩), W.add (.cells (rowN 16 (intV fun _ => 0)))) := Eq.trans (by kernel_rfl) rfl
theorem al72 (W : AW) : oAlloc Tryd.prog 72 W = some (.pointer (some ⟨W.next, 0, none⟩), W.add (.cells (rowN 16 (boolV fun _ => false)))) := Eq.trans (by kernel_rfl) rfl
/-! ### how many seats a shard has -/
def cntS (sh : Nat) : Nat → Nat → Int
  | 0, _ => 0
  | i + 1, s => cntS sh i s + if i % sh = s then 1 else 0
theorem cntS_eq {sh : Nat} (h : 0 < sh) : ∀ (i : Nat) {s : Nat}, s < sh → cntS sh i s = ((i / sh + if s < i % sh then 1 else 0 : Nat) : Int)
  | 0, s, hs => by simp [cntS]
  | i + 1, s, hs => by
    rw [cntS, cntS_eq h i hs]
    have hr := Nat.mod_lt i h
    have hd := Nat.div_add_mod i sh
    by_cases hc : i % sh + 1 = sh
    · have e1 : i + 1 = sh * (i / sh + 1) := by rw [Nat.mul_add, Nat.mul_one]; omega
      have e2 : (i + 1) / sh = i / sh + 1 := by rw [e1, Nat.mul_div_cancel_left _ h]
      have e3 : (i + 1) % sh = 0 := by rw [e1, Nat.mul_mod_right]
      rw [e2, e3]
      by_cases h1 : s < i % sh
      · rw [if_pos h1, if_neg (by omega), if_neg (by omega)]; omega
      · rw [if_neg h1, if_pos (by omega), if_neg (by omega)]; omega
    · have e1 : i + 1 = i % sh + 1 + sh * (i / sh) := by omega
      have e2 : (i + 1) / sh = i / sh := by rw [e1, Nat.add_mul_div_left _ _ h, Nat.div_eq_of_lt (by omega)]; omega
      have e3 : (i + 1) % sh = i % sh + 1 := by rw [e1, Nat.add_mul_mod_self_left, Nat.mod_eq_of_lt (by omega)]
      rw [e2, e3]
      by_cases h1 : s < i % sh
      · rw [if_pos h1, if_neg (by omega), if_pos (by omega)]; omega
      · by_cases h2 : i % sh = s
        · rw [if_neg h1, if_pos h2, if_pos (by omega)]; omega
        · rw [if_neg h1, if_neg h2, if_neg (by omega)]; omega
theorem cntS_near {sh : Nat} (h : 0 < sh) (i : Nat) {s : Nat} (hs : s < sh) : cntS sh i s ≤ cntS sh i 0 ∧ cntS sh i 0 - 1 ≤ cntS sh i s ∧ 0 ≤ cntS sh i s ∧ cntS sh i s ≤ i + 1 := by
  rw [cntS_eq h i hs, cntS_eq h i h]
  have := Nat.div_le_self i sh
  generalize i / sh = q at *
  generalize i % sh = r at *
  by_cases h1 : s < r
  · rw [if_pos h1, if_pos (by omega)]; omega
  · rw [if_neg h1]
    split <;> omega
theorem updV_cnt {sh i : Nat} : updV (cntS sh i) (i % sh) (cntS sh i (i % sh) + 1) = cntS sh (i + 1) := by
  funext j
  unfold updV
  rw [cntS]
  by_cases h : j = i % sh
  · rw [if_pos h, if_pos h.symm, h]
  · rw [if_neg h, if_neg (fun e => h e.symm)]; omega
theorem shardE_in {v : Ven} (he : (venE v).2 = 0) {n : Nat} (hn : v.sh = (n : Int)) {i : Nat} (h1 : (i : Int) < total v.secs) : shardE v (i : Int) = (((i % n : Nat) : Int), 0) := by
  unfold shardE
  rw [if_pos (findE_in he (by omega) h1), hn, Int.natCast_emod]
theorem updV_hit {sh : Int} {fi m : Nat} {s : Nat} (hs : ((fi : Int) + (m : Int)) % sh = (s : Int)) : updV (hitS sh (fi : Int) m) s true = hitS sh (fi : Int) (m + 1) := by
  funext j
  unfold updV
  rw [hitS_succ, hs]
  by_cases h : j = s
  · rw [if_pos h, h]; simp
  · rw [if_neg h, decide_eq_false (by omega), Bool.or_false]
theorem refCov_at {sh fi : Int} {m k n : Nat} (hk : k < n) (hh : hitS sh fi m k = true) : ∃ h : (refCov sh fi m k).length < (refCov sh fi m n).length, (refCov sh fi m n)[(refCov sh fi m k).length] = (k : Int) := by
  have hp : refCov sh fi m (k + 1) <+: refCov sh fi m n := by
    clear hh
    induction n with
    | zero => omega
    | succ n ih =>
      by_cases e : k = n
      · subst e; exact List.prefix_refl _
      · refine (ih (by omega)).trans ?_
        rw [refCov_succ sh fi m n]
        split
        · exact List.prefix_append _ _
        · exact List.prefix_refl _
  rw [refCov_succ, if_pos hh] at hp
  obtain ⟨c, hc⟩ := hp
  refine ⟨by rw [← hc]; simp, ?_⟩
  have : (refCov sh fi m n)[(refCov sh fi m k).length]? = some (k : Int) := by rw [← hc]; simp
  exact List.getElem?_eq_some_iff.1 this |>.2
theorem venueShards_om {v : Ven} {sv : Value} {W : AW} (hs : SecsC W sv v.secs) (hG : GW W) : omS (.func (.func 11) #[] #[]) [venV v sv] W = some (.bool true, W) := by
  refine om_drop rfl ?_ law15_VenueShards_om
  unfold law15_VenueShards
  obtain ⟨W1, hB, hle, hn, c4, c0, c3⟩ := venBox v sv W
  have hsn := hle.next
  obtain ⟨b, w1, w2⟩ := far_ok (hs.mono hle).1
  simp only [SX, hB, c4 _ (.refl _), w1]
  cases b
  case true =>
    simp only [SX, awake_ok (hG.mono hle), Ok_some]
    exact ⟨trivial, hle⟩
  obtain ⟨w3, w4, w5⟩ := w2 rfl
  have hv : v.secs.length < 1000 := by omega
  have hs1 := hs.mono hle
  have hG1 := hG.mono hle
  simp only [SX, c4 _ (.refl _), seats_ok hs1 hv]
  unfold seatsE
  by_cases he : (venE v).2 = 0
  case neg =>
    simp only [SX, he, if_false, decide_true, awake_ok hG1, Ok_some]
    exact ⟨trivial, hle⟩
  obtain ⟨hg, -⟩ := venE_good he
  obtain ⟨hsh1, hsh2⟩ := venE_sh he
  have ht1 := total_pos he
  have ht2 : total v.secs ≤ 200 := by rw [← cnt_total hg]; exact w5
  have e2 : ¬ (200 < total v.secs) := by omega
  have e3 : ¬ (v.sh < 1) := by omega
  have e4 : ¬ (16 < v.sh) := by omega
  simp only [SX, if_pos he, decide_true, e2, e3, e4, decide_false, Nat.zero_add, c0 _ (.refl _), al69]
  obtain ⟨n, hn⟩ : ∃ n : Nat, total v.secs = (n : Int) := ⟨(total v.secs).toNat, (Int.toNat_of_nonneg (by omega)).symm⟩
  obtain ⟨d, hd⟩ : ∃ d : Nat, v.sh = (d : Int) := ⟨v.sh.toNat, (Int.toNat_of_nonneg (by omega)).symm⟩
  have hd0 : 0 < d := by omega
  have hd16 : d ≤ 16 := by omega
  rw [hn]
  have add1 : ∀ (k : Nat) (W' : AW), k < 1000000 → oBin Tryd.prog .add 3 false true (.int .i64 (k : Int)) (.int .i64 1) W' = some (.int .i64 ((k + 1 : Nat) : Int), W') := fun k W' hk => oBin_add (by omega) (by omega)
  refine Ok_loop n (by omega) (fun i R W' => Le W1 W' ∧ R 1 = .pointer (some ⟨W.next, 0, none⟩) ∧ R 3 = .int .i64 (n : Int) ∧ R 5 = .pointer (some ⟨W1.next, 0, none⟩) ∧ R 6 = .int .i64 (i : Int) ∧ rwCells W' W1.next = some (rowN 16 (intV (cntS d i))))
    (fun r => Le W1 r.2.2 ∧ r.1 = .exit 0 ∧ r.2.1 1 = .pointer (some ⟨W.next, 0, none⟩) ∧ r.2.1 3 = .int .i64 (n : Int) ∧ r.2.1 5 = .pointer (some ⟨W1.next, 0, none⟩) ∧ rwCells r.2.2 W1.next = some (rowN 16 (intV (cntS d n)))) ⟨(Le.refl _).add _, rfl, rfl, rfl, rfl, rwCells_new⟩ ?_ ?_ ?_
  · rintro i R W' hi ⟨hl, f1, f3, f5, f6, hc⟩
    unfold law15_VenueShards_L1
    have u1 : ((i : Int) < (n : Int)) := by omega
    have hm := Nat.mod_lt i hd0
    have u2 : ¬ (((i % d : Nat) : Int) < 0) := by omega
    have u3 : ¬ ((d : Int) ≤ ((i % d : Nat) : Int)) := by omega
    have hcb := cntS_near hd0 i hm
    have ea : ∀ W', oBin Tryd.prog .add 3 false true (.int .i64 (cntS d i (i % d))) (.int .i64 1) W' = some (.int .i64 (cntS d i (i % d) + 1), W') := fun W' => oBin_add (by omega) (by omega)
    have hld := rowN_ld hc (show i % d < 16 by omega)
    simp only [intV] at hld
    simp only [SX, f1, f3, f5, f6, u1, decide_true, Nat.zero_add, c4 _ hl, shard_ok (hs1.mono hl) hv, shardE_in he hd (show (i : Int) < total v.secs by omega), c0 _ hl, hd, u2, u3, decide_false, ar16 (show i % d < 16 by omega), hld, ea, rowN_stI hc (show i % d < 16 by omega), updV_cnt, add1 i _ (by omega), Ok_some]
    exact .inl ⟨trivial, hl.put (Nat.le_refl _) _, f1, f3, f5, rfl, rwCells_put _⟩
  · rintro R W' ⟨hl, f1, f3, f5, f6, hc⟩
    unfold law15_VenueShards_L1
    have u1 : ¬ ((n : Int) < (n : Int)) := by omega
    simp only [SX, f3, f6, u1, decide_false, Ok_some]
    exact ⟨by simp, hl, trivial, f1, f3, f5, hc⟩
  rintro ⟨x, R, W'⟩ ⟨hl, hx, f1, f3, f5, hc⟩
  simp only at hl hx f1 f3 f5 hc
  subst hx
  simp only [SX]
  have hl0 := rowN_ld hc (show 0 < 16 by omega)
  simp only [intV] at hl0
  refine Ok_loop d (by omega) (fun i R X => X = W' ∧ R 1 = .pointer (some ⟨W.next, 0, none⟩) ∧ R 3 = .int .i64 (n : Int) ∧ R 5 = .pointer (some ⟨W1.next, 0, none⟩) ∧ R 9 = .int .i64 (i : Int))
    (fun r => r.2.2 = W' ∧ r.1 = .exit 2 ∧ r.2.1 1 = .pointer (some ⟨W.next, 0, none⟩) ∧ r.2.1 3 = .int .i64 (n : Int)) ⟨rfl, f1, f3, f5, rfl⟩ ?_ ?_ ?_
  · rintro i R X hi ⟨rfl, f1, f3, f5, f9⟩
    unfold law15_VenueShards_L2
    have u1 : ((i : Int) < (d : Int)) := by omega
    obtain ⟨k1, k2, k3, k4⟩ := cntS_near hd0 n hi
    have hcb := cntS_near hd0 n hd0
    have hld := rowN_ld hc (show i < 16 by omega)
    simp only [intV] at hld
    have u2 : ¬ (cntS d n 0 < cntS d n i) := by omega
    have u3 : ¬ (cntS d n i < cntS d n 0 - 1) := by omega
    have es : ∀ W', oBin Tryd.prog .sub 3 false true (.int .i64 (cntS d n 0)) (.int .i64 1) W' = some (.int .i64 (cntS d n 0 - 1), W') := fun W' => oBin_sub (by omega) (by omega)
    have h0 : ∀ W', ixA 16 1 (.pointer (some ⟨W1.next, 0, none⟩)) (.int .i64 0) W' = some (.pointer (some ⟨W1.next, 0, none⟩), W') := fun W' => ar16 (x := 0) (by omega)
    simp only [SX, f1, f5, f9, Nat.zero_add, c0 _ hl, hd, u1, decide_true, ar16 (show i < 16 by omega), h0, hld, hl0, u2, u3, decide_false, es, add1 i _ (by omega), Ok_some]
    exact .inl ⟨trivial, trivial, f1, f3, f5, rfl⟩
  · rintro R X ⟨rfl, f1, f3, f5, f9⟩
    unfold law15_VenueShards_L2
    have u1 : ¬ ((d : Int) < (d : Int)) := by omega
    simp only [SX, f1, f9, Nat.zero_add, c0 _ hl, hd, u1, decide_false, Ok_some]
    exact ⟨by simp, trivial, trivial, f1, f3⟩
  clear f1 f3 f5 R
  rintro ⟨x, R, X⟩ ⟨hX, hx, f1, f3⟩
  simp only at hX hx f1 f3
  subst hX hx
  simp only [SX]
  refine Ok_loop v.secs.length (by omega) (fun i R X => Le W1 X ∧ R 1 = .pointer (some ⟨W.next, 0, none⟩) ∧ R 3 = .int .i64 (n : Int) ∧ R 10 = .int .i64 (i : Int))
    (fun r => Le W1 r.2.2 ∧ r.1 = .exit 4) ⟨hl, f1, f3, rfl⟩ ?_ ?_ ?_
  · clear hc hl0 hl f1 f3 R
    rintro i R W' hi ⟨hl, f1, f3, f10⟩
    unfold law15_VenueShards_L3
    have u1 : ((i : Int) < (v.secs.length : Int)) := by omega
    obtain ⟨u, W2, g1, g2, g3⟩ := cover_ok (sec := (i : Int)) (hs1.mono hl) hv
    obtain ⟨r1, r2, r3⟩ := hg.rows _ (List.getElem_mem hi)
    have hoa := ofE_at he hi
    have hce : coverE v (i : Int) = (refCov v.sh (total (v.secs.take i)) (sumI v.secs[i].rows).toNat v.sh.toNat, 0) := by
      obtain ⟨m, hm⟩ : ∃ m : Nat, sumI v.secs[i].rows = (m : Int) := ⟨(sumI v.secs[i].rows).toNat, by
        have := (sumI_bound r3 v.secs[i].rows.length).1
        rw [List.take_length] at this
        omega⟩
      have htb := plcK_len hg (by omega : i ≤ v.secs.length)
      unfold coverE
      rw [hoa]
      simp only [if_true]
      rw [hm, Int.toNat_natCast, law_cov hsh1 (by omega)]
    have hlk : lockE v (i : Int) = (v.sh + (i : Int), 0) := by
      unfold lockE
      rw [hoa]
      rfl
    rw [hce] at g1 g3
    obtain ⟨fb1, -, -, -, -, -⟩ := first_bounds he hi (k := 0) (by omega)
    have hsb := (sumI_bound r3 v.secs[i].rows.length)
    rw [List.take_length] at hsb
    have htl : total (v.secs.take i) + sumI v.secs[i].rows ≤ total v.secs := by
      have h1 := total_take hi
      obtain ⟨b1, b2⟩ := plcK_len hg (show i + 1 ≤ v.secs.length by omega)
      obtain ⟨-, -, -, -, fb5, -⟩ := first_bounds he hi (k := v.secs[i].rows.length - 1) (by omega)
      have h2 := sumI_take (l := v.secs[i].rows) (k := v.secs[i].rows.length - 1) (by omega)
      rw [show v.secs[i].rows.length - 1 + 1 = v.secs[i].rows.length by omega, List.take_length] at h2
      omega
    obtain ⟨fi, hfi⟩ : ∃ f : Nat, total (v.secs.take i) = (f : Int) := ⟨(total (v.secs.take i)).toNat, by omega⟩
    obtain ⟨m, hm⟩ : ∃ m : Nat, sumI v.secs[i].rows = (m : Int) := ⟨(sumI v.secs[i].rows).toNat, by omega⟩
    rw [hfi, hm, Int.toNat_natCast, hd, Int.toNat_natCast] at g3
    rw [hfi, hm] at hoa
    rw [hd] at hlk
    have l2 := hl.trans g2
    have ea : ∀ W', oBin Tryd.prog .add 3 false false (.int .i64 (d : Int)) (.int .i64 (i : Int)) W' = some (.int .i64 ((d : Int) + (i : Int)), W') := fun W' => oBin_add (by omega) (by omega)
    have u2 : ¬ ((fi : Int) < 0) := by omega
    have u3 : ¬ ((n : Int) < (m : Int)) := by omega
    have hcl := refCov_len (d : Int) (fi : Int) m d
    have u4 : ¬ ((d : Int) < ((refCov (d : Int) (fi : Int) m d).length : Int)) := by omega
    simp only [SX, f1, f3, f10, Nat.zero_add, c3 _ hl, hs1.1.len lenV, u1, decide_true, c4 _ hl, g1, c4 _ l2, lock_ok (hs1.mono l2) hv, hlk, of_ok (hs1.mono l2) hv, hoa, c0 _ l2, hd, ea, u2, u3, decide_false, g3.len lenI, u4, al72]
    have l3 : Le W2 (W2.add (.cells (rowN 16 (boolV fun _ => false)))) := (Le.refl _).add _
    have hc : rwCells (W2.add (.cells (rowN 16 (boolV fun _ => false)))) W2.next = some (rowN 16 (boolV (hitS (d : Int) (fi : Int) 0))) := rwCells_new
    generalize W2.add (.cells (rowN 16 (boolV fun _ => false))) = W3 at *
    have efm : ∀ W', oBin Tryd.prog .add 3 false false (.int .i64 (fi : Int)) (.int .i64 (m : Int)) W' = some (.int .i64 ((fi : Int) + (m : Int)), W') := fun W' => oBin_add (by omega) (by omega)
    refine Ok_loop m (by omega) (fun k R X => Le W2 X ∧ R 1 = .pointer (some ⟨W.next, 0, none⟩) ∧ R 3 = .int .i64 (n : Int) ∧ R 10 = .int .i64 (i : Int) ∧ R 11 = u ∧ R 15 = .int .i64 (fi : Int) ∧ R 16 = .int .i64 (m : Int) ∧ R 18 = .pointer (some ⟨W2.next, 0, none⟩) ∧ R 19 = .int .i64 ((fi + k : Nat) : Int) ∧ rwCells X W2.next = some (rowN 16 (boolV (hitS (d : Int) (fi : Int) k))))
      (fun r => Le W2 r.2.2 ∧ r.1 = .exit 6 ∧ r.2.1 1 = .pointer (some ⟨W.next, 0, none⟩) ∧ r.2.1 3 = .int .i64 (n : Int) ∧ r.2.1 10 = .int .i64 (i : Int) ∧ r.2.1 11 = u ∧ r.2.1 18 = .pointer (some ⟨W2.next, 0, none⟩) ∧ rwCells r.2.2 W2.next = some (rowN 16 (boolV (hitS (d : Int) (fi : Int) m))))
      ⟨l3, f1, f3, f10, rfl, rfl, rfl, rfl, rfl, hc⟩ ?_ ?_ ?_
    · clear hc l3 f1 f3 f10 R
      rintro k R X hk ⟨hl3, f1, f3, f10, f11, f15, f16, f18, f19, hc⟩
      unfold law15_VenueShards_L3_L4
      have v1 : (((fi + k : Nat) : Int) < (fi : Int) + (m : Int)) := by omega
      have hmd := Nat.mod_lt (fi + k) hd0
      have v2 : ¬ ((((fi + k) % d : Nat) : Int) < 0) := by omega
      have v3 : ¬ ((d : Int) ≤ (((fi + k) % d : Nat) : Int)) := by omega
      have l4 := l2.trans hl3
      have hup : updV (hitS (d : Int) (fi : Int) k) ((fi + k) % d) true = hitS (d : Int) (fi : Int) (k + 1) := updV_hit (by rw [Int.natCast_emod, Int.natCast_add])
      simp only [SX, f1, f15, f16, f18, f19, Nat.zero_add, efm, v1, decide_true, c4 _ l4, shard_ok (hs1.mono l4) hv, shardE_in he hd (show ((fi + k : Nat) : Int) < total v.secs by omega), c0 _ l4, hd, v2, v3, decide_false, ar16 (show (fi + k) % d < 16 by omega), rowN_stB hc (show (fi + k) % d < 16 by omega), hup, add1 (fi + k) _ (by omega), Ok_some]
      exact .inl ⟨trivial, hl3.put (Nat.le_refl _) _, f1, f3, f10, f11, f15, f16, f18, rfl, rwCells_put _⟩
    · clear hc l3 f1 f3 f10 R
      rintro R X ⟨hl3, f1, f3, f10, f11, f15, f16, f18, f19, hc⟩
      unfold law15_VenueShards_L3_L4
      have v1 : ¬ (((fi + m : Nat) : Int) < (fi : Int) + (m : Int)) := by omega
      simp only [SX, f15, f16, f19, efm, v1, decide_false, Ok_some]
      exact ⟨by simp, hl3, trivial, f1, f3, f10, f11, f18, hc⟩
    clear hc l3 f1 f3 f10 R
    rintro ⟨x, R, X⟩ ⟨hl3, hx, f1, f3, f10, f11, f18, hc⟩
    simp only at hl3 hx f1 f3 f10 f11 f18 hc
    subst hx
    simp only [SX]
    have l4 := l2.trans hl3
    have g3x : Ints X u (refCov (d : Int) (fi : Int) m d) := g3.mono hl3
    refine Ok_loop d (by omega) (fun k R Y => Y = X ∧ R 1 = .pointer (some ⟨W.next, 0, none⟩) ∧ R 3 = .int .i64 (n : Int) ∧ R 10 = .int .i64 (i : Int) ∧ R 11 = u ∧ R 18 = .pointer (some ⟨W2.next, 0, none⟩) ∧ R 22 = .int .i64 ((refCov (d : Int) (fi : Int) m k).length : Int) ∧ R 23 = .int .i64 (k : Int))
      (fun r => r.2.2 = X ∧ r.1 = .exit 8 ∧ r.2.1 1 = .pointer (some ⟨W.next, 0, none⟩) ∧ r.2.1 3 = .int .i64 (n : Int) ∧ r.2.1 10 = .int .i64 (i : Int) ∧ r.2.1 11 = u ∧ r.2.1 22 = .int .i64 ((refCov (d : Int) (fi : Int) m d).length : Int))
      ⟨rfl, f1, f3, f10, f11, f18, rfl, rfl⟩ ?_ ?_ ?_
    · clear f1 f3 f10 f11 f18 R
      rintro k R Y hk ⟨rfl, f1, f3, f10, f11, f18, f22, f23⟩
      unfold law15_VenueShards_L3_L5
      have v1 : ((k : Int) < (d : Int)) := by omega
      have hld := rowN_ld hc (show k < 16 by omega)
      simp only [boolV] at hld
      have hsu := refCov_succ (d : Int) (fi : Int) m k
      simp only [SX, f1, f18, f23, Nat.zero_add, c0 _ l4, hd, v1, decide_true, ar16 (show k < 16 by omega), hld]
      cases hh : hitS (d : Int) (fi : Int) m k
      case false =>
        rw [if_neg (by rw [hh]; decide)] at hsu
        simp only [SX, f23, add1 k _ (by omega), Ok_some]
        exact .inl ⟨trivial, trivial, f1, f3, f10, f11, f18, by rw [hsu]; exact f22, rfl⟩
      rw [if_pos hh] at hsu
      obtain ⟨h1, h2⟩ := refCov_at (n := d) hk hh
      have v2 : ¬ (((refCov (d : Int) (fi : Int) m d).length : Int) ≤ ((refCov (d : Int) (fi : Int) m k).length : Int)) := by omega
      obtain ⟨p, p1, p2⟩ := g3x.get h1
      have hkl := refCov_len (d : Int) (fi : Int) m k
      simp only [SX, f11, f22, f23, g3x.len lenI, v2, decide_false, p1, p2 _ (.refl _), h2, decide_true, add1 (refCov (d : Int) (fi : Int) m k).length _ (by omega), add1 k _ (by omega), Ok_some]
      exact .inl ⟨trivial, trivial, f1, f3, f10, f11, f18, by rw [hsu, List.length_append]; rfl, rfl⟩
    · clear f1 f3 f10 f11 f18 R
      rintro R Y ⟨rfl, f1, f3, f10, f11, f18, f22, f23⟩
      unfold law15_VenueShards_L3_L5
      have v1 : ¬ ((d : Int) < (d : Int)) := by omega
      simp only [SX, f1, f23, Nat.zero_add, c0 _ l4, hd, v1, decide_false, Ok_some]
      exact ⟨by simp, trivial, trivial, f1, f3, f10, f11, f22⟩
    · clear f1 f3 f10 f11 f18 R
      rintro ⟨x, R, Y⟩ ⟨hY, hx, f1, f3, f10, f11, f22⟩
      simp only at hY hx f1 f3 f10 f11 f22
      subst hY hx
      simp only [SX, f10, f11, f22, g3x.len lenI, decide_true, add1 i _ (by omega), Ok_some]
      exact .inl ⟨trivial, l4, f1, f3, rfl⟩
  · clear hc hl0 hl f1 f3 R
    rintro R W' ⟨hl, f1, f3, f10⟩
    unfold law15_VenueShards_L3
    have u1 : ¬ ((v.secs.length : Int) < (v.secs.length : Int)) := by omega
    simp only [SX, f1, f10, Nat.zero_add, c3 _ hl, hs1.1.len lenV, u1, decide_false, Ok_some]
    exact ⟨by simp, hl, trivial⟩
  · clear hc hl0 hl f1 f3 R
    rintro ⟨x, R, W'⟩ ⟨hl, hx⟩
    simp only at hl hx
    subst hx
    simp only [SX, awake_ok (hG1.mono hl), Ok_some]
    exact ⟨trivial, hle.trans hl⟩
end Go.Proofs.YtfcfglpkgcheiaaDoor
/- A venue that is handed in, opened. -/
namespace Go.Proofs.YtfcfglpkgcheiaaDoor
open Go Go.Eng Go.RowKit
set_option linter.unusedVariables false
set_option linter.unusedSimpArgs false
set_option maxRecDepth 100000
theorem sec_of {W : AW} {n : Nat} {c : List Value} (h : DR Tryd.prog W (n + 3) 62 c) : ∃ s : Sec, ∀ pre post, SecAt W (pre ++ (c ++ post)) pre.length s := by
  obtain ⟨c1, c2, rfl, h1, h2⟩ := (h.struct Tryd.underlying62).cons
  obtain ⟨c3, c4, rfl, h3, h4⟩ := h2.cons
  obtain ⟨c5, c6, rfl, h5, h6⟩ := h4.cons
  obtain rfl := h6.nil
  obtain ⟨s, rfl, _⟩ := h1.str Tryd.underlying9
  obtain ⟨rv, zs, rfl, hz, _⟩ := h3.ints Tryd.underlying38 Tryd.underlying3 (by kernel_rfl)
  obtain ⟨q, rfl⟩ := h5.int Tryd.underlying3
  refine ⟨⟨s.data.toList, zs, q⟩, fun pre post => ⟨?_, ?_, rv, ?_, hz⟩⟩
  · rw [List.getElem?_append_right (by omega), bytesL_back]; simp
  · rw [List.getElem?_append_right (by omega), Nat.add_sub_cancel_left]; rfl
  · rw [List.getElem?_append_right (by omega), Nat.add_sub_cancel_left]; rfl
theorem ven_of {W : AW} {n : Nat} {c : List Value} (h : DR Tryd.prog W (n + 5) 36 c) : ∃ (v : Ven) (sv : Value), c = [.int .i64 v.sh, .int .i64 v.ttl, .int .i64 v.ses, sv] ∧ SecsC W sv v.secs := by
  obtain ⟨c1, c2, rfl, h1, h2⟩ := (h.struct Tryd.underlying36).cons
  obtain ⟨c3, c4, rfl, h3, h4⟩ := h2.cons
  obtain ⟨c5, c6, rfl, h5, h6⟩ := h4.cons
  obtain ⟨c7, c8, rfl, h7, h8⟩ := h6.cons
  obtain rfl := h8.nil
  obtain ⟨a, rfl⟩ := h1.int Tryd.underlying3
  obtain ⟨b, rfl⟩ := h3.int Tryd.underlying2
  obtain ⟨d, rfl⟩ := h5.int Tryd.underlying2
  obtain ⟨sv, l, rfl, hr⟩ := h7.row Tryd.underlying34 (at_ := SecAt W) (fun c _ hc => sec_of hc)
  exact ⟨⟨a, b, d, l⟩, sv, rfl, hr⟩
section
variable {H : Type} {enc : TypeId × Value → H} {w : World} {σ : Inj} {W : AW} {v0 : Value} {d : DataW H} {p : List MemPlace} {r : Reach} {b0 : Nat}
theorem agg_of {t : TypeId} {fs : Array Field} (ht : Tryd.prog.underlying t = some (.struct fs)) (hv : Value.okWide Tryd.prog w r b0 t v0) : ∃ cs, v0 = .agg cs := by
  unfold Value.okWide at hv
  rw [ht] at hv
  obtain ⟨cs, h, _⟩ := hv
  exact ⟨cs, h⟩
theorem sim36 : simT Tryd.prog 6 36 = true := by kernel_rfl
theorem openVen (ho : Opened σ W w) (hv : Value.okWide Tryd.prog w r b0 36 v0) (h : DataW.Trod enc Tryd.prog w 0 (fun _ => true) true 36 v0 d p) :
    ∃ (σ2 : Inj) (W2 : AW) (v : Ven) (sv : Value), Opened σ2 W2 w ∧ Sub σ σ2 ∧ Le W W2 ∧ VR σ2 (venV v sv) v0 ∧ SecsC W2 sv v.secs := by
  obtain ⟨cs, rfl⟩ := agg_of Tryd.underlying36 hv
  obtain ⟨m, hm⟩ := h
  obtain ⟨σ2, W2, cs2, o2, s2, l2, r2, a2⟩ := opens_trod sim36 hm σ W ho
  obtain ⟨v, sv, rfl, hs⟩ := ven_of a2
  exact ⟨σ2, W2, v, sv, o2, s2, l2, .agg' (a := #[.int .i64 v.sh, .int .i64 v.ttl, .int .i64 v.ses, sv]) r2, hs⟩
end
theorem openG {w : World} (hl : LaidG globW w.heap) : Opened (σG globW) (WG globW 5) w := ⟨rel_G rfl hl, allRo_G, 1, _, rfl⟩
theorem gw_W : GW (WG globW 5) := globW_G rfl (fun x hx => by
  have h2 : x = (1, pow10V) ∨ x = (3, bru32V) ∨ x = (4, bru64V) := by simpa [globW] using hx
  rcases h2 with rfl | rfl | rfl <;> rfl)
theorem gw_le {W : AW} (h : Le (WG globW 5) W) : GW W := gw_W.mono h
theorem kidsT : Kids Tryd.prog (· < Tryd.prog.types.size) := kids_rows (by kernel_rfl) (by kernel_rfl)
theorem fullT : ∀ t e, t < Tryd.prog.types.size → Tryd.prog.underlying t = some (.slice e) → 0 < Tryd.prog.cellsOf e := slices_full_of Tryd.prog (by kernel_rfl)
/-- what is opened is called -/
theorem open_calls (hok : CalleeOK Tryd.prog PlanTab.ng omS) {w : World} {σ : Inj} {W : AW} (ho : Opened σ W w) (hs : Sub (σG globW) σ) {i : Nat} {args args' : List Value} (hr : LR σ args args') (h : omS (.func (.func i) #[] #[]) args W = some (.bool true, W)) :
    Calls Tryd.prog i args'.toArray w fun e w' => e = .returned (.bool true) ∧ Quiet w w' := by
  have hG : Glob σ [1, 3, 4] := fun g hg => by
    obtain ⟨e, he⟩ := (glob_G (gs := globW) (ng := [1, 3, 4]) rfl) g hg
    exact ⟨e, hs _ _ he⟩
  exact om_calls hok ho.rel hG ho.ro hr rfl h
end Go.Proofs.YtfcfglpkgcheiaaDoor
