/- Contracts of functions, and their laws. -/
import Derived.Test.YtfcfglpkgcheiaaDoorPlainA
import Derived.Test.YtfcfglpkgcheiaaDoorOpnA
/- A venue and an operation that are handed in, opened. -/
namespace Go.Proofs.YtfcfglpkgcheiaaDoor
open Go Go.Eng Go.RowKit
set_option linter.unusedVariables false
set_option linter.unusedSimpArgs false
set_option maxRecDepth 100000
theorem sec_of {W : AW} {n : Nat} {c : List Value} (h : DR Tryd.prog W (n + 3) 62 c) : ∃ s : Sec, ∀ pre post, SecAt W (pre ++ (c ++ post)) pre.length s := by
  obtain ⟨c1, c2, rfl, h1, h2⟩ := (h.struct Tryd.underlying62).cons
  obtain ⟨c3, c4, rfl, h3, h4⟩ := h2.cons
  obtain ⟨c5, c6, rfl, h5, h6⟩ := h4.cons
  obtain rfl := h6.nil
  obtain ⟨s, rfl, _⟩ := h1.str Tryd.underlying9
  obtain ⟨rv, zs, rfl, hz, _⟩ := h3.ints Tryd.underlying38 Tryd.underlying3 (by kernel_rfl)
  obtain ⟨q, rfl⟩ := h5.int Tryd.underlying3
  refine ⟨⟨s.data.toList, zs, q⟩, fun pre post => ⟨?_, ?_, rv, ?_, hz⟩⟩
  · rw [List.getElem?_append_right (by omega), bytesL_back]; simp
  · rw [List.getElem?_append_right (by omega), Nat.add_sub_cancel_left]; rfl
  · rw [List.getElem?_append_right (by omega), Nat.add_sub_cancel_left]; rfl
theorem ven_of {W : AW} {n : Nat} {c : List Value} (h : DR Tryd.prog W (n + 5) 36 c) : ∃ (v : Ven) (sv : Value), c = [.int .i64 v.sh, .int .i64 v.ttl, .int .i64 v.ses, sv] ∧ SecsC W sv v.secs := by
  obtain ⟨c1, c2, rfl, h1, h2⟩ := (h.struct Tryd.underlying36).cons
  obtain ⟨c3, c4, rfl, h3, h4⟩ := h2.cons
  obtain ⟨c5, c6, rfl, h5, h6⟩ := h4.cons
  obtain ⟨c7, c8, rfl, h7, h8⟩ := h6.cons
  obtain rfl := h8.nil
  obtain ⟨a, rfl⟩ := h1.int Tryd.underlying3
  obtain ⟨b, rfl⟩ := h3.int Tryd.underlying2
  obtain ⟨d, rfl⟩ := h5.int Tryd.underlying2
  obtain ⟨sv, l, rfl, hr⟩ := h7.row Tryd.underlying34 (at_ := SecAt W) (fun c _ hc => sec_of hc)
  exact ⟨⟨a, b, d, l⟩, sv, rfl, hr⟩
section
variable {H : Type} {enc : TypeId × Value → H} {w : World} {σ : Inj} {W : AW} {v0 : Value} {d : DataW H} {p : List MemPlace} {r : Reach} {b0 : Nat}
theorem agg_of {t : TypeId} {fs : Array Field} (ht : Tryd.prog.underlying t = some (.struct fs)) (hv : Value.okWide Tryd.prog w r b0 t v0) : ∃ cs, v0 = .agg cs := by
  unfold Value.okWide at hv
  rw [ht] at hv
  obtain ⟨cs, h, _⟩ := hv
  exact ⟨cs, h⟩
theorem sim36 : simT Tryd.prog 6 36 = true := by kernel_rfl
theorem openVen (ho : Opened σ W w) (hv : Value.okWide Tryd.prog w r b0 36 v0) (h : DataW.Trod enc Tryd.prog w 0 (fun _ => true) true 36 v0 d p) :
    ∃ (σ2 : Inj) (W2 : AW) (v : Ven) (sv : Value), Opened σ2 W2 w ∧ Sub σ σ2 ∧ Le W W2 ∧ VR σ2 (venV v sv) v0 ∧ SecsC W2 sv v.secs := by
  obtain ⟨cs, rfl⟩ := agg_of Tryd.underlying36 hv
  obtain ⟨m, hm⟩ := h
  obtain ⟨σ2, W2, cs2, o2, s2, l2, r2, a2⟩ := opens_trod sim36 hm σ W ho
  obtain ⟨v, sv, rfl, hs⟩ := ven_of a2
  exact ⟨σ2, W2, v, sv, o2, s2, l2, .agg' (a := #[.int .i64 v.sh, .int .i64 v.ttl, .int .i64 v.ses, sv]) r2, hs⟩
end
theorem openG {w : World} (hl : LaidG [(0, usesV)] w.heap) : Opened (σG [(0, usesV)]) (WG [(0, usesV)] 1) w := ⟨rel_G (by decide) hl, allRo_G, 0, _, rfl⟩
theorem gw_le {W : AW} (h : Le (WG [(0, usesV)] 1) W) : GW W := gw_W.mono h
theorem kidsT : Kids Tryd.prog (· < Tryd.prog.types.size) := kids_rows (by kernel_rfl) (by kernel_rfl)
theorem fullT : ∀ t e, t < Tryd.prog.types.size → Tryd.prog.underlying t = some (.slice e) → 0 < Tryd.prog.cellsOf e := slices_full_of Tryd.prog (by kernel_rfl)
/-- what is opened is called -/
theorem open_calls (hok : CalleeOK Tryd.prog PlanTab.ng omS) {w : World} {σ : Inj} {W : AW} (ho : Opened σ W w) (hs : Sub (σG [(0, usesV)]) σ) {i : Nat} {args args' : List Value} (hr : LR σ args args') (h : omS (.func (.func i) #[] #[]) args W = some (.bool true, W)) :
    Calls Tryd.prog i args'.toArray w fun e w' => e = .returned (.bool true) ∧ Quiet w w' := by
  have hG : Glob σ [0] := fun g hg => by
    obtain ⟨e, he⟩ := (glob_G (gs := [(0, usesV)]) (ng := [0]) rfl) g hg
    exact ⟨e, hs _ _ he⟩
  exact om_calls hok ho.rel hG ho.ro hr rfl h
end Go.Proofs.YtfcfglpkgcheiaaDoor
/- Which operations need the same lock: the code's answer, and the document's. -/
namespace Go.Proofs.YtfcfglpkgcheiaaDoor
open Go Go.Eng
set_option linter.unusedVariables false
set_option linter.unusedSimpArgs false
set_option maxRecDepth 100000
def commonL (a b : List Int) : Bool := a.any fun x => b.any fun y => decide (x = y)
def bitsB (l : List Int) : BitVec 64 := l.foldl (fun b x => b ||| BitVec.twoPow 64 x.toNat) 0#64
theorem bitsB_snoc (l : List Int) (x : Int) : bitsB (l ++ [x]) = bitsB l ||| BitVec.twoPow 64 x.toNat := by
  unfold bitsB
  rw [List.foldl_append]; rfl
theorem foldl_bits : ∀ (l : List Int) (b : BitVec 64) (j : Nat), (∀ x ∈ l, 0 ≤ x ∧ x < 64) → (l.foldl (fun b x => b ||| BitVec.twoPow 64 x.toNat) b).getLsbD j = (b.getLsbD j || l.any fun x => decide (x.toNat = j))
  | [], b, j, _ => by simp
  | x :: l, b, j, h => by
    rw [List.foldl_cons, foldl_bits l _ j (fun y hy => h y (by simp [hy])), BitVec.getLsbD_or, BitVec.getLsbD_twoPow, List.any_cons]
    have hx := h x (by simp)
    rw [decide_eq_true (show x.toNat < 64 by omega), Bool.true_and, Bool.or_assoc]
theorem bitsB_get (l : List Int) (j : Nat) (h : ∀ x ∈ l, 0 ≤ x ∧ x < 64) : (bitsB l).getLsbD j = l.any fun x => decide (x.toNat = j) := by
  unfold bitsB
  rw [foldl_bits l _ j h]; simp
theorem bits_common {a b : List Int} (ha : ∀ x ∈ a, 0 ≤ x ∧ x < 64) (hb : ∀ x ∈ b, 0 ≤ x ∧ x < 64) : (!decide ((((bitsB a &&& bitsB b).toNat : Nat) : Int) = 0)) = commonL a b := by
  rw [Bool.eq_iff_iff]
  simp only [Bool.not_eq_true', decide_eq_false_iff_not]
  unfold commonL
  simp only [List.any_eq_true, decide_eq_true_eq]
  constructor
  · intro hne
    apply Classical.byContradiction
    intro hno
    apply hne
    have : bitsB a &&& bitsB b = 0#64 := by
      apply BitVec.eq_of_getLsbD_eq
      intro j hj
      rw [BitVec.getLsbD_and, bitsB_get a j ha, bitsB_get b j hb, BitVec.getLsbD_zero]
      cases h1 : a.any fun x => decide (x.toNat = j) with
      | false => rfl
      | true =>
        cases h2 : b.any fun x => decide (x.toNat = j) with
        | false => rfl
        | true =>
          exfalso
          simp only [List.any_eq_true, decide_eq_true_eq] at h1 h2
          obtain ⟨x, x1, x2⟩ := h1
          obtain ⟨y, y1, y2⟩ := h2
          have := ha x x1
          have := hb y y1
          exact hno ⟨x, x1, y, y1, by omega⟩
    rw [this]; rfl
  · rintro ⟨x, x1, y, y1, rfl⟩ h0
    have h0' : bitsB a &&& bitsB b = 0#64 := BitVec.eq_of_toNat_eq (by simpa using h0)
    have h1 := congrArg (fun v => v.getLsbD x.toNat) h0'
    simp only [BitVec.getLsbD_and, bitsB_get a _ ha, bitsB_get b _ hb, BitVec.getLsbD_zero] at h1
    have ea : (a.any fun z => decide (z.toNat = x.toNat)) = true := by
      simp only [List.any_eq_true, decide_eq_true_eq]; exact ⟨x, x1, rfl⟩
    have eb : (b.any fun z => decide (z.toNat = x.toNat)) = true := by
      simp only [List.any_eq_true, decide_eq_true_eq]; exact ⟨x, y1, rfl⟩
    rw [ea, eb] at h1
    cases h1
theorem wrap_bv (b : BitVec 64) : IntKind.u64.wrap (b.toNat : Int) = (b.toNat : Int) := by
  have := b.isLt
  show ((b.toNat : Int) % 18446744073709551616) = _
  omega
theorem ofInt_bv (b : BitVec 64) : BitVec.ofInt 64 (b.toNat : Int) = b := by
  apply BitVec.eq_of_toNat_eq
  rw [BitVec.toNat_ofInt]
  have := b.isLt
  omega
theorem or_bv (a b : BitVec 64) (c d : Bool) (W : AW) : oBin Tryd.prog .or 23 c d (.int .u64 (a.toNat : Int)) (.int .u64 (b.toNat : Int)) W = some (.int .u64 ((a ||| b).toNat : Int), W) := by
  refine (oBin_or (P := Tryd.prog)).trans ?_
  show some (Value.int .u64 (IntKind.u64.wrap (((BitVec.ofInt 64 (a.toNat : Int) ||| BitVec.ofInt 64 (b.toNat : Int)).toNat : Nat) : Int)), W) = _
  rw [ofInt_bv, ofInt_bv, wrap_bv]
theorem and_bv (a b : BitVec 64) (c d : Bool) (W : AW) : oBin Tryd.prog .and 23 c d (.int .u64 (a.toNat : Int)) (.int .u64 (b.toNat : Int)) W = some (.int .u64 ((a &&& b).toNat : Int), W) := by
  refine (oBin_and (P := Tryd.prog)).trans ?_
  show some (Value.int .u64 (IntKind.u64.wrap (((BitVec.ofInt 64 (a.toNat : Int) &&& BitVec.ofInt 64 (b.toNat : Int)).toNat : Nat) : Int)), W) = _
  rw [ofInt_bv, ofInt_bv, wrap_bv]
theorem shl_bv {x : Int} (h : 0 ≤ x ∧ x < 64) (c d : Bool) (W : AW) : oBin Tryd.prog .shl 23 c d (.int .u64 1) (.int .i64 x) W = some (.int .u64 ((BitVec.twoPow 64 x.toNat).toNat : Int), W) := by
  rw [oBin_shl h.1]
  have e : ((1 : Int) * 2 ^ min x.toNat IntKind.u64.bits) = ((BitVec.twoPow 64 x.toNat).toNat : Int) := by
    rw [BitVec.toNat_twoPow, Nat.mod_eq_of_lt (Nat.pow_lt_pow_right (by omega) (by omega))]
    have : min x.toNat IntKind.u64.bits = x.toNat := Nat.min_eq_left (by show x.toNat ≤ 64; omega)
    rw [this, Int.one_mul]
    simp
  rw [e, wrap_bv]
theorem bits_ok {l : List Int} {u : Value} {W : AW} (hu : Ints W u l) (hl : l.length < 900000) (hb : ∀ x ∈ l, 0 ≤ x ∧ x < 64) : omS (.func (.func 51) #[] #[]) [u] W = some (.int .u64 ((bitsB l).toNat : Int), W) := by
  refine om_drop rfl ?_ plans_bits_om
  unfold plans_bits
  simp only [SX, hu.len len38]
  refine Ok_loop l.length (by omega) (fun i R W' => W' = W ∧ R 3 = .int .u64 ((bitsB (l.take i)).toNat : Int) ∧ R 6 = u ∧ R 7 = .int .i64 (l.length : Int) ∧ R 8 = .int .i64 (i : Int))
    (fun r => r.2.2 = W ∧ r.1 = .exit 0 ∧ r.2.1 3 = .int .u64 ((bitsB l).toNat : Int)) ⟨rfl, rfl, rfl, rfl, rfl⟩ ?_ ?_ ?_
  · rintro i R W' hi ⟨rfl, f3, f6, f7, f8⟩
    unfold plans_bits_L1
    have e1 : ((i : Int) < (l.length : Int)) := by omega
    obtain ⟨p, p1, p2⟩ := hu.get hi
    have hx := hb _ (List.getElem_mem hi)
    have add1 : ∀ W', oBin Tryd.prog .add 3 false true (.int .i64 (i : Int)) (.int .i64 1) W' = some (.int .i64 ((i + 1 : Nat) : Int), W') := fun W' => oBin_add (by omega) (by omega)
    have ht : l.take (i + 1) = l.take i ++ [l[i]] := by rw [List.take_add_one, List.getElem?_eq_getElem hi]; rfl
    simp only [SX, f3, f6, f7, f8, e1, p1, p2 _ (.refl _), shl_bv hx, or_bv, add1, Ok_some]
    exact .inl ⟨trivial, trivial, by rw [ht, bitsB_snoc]; rfl, f6, f7, rfl⟩
  · rintro R W' ⟨rfl, f3, f6, f7, f8⟩
    unfold plans_bits_L1
    have e1 : ¬ ((l.length : Int) < (l.length : Int)) := by omega
    rw [List.take_length] at f3
    simp only [SX, f7, f8, e1, Ok_some]
    exact ⟨by simp, trivial, trivial, f3⟩
  · rintro ⟨x, R, W'⟩ ⟨hW, hx, f3⟩
    simp only at hW hx f3
    subst hW; subst hx
    simp only [SX, f3, Ok_some]
    exact ⟨trivial, .refl _⟩
theorem common_ok {a b : List Int} {u w : Value} {W : AW} (hu : Ints W u a) (hw : Ints W w b) (ha : a.length < 900000) (hb : b.length < 900000) : omS (.func (.func 52) #[] #[]) [u, w] W = some (.bool (commonL a b), W) := by
  refine om_drop rfl ?_ ref22_common_om
  unfold ref22_common
  have add1 : ∀ (k : Nat) (W' : AW), k < 1000000 → oBin Tryd.prog .add 3 false true (.int .i64 (k : Int)) (.int .i64 1) W' = some (.int .i64 ((k + 1 : Nat) : Int), W') := fun k W' hk => oBin_add (by omega) (by omega)
  simp only [SX]
  refine Ok_loop a.length (by omega) (fun i R W' => W' = W ∧ R 0 = u ∧ R 1 = w ∧ R 5 = .int .i64 (i : Int) ∧ ∀ x ∈ a.take i, (b.any fun y => decide (x = y)) = false)
    (fun r => r.2.2 = W ∧ ((r.1 = .exit 0 ∧ commonL a b = false) ∨ (r.1 = .ret ∧ r.2.1 4 = .bool true ∧ commonL a b = true))) ⟨rfl, rfl, rfl, rfl, by simp⟩ ?_ ?_ ?_
  · rintro i R W' hi ⟨rfl, f0, f1, f5, hno⟩
    unfold ref22_common_L1
    have e1 : ((i : Int) < (a.length : Int)) := by omega
    obtain ⟨p, p1, p2⟩ := hu.get hi
    simp only [SX, f0, f5, hu.len len38, e1]
    refine Ok_loop b.length (by omega) (fun j R W2 => W2 = W' ∧ R 0 = u ∧ R 1 = w ∧ R 5 = .int .i64 (i : Int) ∧ R 6 = .int .i64 (j : Int) ∧ ∀ y ∈ b.take j, a[i] ≠ y)
      (fun r => r.2.2 = W' ∧ ((r.1 = .exit 2 ∧ r.2.1 0 = u ∧ r.2.1 1 = w ∧ r.2.1 5 = .int .i64 (i : Int) ∧ ∀ y ∈ b, a[i] ≠ y) ∨ (r.1 = .ret ∧ r.2.1 4 = .bool true ∧ a[i] ∈ b))) ⟨rfl, f0, f1, f5, rfl, by simp⟩ ?_ ?_ ?_
    · rintro j R W2 hj ⟨rfl, f0, f1, f5, f6, hnj⟩
      unfold ref22_common_L1_L2
      have e3 : ((j : Int) < (b.length : Int)) := by omega
      obtain ⟨p', p1', p2'⟩ := hw.get hj
      simp only [SX, f0, f1, f5, f6, hw.len len38, e3, p1, p2 _ (.refl _), p1', p2' _ (.refl _)]
      by_cases t : a[i] = b[j]
      · simp only [SX, decide_eq_true t, Ok_some]
        exact .inr ⟨by simp, trivial, .inr ⟨trivial, rfl, by rw [t]; exact List.getElem_mem hj⟩⟩
      · simp only [SX, decide_eq_false t, f6, add1 j _ (by omega), Ok_some]
        refine .inl ⟨trivial, trivial, f0, f1, f5, rfl, fun y hy => ?_⟩
        rw [List.take_add_one, List.getElem?_eq_getElem hj] at hy
        rcases List.mem_append.1 hy with hy | hy
        · exact hnj y hy
        · have : y = b[j] := by simpa using hy
          rw [this]; exact t
    · rintro R W2 ⟨rfl, f0, f1, f5, f6, hnj⟩
      unfold ref22_common_L1_L2
      have e3 : ¬ ((b.length : Int) < (b.length : Int)) := by omega
      rw [List.take_length] at hnj
      simp only [SX, f1, f6, hw.len len38, e3, Ok_some]
      exact ⟨by simp, trivial, .inl ⟨trivial, f0, f1, f5, hnj⟩⟩
    · rintro ⟨x, R, W2⟩ ⟨hW, hq⟩
      simp only at hW hq
      subst hW
      rcases hq with ⟨rfl, f0, f1, f5, hnj⟩ | ⟨rfl, f4, hm⟩
      · simp only [SX, f5, add1 i _ (by omega), Ok_some]
        refine .inl ⟨trivial, trivial, f0, f1, rfl, fun x hx => ?_⟩
        rw [List.take_add_one, List.getElem?_eq_getElem hi] at hx
        rcases List.mem_append.1 hx with hx | hx
        · exact hno x hx
        · have : x = a[i] := by simpa using hx
          rw [this, List.any_eq_false]
          intro y hy
          simpa using hnj y hy
      · simp only [SX, Ok_some]
        refine .inr ⟨by simp, trivial, .inr ⟨trivial, f4, ?_⟩⟩
        unfold commonL
        simp only [List.any_eq_true, decide_eq_true_eq]
        exact ⟨_, List.getElem_mem hi, _, hm, rfl⟩
  · rintro R W' ⟨rfl, f0, f1, f5, hno⟩
    unfold ref22_common_L1
    have e1 : ¬ ((a.length : Int) < (a.length : Int)) := by omega
    rw [List.take_length] at hno
    simp only [SX, f0, f5, hu.len len38, e1, Ok_some]
    refine ⟨by simp, trivial, .inl ⟨trivial, ?_⟩⟩
    unfold commonL
    rw [List.any_eq_false]
    intro x hx
    rw [hno x hx]; simp
  · rintro ⟨x, R, W'⟩ ⟨hW, hq⟩
    simp only at hW hq
    subst hW
    rcases hq with ⟨rfl, hc⟩ | ⟨rfl, f4, hc⟩
    · simp only [SX, hc, Ok_some]
      exact ⟨trivial, .refl _⟩
    · simp only [SX, f4, hc, Ok_some]
      exact ⟨trivial, .refl _⟩
end Go.Proofs.YtfcfglpkgcheiaaDoor
/- PlansConflicts: what it answers. -/
namespace Go.Proofs.YtfcfglpkgcheiaaDoor
open Go Go.Eng
set_option linter.unusedVariables false
set_option linter.unusedSimpArgs false
set_option maxRecDepth 100000
def confE (v : Ven) (a b : OpT) : Bool × Int := if (locksE v a).2 = 0 then (if (locksE v b).2 = 0 then (commonL (locksE v a).1 (locksE v b).1, 0) else (false, (locksE v b).2)) else (false, (locksE v a).2)
theorem upTo_mem {n : Nat} {x : Int} : x ∈ upTo n ↔ 0 ≤ x ∧ x < n := by
  unfold upTo
  rw [List.mem_map]
  constructor
  · rintro ⟨i, hi, rfl⟩
    rw [List.mem_range] at hi
    omega
  · intro h
    exact ⟨x.toNat, by rw [List.mem_range]; omega, by omega⟩
theorem sortL_mem {l : List Int} {x : Int} : x ∈ sortL l ↔ x ∈ l := (List.mergeSort_perm l _).mem_iff
theorem covL_mem {sh fi : Int} {n : Nat} {x : Int} (hsh : 1 ≤ sh) (h : x ∈ covL sh fi n) : 0 ≤ x ∧ x < sh := by
  unfold covL at h
  obtain ⟨i, _, rfl⟩ := List.mem_map.1 h
  exact ⟨Int.emod_nonneg _ (by omega), Int.emod_lt_of_pos _ (by omega)⟩
theorem shardE_bound {v : Ven} (he : (venE v).2 = 0) (s : Int) : 0 ≤ (shardE v s).1 ∧ (shardE v s).1 < v.sh := by
  have hsh := venE_sh he
  unfold shardE
  split
  · exact ⟨Int.emod_nonneg _ (by omega), Int.emod_lt_of_pos _ (by omega)⟩
  · simp only; omega
theorem lockE_bound {v : Ven} (he : (venE v).2 = 0) (c : Int) : 0 ≤ (lockE v c).1 ∧ (lockE v c).1 < 64 ∧ ((lockE v c).2 = 0 → (lockE v c).1 < v.sh + v.secs.length) := by
  have hsh := venE_sh he
  have hg := (venE_good he).1.len
  unfold lockE
  split
  · rename_i h
    obtain ⟨-, h2, h3, -⟩ := ofE_zero h
    simp only
    omega
  · rename_i h
    simp only
    exact ⟨by omega, by omega, fun h2 => absurd h2 h⟩
/-- locks are less than sixty-four; where there is one, one is of the venue -/
theorem kindL_bound {v : Ven} (he : (venE v).2 = 0) (k s c : Int) : (∀ x ∈ kindL v k s c, 0 ≤ x ∧ x < 64) ∧ (kindL v k s c ≠ [] → ∃ x ∈ kindL v k s c, 0 ≤ x ∧ x < v.sh + v.secs.length) := by
  have hsh := venE_sh he
  have hg := venE_good he
  have hlen := hg.1.len
  have hsb := shardE_bound he s
  unfold kindL
  split
  · have hm := @upTo_mem (v.sh.toNat + v.secs.length)
    refine ⟨fun x hx => by have := hm.1 hx; omega, fun _ => ⟨0, hm.2 (by omega), by omega⟩⟩
  split
  · unfold coverE
    split
    · refine ⟨fun x hx => by have := covL_mem hsh.1 (sortL_mem.1 hx); omega, fun hne => ?_⟩
      obtain ⟨x, hx⟩ := List.exists_mem_of_ne_nil _ hne
      have := covL_mem hsh.1 (sortL_mem.1 hx)
      exact ⟨x, hx, by omega⟩
    · exact ⟨fun x hx => by simp at hx, fun h => absurd rfl h⟩
  split
  · have hlb := lockE_bound he ((placeE v s).1.1 : Int)
    split
    · refine ⟨fun x hx => ?_, fun _ => ⟨(shardE v s).1, by simp, by omega⟩⟩
      simp only [List.mem_cons, List.not_mem_nil, or_false] at hx
      rcases hx with rfl | rfl <;> omega
    · exact ⟨fun x hx => by simp at hx, fun h => absurd rfl h⟩
  split
  · split
    · refine ⟨fun x hx => ?_, fun _ => ⟨(shardE v s).1, by simp, by omega⟩⟩
      simp only [List.mem_cons, List.not_mem_nil, or_false] at hx
      subst hx; omega
    · exact ⟨fun x hx => by simp at hx, fun h => absurd rfl h⟩
  split
  · have hlb := lockE_bound he c
    split
    · rename_i h
      refine ⟨fun x hx => ?_, fun _ => ⟨(lockE v c).1, by simp, by have := hlb.2.2 h; omega⟩⟩
      simp only [List.mem_cons, List.not_mem_nil, or_false] at hx
      subst hx; omega
    · exact ⟨fun x hx => by simp at hx, fun h => absurd rfl h⟩
  · exact ⟨fun x hx => by simp at hx, fun h => absurd rfl h⟩
theorem locks_bound (v : Ven) (o : OpT) : ∀ x ∈ (locksE v o).1, 0 ≤ x ∧ x < 64 := by
  unfold locksE
  split
  · rename_i he
    split
    · exact (kindL_bound he _ _ _).1
    · intro x hx; simp at hx
  · intro x hx; simp at hx
theorem planConf_ok {v : Ven} {a b : OpT} {sv : Value} {W : AW} (hs : SecsC W sv v.secs) (hv : v.secs.length < 1000) (hG : GW W) : omS (.func (.func 25) #[] #[]) [venV v sv, opV a, opV b] W = some (.tuple #[.bool (confE v a b).1, .int .i64 (confE v a b).2], W) := by
  refine om_drop rfl ?_ plans_Conflict_om
  unfold plans_Conflict confE
  obtain ⟨W1, hB, hle, hn, c4, c0, c3⟩ := venBox v sv W
  obtain ⟨W2, b2, n2, l2, k12, k0⟩ := opBox a W1
  obtain ⟨W3, b3, n3, l3, j12, j0⟩ := opBox b W2
  have l03 := (hle.trans l2).trans l3
  obtain ⟨u, W4, q1, q2, q3⟩ := planLocks_ok (o := a) (hs.mono l03) hv (hG.mono l03)
  have ha := locksE_len v a
  simp only [SX, hB, b2, b3, c4 _ (l2.trans l3), k12 _ l3, q1]
  by_cases he : (locksE v a).2 = 0
  case neg =>
    simp only [SX, he, if_false, Ok_some]
    exact ⟨trivial, l03.trans q2⟩
  have l04 := l03.trans q2
  obtain ⟨u', W5, q1', q2', q3'⟩ := planLocks_ok (o := b) (hs.mono l04) hv (hG.mono l04)
  have hb := locksE_len v b
  simp only [SX, decide_eq_true he, if_pos he, c4 _ ((l2.trans l3).trans q2), j12 _ q2, q1']
  by_cases hf : (locksE v b).2 = 0
  case neg =>
    simp only [SX, hf, if_false, Ok_some]
    exact ⟨trivial, l04.trans q2'⟩
  have hc := bits_common (locks_bound v a) (locks_bound v b)
  simp only [SX, decide_eq_true hf, if_pos hf, bits_ok (q3.mono q2') (by omega) (locks_bound v a), bits_ok q3' (by omega) (locks_bound v b), and_bv, Ok_some]
  exact ⟨by rw [hc], l04.trans q2'⟩
def tickO : OpT := ⟨12, 0, 0, 0, 0, 0, 0, 0, 0, 0, 0, 7⟩
end Go.Proofs.YtfcfglpkgcheiaaDoor
/- The rounds of operations: the code's answer. -/
namespace Go.Proofs.YtfcfglpkgcheiaaDoor
open Go Go.Eng
set_option linter.unusedVariables false
set_option linter.unusedSimpArgs false
set_option maxRecDepth 100000
theorem max_ok (a b : Int) (W : AW) : oBuiltin Tryd.prog .max #[3, 3] 3 #[false, false] [.int .i64 a, .int .i64 b] W = some (.int .i64 (max a b), W) := by
  have e : oBuiltin Tryd.prog .max #[3, 3] 3 #[false, false] [.int .i64 a, .int .i64 b] W = (pureS Tryd.prog ([Value.int .i64 a, .int .i64 b].all plain) (builtin .max #[3, 3] 3 #[false, false] #[.int .i64 a, .int .i64 b])).map fun v => (v, W) := by
    unfold oBuiltin
    rfl
  rw [e]
  have e2 : builtin .max #[3, 3] 3 #[false, false] #[.int .i64 a, .int .i64 b] = (do pure (.value (← Builtin.max_ #[3, 3] 3 #[.int .i64 a, .int .i64 b]))) := rfl
  rw [e2]
  refine pureV ?_ rfl _ rfl
  unfold Builtin.max_
  simp only [List.foldlM_cons, List.foldlM_nil, pureRun_bind, Builtin.max2, pureRun_pure, Option.bind_some]
  congr 2
  split <;> omega
theorem len50 : ((#[50] : Array TypeId)[0]?).bind Tryd.prog.underlying = some (.slice 27) := by kernel_rfl
def opAt (cs : List Value) (p : Nat) (o : OpT) : Prop := (cs.drop p).take 12 = (opArr o.k o.ow o.un o.se o.sc o.n o.to o.t1 o.t2 o.t3 o.t4 o.nw).toList
abbrev OpsR (W : AW) (v : Value) (l : List OpT) : Prop := Row W 12 opAt v l
theorem OpsR.get {W : AW} {v : Value} {l : List OpT} (h : OpsR W v l) {i : Nat} (hi : i < l.length) : ∃ b o, (∀ W' k, ixS 12 v (.int k (i : Int)) W' = some (.pointer (some ⟨b, o, none⟩), W')) ∧ ∀ W', Le W W' → ldA 12 (.pointer (some ⟨b, o, none⟩)) W' = some (opV l[i], W') := by
  obtain ⟨a, c, rfl, h⟩ := h
  rcases h with rfl | ⟨b, o, cs, rfl, hb, hc, hat⟩
  · simp at hi
  · refine ⟨b, o + i * 12, fun W' k => ixS_ok hi, fun W' hle => ?_⟩
    have hc' := (hle.cellsAt hb).trans hc
    have h1 := hat i hi
    unfold opAt at h1
    rw [ldA_eq, hc', Option.bind_some, h1]
    rfl
theorem stOp (o : OpT) (W : AW) : stV 12 (.pointer (some ⟨W.next, 0, none⟩)) (opV o) (W.add (.cells [.int .i64 0, .int .u32 0, .int .i64 0, .int .i64 0, .int .i64 0, .int .i64 0, .int .u32 0, .int .u32 0, .int .u32 0, .int .u64 0, .int .u64 0, .int .i64 0])) = some (undef, W.add (.cells (opArr o.k o.ow o.un o.se o.sc o.n o.to o.t1 o.t2 o.t3 o.t4 o.nw).toList)) := by
  rw [stV_eq, rwCells_new, Option.bind_some]
  have hc : (opV o).cells = opArr o.k o.ow o.un o.se o.sc o.n o.to o.t1 o.t2 o.t3 o.t4 o.nw := cells_agg _
  rw [hc, if_pos ⟨rfl, by simp [opArr], by simp [opArr, one_int]⟩]
  show some (undef, (W.add _).put W.next (.cells _)) = _
  rw [put_add_cells]
  rfl
theorem mkm84 (W : AW) : oMkMap Tryd.prog 84 none W = some (.map (some W.next), W.add (.map [] 0)) := rfl
theorem u84 : Tryd.prog.underlying 84 = some (.map 3 3) := Tryd.underlying84
theorem z3 : tZero Tryd.prog 3 = some (.int .i64 0) := by kernel_rfl
theorem Row.put_map {α : Type} {W : AW} {z : Nat} {at_ : List Value → Nat → α → Prop} {v : Value} {l : List α} {mb : Nat} {m : Int → Int} (h : Row W z at_ v l) (hm : MapI W mb m) (o : AObj) : Row (W.put mb o) z at_ v l := by
  obtain ⟨a, c, rfl, h⟩ := h
  refine ⟨a, c, rfl, ?_⟩
  rcases h with h | ⟨b, of, cs, h1, h2, h3, h4⟩
  · exact .inl h
  · obtain ⟨es, k, hg, _⟩ := hm
    have hne : mb ≠ b := fun e => by
      subst e
      unfold cellsAt at h3
      rw [hg] at h3
      cases h3
    exact .inr ⟨b, of, cs, h1, by rw [AW.put_next]; exact h2, by rw [cellsAt_put_ne _ hne]; exact h3, h4⟩
theorem Lst.put_map {α : Type} {W : AW} {lo z : Nat} {f : α → List Value} {v : Value} {l : List α} {mb : Nat} (h : Lst lo W z f v l) (hb : mb < lo) (o : AObj) : Lst lo (W.put mb o) z f v l := by
  rcases h with h | ⟨h0, B, h1, h2, h3, h4⟩
  · exact .inl h
  · exact .inr ⟨h0, B, h1, by rw [AW.put_next]; exact h2, h3, by rw [AW.get_put_ne _ _ (by omega)]; exact h4⟩
theorem get_low {W W' : AW} {lo b : Nat} (h : ∀ A, Le A W → A.next ≤ lo → Le A W') (hb : b < lo) (hlo : lo ≤ W.next) : W'.get b = W.get b := by
  have := h { W with next := lo } ⟨hlo, fun c _ => rfl⟩ (Nat.le_refl _)
  exact this.get b hb
theorem take_snoc {α : Type} {l : List α} {i : Nat} (hi : i < l.length) : l.take (i + 1) = l.take i ++ [l[i]] := by rw [List.take_add_one, List.getElem?_eq_getElem hi]; rfl
theorem MapI.of_get {W W' : AW} {r : Nat} {m : Int → Int} (h : MapI W r m) (e : W'.get r = W.get r) : MapI W' r m := by
  obtain ⟨l, c, hg, hm⟩ := h
  exact ⟨l, c, e.trans hg, hm⟩
/-! the rounds -/
def lsOf (v : Ven) (ops : List OpT) : List (List Int) := ops.map fun o => (locksE v o).1
def roundOf (nx : Int → Int) (l : List Int) : Int := l.foldl (fun r x => max r (nx x)) 0
def stepR (s : List Int × (Int → Int)) (l : List Int) : List Int × (Int → Int) := (s.1 ++ [roundOf s.2 l], fun x => if x ∈ l then roundOf s.2 l + 1 else s.2 x)
def runR (ls : List (List Int)) : List Int × (Int → Int) := ls.foldl stepR ([], fun _ => 0)
theorem runR_snoc (ls : List (List Int)) (l : List Int) : runR (ls ++ [l]) = stepR (runR ls) l := by unfold runR; rw [List.foldl_append]; rfl
theorem roundOf_snoc (nx : Int → Int) (l : List Int) (x : Int) : roundOf nx (l ++ [x]) = max (roundOf nx l) (nx x) := by unfold roundOf; rw [List.foldl_append]; rfl
theorem roundOf_bound {nx : Int → Int} {c : Int} (h : ∀ x, 0 ≤ nx x ∧ nx x ≤ c) (hc : 0 ≤ c) (l : List Int) : 0 ≤ roundOf nx l ∧ roundOf nx l ≤ c := by
  have : ∀ (l : List Int) (r : Int), 0 ≤ r ∧ r ≤ c → 0 ≤ l.foldl (fun r x => max r (nx x)) r ∧ l.foldl (fun r x => max r (nx x)) r ≤ c := by
    intro l
    induction l with
    | nil => intro r hr; exact hr
    | cons x l ih =>
      intro r hr
      have := h x
      exact ih (max r (nx x)) (by omega)
  exact this l 0 ⟨by omega, hc⟩
theorem runR_bound : ∀ (ls : List (List Int)) (s : List Int × (Int → Int)) (c : Nat), (∀ x, 0 ≤ s.2 x ∧ s.2 x ≤ (c : Int)) → ∀ x, 0 ≤ (ls.foldl stepR s).2 x ∧ (ls.foldl stepR s).2 x ≤ ((c + ls.length : Nat) : Int)
  | [], s, c, h, x => by simpa using h x
  | l :: ls, s, c, h, x => by
    have hb := roundOf_bound h (by omega) l
    have := runR_bound ls (stepR s l) (c + 1) (fun y => by
      unfold stepR
      simp only
      split
      · omega
      · have := h y; omega) x
    rw [List.foldl_cons, List.length_cons]
    omega
theorem runR_len : ∀ (ls : List (List Int)) (s : List Int × (Int → Int)), ((ls.foldl stepR s).1).length = s.1.length + ls.length
  | [], s => by simp
  | l :: ls, s => by
    rw [List.foldl_cons, runR_len ls, List.length_cons]
    unfold stepR
    simp; omega
def badOp (v : Ven) (ops : List OpT) : Option OpT := ops.find? fun o => !decide ((locksE v o).2 = 0)
def roundsE (v : Ven) (ops : List OpT) : List Int × Int := if (venE v).2 = 0 then (match badOp v ops with
  | some o => ([], (locksE v o).2)
  | none => if 200 < ops.length then ([], 3) else ((runR (lsOf v ops)).1, 0)) else ([], (venE v).2)
theorem lsOf_take (v : Ven) (ops : List OpT) {i : Nat} (hi : i < ops.length) : (lsOf v ops).take (i + 1) = (lsOf v ops).take i ++ [(locksE v ops[i]).1] := by
  unfold lsOf
  rw [List.take_add_one, List.getElem?_map, List.getElem?_eq_getElem hi]; rfl
theorem planRounds_ok {v : Ven} {ops : List OpT} {sv ov : Value} {W : AW} (hs : SecsC W sv v.secs) (hv : v.secs.length < 1000) (hG : GW W) (ho : OpsR W ov ops) (hn : ops.length ≤ 210) :
    ∃ u W2, omS (.func (.func 27) #[] #[]) [venV v sv, ov] W = some (.tuple #[u, .int .i64 (roundsE v ops).2], W2) ∧ Le W W2 ∧ Ints W2 u (roundsE v ops).1 := by
  refine om_row2 ?_ plans_Rounds_om
  unfold plans_Rounds roundsE
  obtain ⟨W1, hB, hle, hnx, c4, c0, c3⟩ := venBox v sv W
  have hsn := hle.next
  have hs1 := hs.mono hle
  have hG1 := hG.mono hle
  have ho1 := ho.mono hle
  simp only [SX, hB, c4 _ (.refl _), venCheck_ok hs1 hv]
  by_cases he : (venE v).2 = 0
  case neg =>
    simp only [SX, he, if_false, Ok_some]
    exact ⟨_, rfl, hle, Row.nil⟩
  have hM0 : MapI (W1.add (.map [] 0)) W1.next (fun _ => 0) := map_new _ rfl
  have l12 : Le W1 (W1.add (.map [] 0)) := (Le.refl W1).add _
  have n2 : (W1.add (.map [] 0)).next = W1.next + 1 := AW.add_next _ _
  simp only [SX, decide_eq_true he, if_pos he, mkm84, ho.len len50]
  generalize W1.add (.map [] 0) = W2 at *
  have add1 : ∀ (k : Nat) (W' : AW), k < 1000000 → oBin Tryd.prog .add 3 false true (.int .i64 (k : Int)) (.int .i64 1) W' = some (.int .i64 ((k + 1 : Nat) : Int), W') := fun k W' hk => oBin_add (by omega) (by omega)
  refine Ok_loop ops.length (by omega) (fun i R W' => Le W1 W' ∧ W1.next < W'.next ∧ MapI W' W1.next (runR ((lsOf v ops).take i)).2 ∧ (∃ x, R 8 = x ∧ Lst (W1.next + 1) W' 1 intC x (runR ((lsOf v ops).take i)).1) ∧ R 1 = ov ∧ R 2 = .pointer (some ⟨W.next, 0, none⟩) ∧ R 9 = .map (some W1.next) ∧ R 28 = ov ∧ R 29 = .int .i64 (ops.length : Int) ∧ R 30 = .int .i64 (i : Int) ∧ ∀ o ∈ ops.take i, (!decide ((locksE v o).2 = 0)) = false)
    (fun r => Le W1 r.2.2 ∧ ((r.1 = .exit 0 ∧ (∃ x, r.2.1 8 = x ∧ Ints r.2.2 x (runR (lsOf v ops)).1) ∧ r.2.1 1 = ov ∧ badOp v ops = none) ∨ (r.1 = .ret ∧ ∃ o, badOp v ops = some o ∧ r.2.1 4 = .slice none 0 0 ∧ r.2.1 5 = .int .i64 (locksE v o).2)))
    ⟨l12, by omega, hM0, ⟨_, rfl, .nil _ _ _ _⟩, rfl, rfl, rfl, rfl, rfl, rfl, by simp⟩ ?_ ?_ ?_
  · rintro i R W' hi ⟨hl, hmb, hM, ⟨x, f8, hL⟩, f1, f2, f9, f28, f29, f30, hok⟩
    unfold plans_Rounds_L1
    have e1 : ((i : Int) < (ops.length : Int)) := by omega
    obtain ⟨b, of, p1, p2⟩ := OpsR.get ho1 hi
    have lX : Le W' (W'.add (.cells (opArr ops[i].k ops[i].ow ops[i].un ops[i].se ops[i].sc ops[i].n ops[i].to ops[i].t1 ops[i].t2 ops[i].t3 ops[i].t4 ops[i].nw).toList)) := (Le.refl W').add _
    have hbx : ldA 12 (.pointer (some ⟨W'.next, 0, none⟩)) (W'.add (.cells (opArr ops[i].k ops[i].ow ops[i].un ops[i].se ops[i].sc ops[i].n ops[i].to ops[i].t1 ops[i].t2 ops[i].t3 ops[i].t4 ops[i].nw).toList)) = some (opV ops[i], _) := ldA_all cellsAt_new rfl
    simp only [SX, f2, f28, f29, f30, e1, p1, p2 _ hl, al27, stOp]
    generalize W'.add (.cells (opArr ops[i].k ops[i].ow ops[i].un ops[i].se ops[i].sc ops[i].n ops[i].to ops[i].t1 ops[i].t2 ops[i].t3 ops[i].t4 ops[i].nw).toList) = X at *
    have hlX := hl.trans lX
    obtain ⟨u, Wd, q1, q2, q3⟩ := planLocks_ok (o := ops[i]) (hs1.mono hlX) hv (hG1.mono hlX)
    have hlen := locksE_len v ops[i]
    have ld := lX.trans q2
    have hld := hl.trans ld
    have nd := ld.next
    simp only [SX, c4 _ hlX, hbx, q1]
    by_cases hq : (locksE v ops[i]).2 = 0
    case neg =>
      simp only [SX, hq, Ok_some]
      refine .inr ⟨by simp, hld, .inr ⟨trivial, ops[i], ?_, rfl, rfl⟩⟩
      unfold badOp
      refine find_pre (pre := ops.take i) (r := ops[i]) ?_ hok (by simp [hq])
      rw [← take_snoc hi]
      exact List.take_prefix _ _
    have hMd : MapI Wd W1.next (runR ((lsOf v ops).take i)).2 := MapI.of_get hM (ld.get _ hmb)
    have hLd := hL.mono ld
    have hnb := runR_bound ((lsOf v ops).take i) ([], fun _ => 0) 0 (fun x => by simp)
    have hnb' : ∀ x, 0 ≤ (runR ((lsOf v ops).take i)).2 x ∧ (runR ((lsOf v ops).take i)).2 x ≤ (i : Int) := fun y => by
      have h1 := hnb y
      have h2 : ((lsOf v ops).take i).length ≤ i := by rw [List.length_take]; omega
      unfold runR
      omega
    have hts := lsOf_take v ops hi
    have hsn2 := runR_snoc ((lsOf v ops).take i) (locksE v ops[i]).1
    rw [← hts] at hsn2
    have hol : ((runR ((lsOf v ops).take i)).1).length ≤ 210 := by
      have := runR_len ((lsOf v ops).take i) ([], fun _ => 0)
      unfold runR
      rw [this, List.length_take]
      simp; omega
    generalize runR ((lsOf v ops).take i) = st at *
    have hkq : (!decide ((locksE v ops[i]).2 = 0)) = false := by simp [hq]
    simp only [SX, hq, decide_true, q3.len len38]
    generalize (locksE v ops[i]).1 = l at *
    have hrb := roundOf_bound hnb' (by omega)
    refine Ok_loop l.length (by omega) (fun j R W2 => W2 = Wd ∧ R 8 = x ∧ R 1 = ov ∧ R 2 = .pointer (some ⟨W.next, 0, none⟩) ∧ R 9 = .map (some W1.next) ∧ R 28 = ov ∧ R 29 = .int .i64 (ops.length : Int) ∧ R 30 = .int .i64 (i : Int) ∧ R 12 = u ∧ R 14 = .int .i64 (roundOf st.2 (l.take j)) ∧ R 43 = u ∧ R 44 = .int .i64 (l.length : Int) ∧ R 45 = .int .i64 (j : Int))
      (fun r => r.2.2 = Wd ∧ r.1 = .exit 2 ∧ r.2.1 8 = x ∧ r.2.1 1 = ov ∧ r.2.1 2 = .pointer (some ⟨W.next, 0, none⟩) ∧ r.2.1 9 = .map (some W1.next) ∧ r.2.1 28 = ov ∧ r.2.1 29 = .int .i64 (ops.length : Int) ∧ r.2.1 30 = .int .i64 (i : Int) ∧ r.2.1 12 = u ∧ r.2.1 14 = .int .i64 (roundOf st.2 l))
      ⟨rfl, f8, f1, f2, f9, f28, f29, f30, rfl, rfl, rfl, rfl, rfl⟩ ?_ ?_ ?_
    · rintro j R W3 hj ⟨rfl, f8, f1, f2, f9, f28, f29, f30, f12, f14, f43, f44, f45⟩
      unfold plans_Rounds_L1_L2
      have e3 : ((j : Int) < (l.length : Int)) := by omega
      obtain ⟨p, p1, p2⟩ := q3.get hj
      have ht : l.take (j + 1) = l.take j ++ [l[j]] := by rw [List.take_add_one, List.getElem?_eq_getElem hj]; rfl
      simp only [SX, f9, f14, f43, f44, f45, e3, p1, p2 _ (.refl _), map_lookup hMd u84 Tryd.underlying3 z3, max_ok, add1 j _ (by omega), Ok_some]
      exact .inl ⟨trivial, trivial, f8, f1, f2, f9, f28, f29, f30, f12, by rw [ht, roundOf_snoc]; rfl, f43, f44, rfl⟩
    · rintro R W3 ⟨rfl, f8, f1, f2, f9, f28, f29, f30, f12, f14, f43, f44, f45⟩
      unfold plans_Rounds_L1_L2
      have e3 : ¬ ((l.length : Int) < (l.length : Int)) := by omega
      rw [List.take_length] at f14
      simp only [SX, f44, f45, e3, Ok_some]
      exact ⟨by simp, trivial, trivial, f8, f1, f2, f9, f28, f29, f30, f12, f14⟩
    · rintro ⟨y, R, W3⟩ ⟨hW, hy, f8, f1, f2, f9, f28, f29, f30, f12, f14⟩
      simp only at hW hy f8 f1 f2 f9 f28 f29 f30 f12 f14
      subst hW; subst hy
      have hrl := hrb l
      simp only [SX, f12, q3.len len38]
      generalize hrr : roundOf st.2 l = rr at *
      refine Ok_loop l.length (by omega) (fun j R W4 => Le W1 W4 ∧ W4.next = W3.next ∧ MapI W4 W1.next (fun z => if z ∈ l.take j then rr + 1 else st.2 z) ∧ Ints W4 u l ∧ Lst (W1.next + 1) W4 1 intC x st.1 ∧ R 8 = x ∧ R 1 = ov ∧ R 2 = .pointer (some ⟨W.next, 0, none⟩) ∧ R 9 = .map (some W1.next) ∧ R 28 = ov ∧ R 29 = .int .i64 (ops.length : Int) ∧ R 30 = .int .i64 (i : Int) ∧ R 14 = .int .i64 rr ∧ R 55 = u ∧ R 56 = .int .i64 (l.length : Int) ∧ R 57 = .int .i64 (j : Int))
        (fun r => r.1 = .exit 4 ∧ Le W1 r.2.2 ∧ r.2.2.next = W3.next ∧ MapI r.2.2 W1.next (fun z => if z ∈ l then rr + 1 else st.2 z) ∧ Lst (W1.next + 1) r.2.2 1 intC x st.1 ∧ r.2.1 8 = x ∧ r.2.1 1 = ov ∧ r.2.1 2 = .pointer (some ⟨W.next, 0, none⟩) ∧ r.2.1 9 = .map (some W1.next) ∧ r.2.1 28 = ov ∧ r.2.1 29 = .int .i64 (ops.length : Int) ∧ r.2.1 30 = .int .i64 (i : Int) ∧ r.2.1 14 = .int .i64 rr)
        ⟨hld, rfl, by simpa using hMd, q3, hLd, f8, f1, f2, f9, f28, f29, f30, f14, rfl, rfl, rfl⟩ ?_ ?_ ?_
      · rintro j R W4 hj ⟨g1, g2, g3, g4, g5, f8, f1, f2, f9, f28, f29, f30, f14, f55, f56, f57⟩
        unfold plans_Rounds_L1_L3
        have e3 : ((j : Int) < (l.length : Int)) := by omega
        obtain ⟨p, p1, p2⟩ := g4.get hj
        have ht : l.take (j + 1) = l.take j ++ [l[j]] := by rw [List.take_add_one, List.getElem?_eq_getElem hj]; rfl
        obtain ⟨ob, m1, m2⟩ := map_update g3 u84 Tryd.underlying3 l[j] (rr + 1)
        have er : ∀ W', oBin Tryd.prog .add 3 false true (.int .i64 rr) (.int .i64 1) W' = some (.int .i64 (rr + 1), W') := fun W' => oBin_add (by omega) (by omega)
        simp only [SX, f9, f14, f55, f56, f57, e3, p1, p2 _ (.refl _), er, m1, add1 j _ (by omega), Ok_some]
        refine .inl ⟨trivial, g1.put (Nat.le_refl _) _, by rw [AW.put_next]; exact g2, ?_, Row.put_map g4 g3 _, Lst.put_map g5 (by omega) _, f8, f1, f2, f9, f28, f29, f30, f14, f55, f56, rfl⟩
        have ef : (fun z => if z ∈ l.take (j + 1) then rr + 1 else st.2 z) = (fun z => if z = l[j] then rr + 1 else (if z ∈ l.take j then rr + 1 else st.2 z)) := by
          funext z
          rw [ht]
          by_cases h1 : z = l[j]
          · rw [if_pos h1, if_pos (List.mem_append.2 (.inr (List.mem_singleton.2 h1)))]
          · by_cases h2 : z ∈ l.take j
            · rw [if_neg h1, if_pos h2, if_pos (List.mem_append.2 (.inl h2))]
            · rw [if_neg h1, if_neg h2, if_neg (fun h => (List.mem_append.1 h).elim h2 fun h => h1 (List.mem_singleton.1 h))]
        rw [ef]
        exact m2
      · rintro R W4 ⟨g1, g2, g3, g4, g5, f8, f1, f2, f9, f28, f29, f30, f14, f55, f56, f57⟩
        unfold plans_Rounds_L1_L3
        have e3 : ¬ ((l.length : Int) < (l.length : Int)) := by omega
        rw [List.take_length] at g3
        simp only [SX, f56, f57, e3, Ok_some]
        exact ⟨by simp, trivial, g1, g2, g3, g5, f8, f1, f2, f9, f28, f29, f30, f14⟩
      · rintro ⟨y, R, W4⟩ ⟨hy, g1, g2, g3, g5, f8, f1, f2, f9, f28, f29, f30, f14⟩
        simp only at hy g1 g2 g3 g5 f8 f1 f2 f9 f28 f29 f30 f14
        subst hy
        have hLm := g5.mono ((Le.refl W4).add (.cells [.int .i64 rr]))
        obtain ⟨v', W5, s1, s2, s3, s4⟩ := Lst.push (P := Tryd.prog) (a := rr) (b := W4.next) (c := 1) ap38 intC_len intC_one hLm cellsAt_new (by omega) (by omega) (by rw [AW.add_next]; omega)
        have hg5 : W5.get W1.next = W4.get W1.next := by
          rw [get_low s4 (by omega) (by rw [AW.add_next]; omega), AW.get_add_ne _ _ (by omega)]
        simp only [SX, f8, f14, f30, bs38, s1, add1 i _ (by omega), Ok_some]
        refine .inl ⟨trivial, s4 _ (g1.add _) (by omega), by rw [AW.add_next] at s3; omega, ?_, ⟨_, rfl, ?_⟩, f1, f2, f9, f28, f29, rfl, ?_⟩
        · rw [hsn2]
          unfold stepR
          rw [hrr]
          exact MapI.of_get g3 hg5
        · rw [hsn2]
          unfold stepR
          rw [hrr]
          exact s2
        · intro o ho'
          rw [take_snoc hi] at ho'
          exact snoc_all hok hkq o ho'
  · rintro R W' ⟨hl, hmb, hM, ⟨x, f8, hL⟩, f1, f2, f9, f28, f29, f30, hok⟩
    unfold plans_Rounds_L1
    have e1 : ¬ ((ops.length : Int) < (ops.length : Int)) := by omega
    rw [List.take_length] at hok
    have hll : (lsOf v ops).take ops.length = lsOf v ops := by
      have : (lsOf v ops).length = ops.length := by simp [lsOf]
      rw [← this, List.take_length]
    rw [hll] at hL
    simp only [SX, f29, f30, e1, Ok_some]
    exact ⟨by simp, hl, .inl ⟨trivial, ⟨x, f8, hL.ints⟩, f1, find_no hok⟩⟩
  · rintro ⟨y, R, W'⟩ ⟨hl, hq⟩
    simp only at hl hq
    rcases hq with ⟨rfl, ⟨x, f8, hI⟩, f1, hb⟩ | ⟨rfl, o, hb, f4, f5⟩
    · rw [hb]
      simp only [SX, f1, ho.len len50]
      by_cases t : 200 < (ops.length : Int)
      · have t' : 200 < ops.length := by omega
        simp only [SX, decide_eq_true t, if_pos t', Ok_some]
        exact ⟨_, rfl, hle.trans hl, Row.nil⟩
      · have t' : ¬ 200 < ops.length := by omega
        simp only [SX, decide_eq_false t, if_neg t', f8, Ok_some]
        exact ⟨_, rfl, hle.trans hl, hI⟩
    · rw [hb]
      simp only [SX, f4, f5, Ok_some]
      exact ⟨_, rfl, hle.trans hl, Row.nil⟩
end Go.Proofs.YtfcfglpkgcheiaaDoor
/- The rounds of operations: the document's answer is the same. -/
namespace Go.Proofs.YtfcfglpkgcheiaaDoor
open Go Go.Eng
set_option linter.unusedVariables false
set_option linter.unusedSimpArgs false
set_option maxRecDepth 100000
theorem Lst.push' {α : Type} {W : AW} {ts : Array TypeId} {z bytes lo : Nat} {f : α → List Value} {v : Value} {l : List α} {a : α} (hk : appOk Tryd.prog ts z bytes = true) (hf : ∀ a, (f a).length = z) (h1 : ∀ a, (f a).all one = true)
    (h : Lst lo W z f v l) {b c : Nat} (hc : cellsAt W b = some (f a)) (hb : l.length + 1 < 1099511627776) (hb2 : (2 * (l.length + 1) + 192) * bytes ≤ 281474976710656) (hlo : lo ≤ W.next) :
    ∃ v' W', aAppend Tryd.prog W ts v (.slice (some ⟨b, 0, none⟩) 1 c) = some (v', W') ∧ Lst lo W' z f v' (l ++ [a]) ∧ W.next ≤ W'.next ∧ (∀ A, Le A W → A.next ≤ lo → Le A W') ∧ (∀ d, d < W.next → (∀ cs, W.get d = some (.cells cs) → l ≠ [] → cs ≠ l.flatMap f) → W'.get d = W.get d) := by
  have hn : f a = ((f a).drop 0).take (1 * z) := by rw [List.drop_zero, Nat.one_mul, ← hf a, List.take_length]
  have hl : (f a).length = 1 * z := by rw [hf]; omega
  rcases h with ⟨rfl, rfl⟩ | ⟨h0, B, i1, i2, rfl, i4⟩
  · refine ⟨_, _, app_nil (b := b) (o := 0) (c := c) hk hc hn hl (by omega) (h1 a) (by omega) (by simpa using hb2), .inr ⟨by simp, W.next, hlo, by rw [AW.add_next]; omega, by simp, by rw [AW.get_add]; simp⟩, by rw [AW.add_next]; omega, fun A hA _ => hA.add _, fun d hd _ => AW.get_add_ne _ _ (by omega)⟩
  · have hpos : 0 < l.length := List.length_pos_iff.2 h0
    refine ⟨_, _, app_on (b := b) (o := 0) (c := c) hk hc hn hl (by omega) (h1 a) i4 (flatMap_len hf l) (by omega) hb2 hpos, .inr ⟨by simp, W.next, hlo, by rw [AW.add_next, AW.kill_next]; omega, by simp [AW.kill_next], ?_⟩, by rw [AW.add_next, AW.kill_next]; omega, fun A hA hl => (hA.kill (by omega)).add _, fun d hd hne => ?_⟩
    · have := (W.kill B).get_add (.cells (l.flatMap f ++ f a))
      rw [AW.kill_next] at this
      rw [this, List.flatMap_append]
      simp
    · have hdB : B ≠ d := fun e => by subst e; exact hne _ i4 h0 rfl
      rw [AW.get_add_ne _ _ (by rw [AW.kill_next]; omega), AW.get_kill_ne _ hdB]
abbrev SlT := Option Addr × Nat × Nat
abbrev slV (q : SlT) : Value := .slice q.1 q.2.1 q.2.2
def slC (q : SlT) : List Value := [slV q]
theorem slC_len (q : SlT) : (slC q).length = 1 := rfl
theorem slC_one (q : SlT) : (slC q).all one = true := rfl
def slAt (cs : List Value) (p : Nat) (q : SlT) : Prop := cs[p]? = some (slV q)
theorem slC_at (q : SlT) (pre post : List Value) : slAt (pre ++ (slC q ++ post)) pre.length q := by
  unfold slAt
  rw [List.getElem?_append_right (by omega)]; simp [slC]
theorem ap85 : appOk Tryd.prog #[85, 85] 1 24 = true := by kernel_rfl
theorem bs85 (q : SlT) (W : AW) : oBuildSlice Tryd.prog 85 1 [(0, slV q)] W = some (.slice (some ⟨W.next, 0, none⟩) 1 1, W.add (.cells [slV q])) := Eq.trans (by kernel_rfl) rfl
theorem Ints.keep {W W' : AW} {q : SlT} {l : List Int} (h : Ints W (slV q) l) (hn : W.next ≤ W'.next) {us : List SlT} (hg : ∀ d, d < W.next → (∀ cs, W.get d = some (.cells cs) → us ≠ [] → cs ≠ us.flatMap slC) → W'.get d = W.get d) : Ints W' (slV q) l := by
  obtain ⟨a, c, he, h⟩ := h
  refine ⟨a, c, he, ?_⟩
  rcases h with h | ⟨b, o, cs, h1, h2, h3, h4⟩
  · exact .inl h
  · by_cases hl : l = []
    · exact .inl hl
    · refine .inr ⟨b, o, cs, h1, by omega, ?_, h4⟩
      have hpos : 0 < l.length := List.length_pos_iff.2 hl
      have hi := h4 0 hpos
      unfold intAt at hi
      have hgd := hg b h2 (fun cs' hcs hne e => by
        have e2 : cs = cs' := by
          unfold cellsAt at h3
          rw [hcs] at h3
          exact (Option.some.inj h3).symm
        subst e2
        rw [e] at hi
        have hm := List.mem_of_getElem? hi
        obtain ⟨s, _, hs⟩ := List.mem_flatMap.1 hm
        simp [slC] at hs)
      unfold cellsAt at h3 ⊢
      rw [hgd]; exact h3
def refRound (out : List Int) (ls : List (List Int)) (l : List Int) (n : Nat) : Int := (List.range n).foldl (fun r k => if commonL l (ls.getD k []) = true then max r (out.getD k 0 + 1) else r) 0
def refRun (ls : List (List Int)) : Nat → List Int
  | 0 => []
  | n + 1 => refRun ls n ++ [refRound (refRun ls n) ls (ls.getD n []) n]
theorem refRun_len (ls : List (List Int)) : ∀ n, (refRun ls n).length = n
  | 0 => rfl
  | n + 1 => by
    have : refRun ls (n + 1) = refRun ls n ++ [refRound (refRun ls n) ls (ls.getD n []) n] := rfl
    rw [this, List.length_append, refRun_len ls n]; rfl
theorem refRound_succ (out : List Int) (ls : List (List Int)) (l : List Int) (n : Nat) : refRound out ls l (n + 1) = if commonL l (ls.getD n []) = true then max (refRound out ls l n) (out.getD n 0 + 1) else refRound out ls l n := by
  unfold refRound
  rw [List.range_succ, List.foldl_append]; rfl
theorem refRound_char (out : List Int) (ls : List (List Int)) (l : List Int) : ∀ n, 0 ≤ refRound out ls l n ∧ (∀ k, k < n → commonL l (ls.getD k []) = true → out.getD k 0 + 1 ≤ refRound out ls l n) ∧ (refRound out ls l n = 0 ∨ ∃ k, k < n ∧ commonL l (ls.getD k []) = true ∧ refRound out ls l n = out.getD k 0 + 1)
  | 0 => ⟨Int.le_refl _, fun k h => by omega, .inl rfl⟩
  | n + 1 => by
    obtain ⟨h1, h2, h3⟩ := refRound_char out ls l n
    rw [refRound_succ]
    by_cases hc : commonL l (ls.getD n []) = true
    · rw [if_pos hc]
      refine ⟨by omega, fun k hk hck => ?_, ?_⟩
      · by_cases hkn : k < n
        · have := h2 k hkn hck; omega
        · obtain rfl : k = n := by omega
          omega
      · by_cases hm : refRound out ls l n ≤ out.getD n 0 + 1
        · exact .inr ⟨n, by omega, hc, by omega⟩
        · rcases h3 with h3 | ⟨k, k1, k2, k3⟩
          · exact .inl (by omega)
          · exact .inr ⟨k, by omega, k2, by omega⟩
    · rw [if_neg hc]
      refine ⟨h1, fun k hk hck => ?_, ?_⟩
      · by_cases hkn : k < n
        · exact h2 k hkn hck
        · obtain rfl : k = n := by omega
          exact absurd hck hc
      · rcases h3 with h3 | ⟨k, k1, k2, k3⟩
        · exact .inl h3
        · exact .inr ⟨k, by omega, k2, k3⟩
theorem roundOf_char (nx : Int → Int) (l : List Int) : 0 ≤ roundOf nx l ∧ (∀ x ∈ l, nx x ≤ roundOf nx l) ∧ (roundOf nx l = 0 ∨ ∃ x ∈ l, roundOf nx l = nx x) := by
  have : ∀ n, n ≤ l.length → 0 ≤ roundOf nx (l.take n) ∧ (∀ x ∈ l.take n, nx x ≤ roundOf nx (l.take n)) ∧ (roundOf nx (l.take n) = 0 ∨ ∃ x ∈ l.take n, roundOf nx (l.take n) = nx x) := by
    intro n
    induction n with
    | zero => intro _; exact ⟨Int.le_refl _, fun x h => by simp at h, .inl rfl⟩
    | succ n ih =>
      intro hn
      have hlt : n < l.length := by omega
      obtain ⟨h1, h2, h3⟩ := ih (by omega)
      rw [take_snoc hlt, roundOf_snoc]
      refine ⟨by omega, fun x hx => ?_, ?_⟩
      · rcases List.mem_append.1 hx with hx | hx
        · have := h2 x hx; omega
        · rw [List.mem_singleton.1 hx]; omega
      · by_cases hm : roundOf nx (l.take n) ≤ nx l[n]
        · exact .inr ⟨l[n], List.mem_append.2 (.inr (List.mem_singleton.2 rfl)), by omega⟩
        · rcases h3 with h3 | ⟨x, x1, x2⟩
          · exact .inl (by omega)
          · exact .inr ⟨x, List.mem_append.2 (.inl x1), by omega⟩
  have := this l.length (Nat.le_refl _)
  rwa [List.take_length] at this
theorem common_iff {a b : List Int} : commonL a b = true ↔ ∃ x, x ∈ a ∧ x ∈ b := by
  unfold commonL
  simp only [List.any_eq_true, decide_eq_true_eq]
  constructor
  · rintro ⟨x, hx, y, hy, rfl⟩; exact ⟨x, hx, hy⟩
  · rintro ⟨x, hx, hy⟩; exact ⟨x, hx, x, hy, rfl⟩
theorem law_run (ls : List (List Int)) : ∀ n, n ≤ ls.length → refRun ls n = (runR (ls.take n)).1 ∧ ∀ x, 0 ≤ (runR (ls.take n)).2 x ∧ (∀ k, k < n → x ∈ ls.getD k [] → (refRun ls n).getD k 0 + 1 ≤ (runR (ls.take n)).2 x) ∧ ((runR (ls.take n)).2 x = 0 ∨ ∃ k, k < n ∧ x ∈ ls.getD k [] ∧ (runR (ls.take n)).2 x = (refRun ls n).getD k 0 + 1)
  | 0, _ => ⟨rfl, fun x => ⟨Int.le_refl _, fun k h => by omega, .inl rfl⟩⟩
  | n + 1, hn => by
    have hlt : n < ls.length := by omega
    obtain ⟨h1, h2⟩ := law_run ls n (by omega)
    have hgd : ls.getD n [] = ls[n] := by rw [List.getD_eq_getElem?_getD, List.getElem?_eq_getElem hlt]; rfl
    have hlen := refRun_len ls n
    obtain ⟨a1, a2, a3⟩ := refRound_char (refRun ls n) ls ls[n] n
    obtain ⟨b1, b2, b3⟩ := roundOf_char (runR (ls.take n)).2 ls[n]
    have heq : refRound (refRun ls n) ls ls[n] n = roundOf (runR (ls.take n)).2 ls[n] := by
      apply Int.le_antisymm
      · rcases a3 with a3 | ⟨k, k1, k2, k3⟩
        · omega
        · obtain ⟨x, x1, x2⟩ := common_iff.1 k2
          have := (h2 x).2.1 k k1 x2
          have := b2 x x1
          omega
      · rcases b3 with b3 | ⟨x, x1, x2⟩
        · omega
        · rcases (h2 x).2.2 with h | ⟨k, k1, k2, k3⟩
          · omega
          · have := a2 k k1 (common_iff.2 ⟨x, x1, k2⟩)
            omega
    have hr1 : refRun ls (n + 1) = refRun ls n ++ [roundOf (runR (ls.take n)).2 ls[n]] := by
      show refRun ls n ++ [refRound (refRun ls n) ls (ls.getD n []) n] = _
      rw [hgd, heq]
    have hr2 : runR (ls.take (n + 1)) = stepR (runR (ls.take n)) ls[n] := by rw [take_snoc hlt, runR_snoc]
    have hg1 : ∀ k, k < n → (refRun ls (n + 1)).getD k 0 = (refRun ls n).getD k 0 := fun k hk => by
      rw [hr1, List.getD_eq_getElem?_getD, List.getElem?_append_left (by omega), ← List.getD_eq_getElem?_getD]
    have hg2 : (refRun ls (n + 1)).getD n 0 = roundOf (runR (ls.take n)).2 ls[n] := by
      rw [hr1, List.getD_eq_getElem?_getD, List.getElem?_append_right (by omega), hlen, Nat.sub_self]; rfl
    refine ⟨by rw [hr1, hr2, h1]; rfl, fun x => ?_⟩
    rw [hr2]
    unfold stepR
    simp only
    by_cases hx : x ∈ ls[n]
    · rw [if_pos hx]
      refine ⟨by omega, fun k hk hkx => ?_, .inr ⟨n, by omega, by rw [hgd]; exact hx, by rw [hg2]⟩⟩
      by_cases hkn : k < n
      · rw [hg1 k hkn]
        have := (h2 x).2.1 k hkn hkx
        have := b2 x hx
        omega
      · obtain rfl : k = n := by omega
        rw [hg2]; omega
    · rw [if_neg hx]
      obtain ⟨c1, c2, c3⟩ := h2 x
      refine ⟨c1, fun k hk hkx => ?_, ?_⟩
      · by_cases hkn : k < n
        · rw [hg1 k hkn]; exact c2 k hkn hkx
        · obtain rfl : k = n := by omega
          rw [hgd] at hkx
          exact absurd hkx hx
      · rcases c3 with c3 | ⟨k, k1, k2, k3⟩
        · exact .inl c3
        · exact .inr ⟨k, by omega, k2, by rw [hg1 k k1]; exact k3⟩
end Go.Proofs.YtfcfglpkgcheiaaDoor
/- The rounds of operations: the document's answer; PlansRounds. -/
namespace Go.Proofs.YtfcfglpkgcheiaaDoor
open Go Go.Eng
set_option linter.unusedVariables false
set_option linter.unusedSimpArgs false
set_option maxRecDepth 100000
theorem SlR.get {W : AW} {v : Value} {l : List SlT} (h : Row W 1 slAt v l) {i : Nat} (hi : i < l.length) : ∃ p, (∀ W' k, ixS 1 v (.int k (i : Int)) W' = some (p, W')) ∧ ∀ W', Le W W' → ldC p W' = some (slV l[i], W') := by
  obtain ⟨b, o, cs, h1, h2, h3, h4⟩ := h.elem hi
  exact ⟨_, h1, fun W' hle => ldC_ok (by rw [hle.cellsAt h2]; exact h3) h4⟩
theorem refRounds_ok {v : Ven} {ops : List OpT} {sv ov : Value} {W : AW} (hs : Secs W sv v.secs) (hv : v.secs.length < 1000) (hr : ∀ s ∈ v.secs, s.rows.length < 1000) (ho : OpsR W ov ops) (hn : ops.length ≤ 210) :
    ∃ u W2, omS (.func (.func 28) #[] #[]) [venV v sv, ov] W = some (.tuple #[u, .int .i64 (roundsE v ops).2], W2) ∧ Le W W2 ∧ Ints W2 u (roundsE v ops).1 := by
  refine om_row2 ?_ ref22_Rounds_om
  unfold ref22_Rounds roundsE
  obtain ⟨W1, hB, hle, hnx, c4, c0, c3⟩ := venBox v sv W
  have hsn := hle.next
  have hs1 := hs.mono hle
  have ho1 := ho.mono hle
  simp only [SX, hB, c4 _ (.refl _), refVen_ok hs1 hv hr]
  by_cases he : (venE v).2 = 0
  case neg =>
    simp only [SX, he, if_false, Ok_some]
    exact ⟨_, rfl, hle, Row.nil⟩
  have hlsl : (lsOf v ops).length = ops.length := by simp [lsOf]
  have hlb : ∀ k, ((lsOf v ops).getD k []).length ≤ 24 := fun k => by
    by_cases hk : k < ops.length
    · unfold lsOf
      rw [List.getD_eq_getElem?_getD, List.getElem?_map, List.getElem?_eq_getElem hk]
      exact locksE_len v ops[k]
    · rw [List.getD_eq_getElem?_getD, List.getElem?_eq_none (by omega)]; simp
  have hlg : ∀ k (hk : k < ops.length), (lsOf v ops).getD k [] = (locksE v ops[k]).1 := fun k hk => by
    unfold lsOf
    rw [List.getD_eq_getElem?_getD, List.getElem?_map, List.getElem?_eq_getElem hk]; rfl
  have add1 : ∀ (k : Nat) (W' : AW), k < 1000000 → oBin Tryd.prog .add 3 false true (.int .i64 (k : Int)) (.int .i64 1) W' = some (.int .i64 ((k + 1 : Nat) : Int), W') := fun k W' hk => oBin_add (by omega) (by omega)
  simp only [SX, decide_eq_true he, if_pos he]
  refine Ok_loop ops.length (by omega) (fun i R W' => Le W1 W' ∧ (∃ x us, R 8 = x ∧ Lst W1.next W' 1 slC x us ∧ us.length = i ∧ ∀ k (hk : k < us.length), Ints W' (slV us[k]) ((lsOf v ops).getD k [])) ∧ R 1 = ov ∧ R 2 = .pointer (some ⟨W.next, 0, none⟩) ∧ R 9 = .int .i64 (i : Int) ∧ ∀ o ∈ ops.take i, (!decide ((locksE v o).2 = 0)) = false)
    (fun r => Le W1 r.2.2 ∧ ((r.1 = .exit 0 ∧ (∃ x us, r.2.1 8 = x ∧ Lst W1.next r.2.2 1 slC x us ∧ us.length = ops.length ∧ ∀ k (hk : k < us.length), Ints r.2.2 (slV us[k]) ((lsOf v ops).getD k [])) ∧ r.2.1 1 = ov ∧ badOp v ops = none) ∨ (r.1 = .ret ∧ ∃ o, badOp v ops = some o ∧ r.2.1 4 = .slice none 0 0 ∧ r.2.1 5 = .int .i64 (locksE v o).2)))
    ⟨.refl _, ⟨_, [], rfl, .nil _ _ _ _, rfl, fun k hk => by simp at hk⟩, rfl, rfl, rfl, by simp⟩ ?_ ?_ ?_
  · rintro i R W' hi ⟨hl, ⟨x, us, f8, hL, hul, hI⟩, f1, f2, f9, hok⟩
    unfold ref22_Rounds_L1
    have e1 : ((i : Int) < (ops.length : Int)) := by omega
    obtain ⟨b, of, p1, p2⟩ := OpsR.get ho1 hi
    obtain ⟨u, Wd, q1, q2, q3⟩ := refLocks_ok (o := ops[i]) (hs1.mono hl) hv hr
    simp only [SX, f1, f2, f9, ho.len len50, e1, c4 _ hl, p1, p2 _ hl, q1]
    by_cases hq : (locksE v ops[i]).2 = 0
    case neg =>
      simp only [SX, hq, Ok_some]
      refine .inr ⟨by simp, hl.trans q2, .inr ⟨trivial, ops[i], ?_, rfl, rfl⟩⟩
      unfold badOp
      refine find_pre (pre := ops.take i) (r := ops[i]) ?_ hok (by simp [hq])
      rw [← take_snoc hi]
      exact List.take_prefix _ _
    have hkq : (!decide ((locksE v ops[i]).2 = 0)) = false := by simp [hq]
    obtain ⟨a, c, hu, hrest⟩ := q3
    have q3 : Ints Wd u (locksE v ops[i]).1 := ⟨a, c, hu, hrest⟩
    clear hrest
    obtain ⟨q, rfl⟩ : ∃ q : SlT, u = slV q := ⟨(a, _, c), hu⟩
    have hLd := hL.mono q2
    have lA : Le Wd (Wd.add (.cells [slV q])) := (Le.refl Wd).add _
    obtain ⟨v', W5, s1, s2, s3, s4, s5⟩ := Lst.push' (a := q) (b := Wd.next) (c := 1) ap85 slC_len slC_one (hLd.mono lA) cellsAt_new (by omega) (by omega) (by rw [AW.add_next]; have := hl.next; have := q2.next; omega)
    have hk1 := Ints.keep (q3.mono lA) s3 s5
    simp only [SX, hq, decide_true, f8, f9, bs85, s1, add1 i _ (by omega), Ok_some]
    refine .inl ⟨trivial, s4 _ ((hl.trans q2).add _) (Nat.le_refl _), ⟨_, us ++ [q], rfl, s2, by simp [hul], fun k hk => ?_⟩, f1, f2, rfl, ?_⟩
    · by_cases hki : k < us.length
      · rw [List.getElem_append_left hki]
        exact Ints.keep (((hI k hki).mono q2).mono lA) s3 s5
      · have hkk : k = us.length := by simp at hk; omega
        subst hkk
        rw [List.getElem_append_right (by omega)]
        simp only [Nat.sub_self, List.getElem_cons_zero]
        rw [hul, hlg i hi]
        exact hk1
    · intro o ho'
      rw [take_snoc hi] at ho'
      exact snoc_all hok hkq o ho'
  · rintro R W' ⟨hl, ⟨x, us, f8, hL, hul, hI⟩, f1, f2, f9, hok⟩
    unfold ref22_Rounds_L1
    have e1 : ¬ ((ops.length : Int) < (ops.length : Int)) := by omega
    rw [List.take_length] at hok
    simp only [SX, f1, f9, ho.len len50, e1, Ok_some]
    exact ⟨by simp, hl, .inl ⟨trivial, ⟨x, us, f8, hL, hul, hI⟩, f1, find_no hok⟩⟩
  · rintro ⟨y, R, W'⟩ ⟨hl, hq⟩
    simp only at hl hq
    rcases hq with ⟨rfl, ⟨x, us, f8, hL, hul, hI⟩, f1, hb⟩ | ⟨rfl, o, hb, f4, f5⟩
    case inr =>
      rw [hb]
      simp only [SX, f4, f5, Ok_some]
      exact ⟨_, rfl, hle.trans hl, Row.nil⟩
    rw [hb]
    simp only [SX, f1, ho.len len50]
    by_cases t : 200 < (ops.length : Int)
    case pos =>
      have t' : 200 < ops.length := by omega
      simp only [SX, decide_eq_true t, if_pos t', Ok_some]
      exact ⟨_, rfl, hle.trans hl, Row.nil⟩
    have t' : ¬ 200 < ops.length := by omega
    have hlaw := (law_run (lsOf v ops) ops.length (by omega)).1
    rw [show (lsOf v ops).take ops.length = lsOf v ops by rw [← hlsl, List.take_length]] at hlaw
    simp only [SX, decide_eq_false t, if_neg t']
    rw [← hlaw]
    generalize lsOf v ops = ls at *
    have hR := hL.row slC_len slC_at
    have hrl := refRun_len ls
    have hrb : ∀ n, n ≤ ops.length → ∀ k, 0 ≤ (refRun ls n).getD k 0 ∧ (refRun ls n).getD k 0 ≤ (n : Int) := by
      intro n
      induction n with
      | zero => intro _ k; simp [refRun]
      | succ n ih =>
        intro hn1 k
        have ih' := ih (by omega)
        have hs : refRun ls (n + 1) = refRun ls n ++ [refRound (refRun ls n) ls (ls.getD n []) n] := rfl
        rw [hs, List.getD_eq_getElem?_getD]
        by_cases hk : k < n
        · rw [List.getElem?_append_left (by rw [hrl]; exact hk), ← List.getD_eq_getElem?_getD]
          have := ih' k; omega
        · rw [List.getElem?_append_right (by rw [hrl]; omega), hrl]
          by_cases hkn : k = n
          · subst hkn
            rw [Nat.sub_self]
            obtain ⟨a1, a2, a3⟩ := refRound_char (refRun ls k) ls (ls.getD k []) k
            simp only [List.getElem?_cons_zero, Option.getD_some]
            rcases a3 with a3 | ⟨j, j1, j2, j3⟩
            · omega
            · have := ih' j; omega
          · rw [List.getElem?_eq_none (by simp; omega)]; simp; omega
    refine Ok_loop ops.length (by omega) (fun i R W2 => Le W' W2 ∧ R 1 = ov ∧ R 8 = x ∧ R 13 = .int .i64 (i : Int) ∧ ∃ y, R 12 = y ∧ Lst W'.next W2 1 intC y (refRun ls i))
      (fun r => r.1 = .exit 2 ∧ Le W' r.2.2 ∧ ∃ y, r.2.1 12 = y ∧ Lst W'.next r.2.2 1 intC y (refRun ls ops.length)) ⟨.refl _, f1, f8, rfl, _, rfl, .nil _ _ _ _⟩ ?_ ?_ ?_
    · rintro i R W2 hi ⟨hl2, f1, f8, f13, y, f12, hO⟩
      unfold ref22_Rounds_L2
      have e1 : ((i : Int) < (ops.length : Int)) := by omega
      have hiu : i < us.length := by omega
      obtain ⟨pi, pi1, pi2⟩ := SlR.get hR hiu
      have hOi := hO.ints
      simp only [SX, f1, f13, ho.len len50, e1]
      refine Ok_loop i (by omega) (fun k R W3 => W3 = W2 ∧ R 1 = ov ∧ R 8 = x ∧ R 12 = y ∧ R 13 = .int .i64 (i : Int) ∧ R 14 = .int .i64 (refRound (refRun ls i) ls (ls.getD i []) k) ∧ R 15 = .int .i64 (k : Int))
        (fun r => r.1 = .exit 4 ∧ r.2.2 = W2 ∧ r.2.1 1 = ov ∧ r.2.1 8 = x ∧ r.2.1 12 = y ∧ r.2.1 13 = .int .i64 (i : Int) ∧ r.2.1 14 = .int .i64 (refRound (refRun ls i) ls (ls.getD i []) i)) ⟨rfl, f1, f8, f12, f13, rfl, rfl⟩ ?_ ?_ ?_
      · rintro k R W3 hk ⟨rfl, f1, f8, f12, f13, f14, f15⟩
        unfold ref22_Rounds_L2_L3
        have e3 : ((k : Int) < (i : Int)) := by omega
        have hku : k < us.length := by omega
        obtain ⟨pk, pk1, pk2⟩ := SlR.get hR hku
        have hIi := (hI i hiu).mono hl2
        have hIk := (hI k hku).mono hl2
        obtain ⟨po, po1, po2⟩ := hOi.get (i := k) (by rw [hrl]; exact hk)
        have hgk : (refRun ls i)[k]'(by rw [hrl]; exact hk) = (refRun ls i).getD k 0 := by
          rw [List.getD_eq_getElem?_getD, List.getElem?_eq_getElem (by rw [hrl]; exact hk)]; rfl
        have hbk := hrb i (by omega) k
        have er : ∀ W', oBin Tryd.prog .add 3 false true (.int .i64 ((refRun ls i).getD k 0)) (.int .i64 1) W' = some (.int .i64 ((refRun ls i).getD k 0 + 1), W') := fun W' => oBin_add (by omega) (by omega)
        have hli := hlb i
        have hlk := hlb k
        simp only [SX, f8, f13, f15, e3, pi1, pi2 _ hl2, pk1, pk2 _ hl2, common_ok hIi hIk (by omega) (by omega)]
        have hsx := refRound_succ (refRun ls i) ls (ls.getD i []) k
        cases hc : commonL (ls.getD i []) (ls.getD k [])
        · rw [hc, if_neg (by simp)] at hsx
          simp only [SX, f15, add1 k _ (by omega), Ok_some]
          exact .inl ⟨trivial, trivial, f1, f8, f12, f13, by rw [hsx]; exact f14, rfl⟩
        · rw [hc, if_pos rfl] at hsx
          simp only [SX, f12, f14, f15, po1, po2 _ (.refl _), hgk, er, max_ok, add1 k _ (by omega), Ok_some]
          exact .inl ⟨trivial, trivial, f1, f8, f12, f13, by rw [hsx]; rfl, rfl⟩
      · rintro R W3 ⟨rfl, f1, f8, f12, f13, f14, f15⟩
        unfold ref22_Rounds_L2_L3
        have e3 : ¬ ((i : Int) < (i : Int)) := by omega
        simp only [SX, f13, f15, e3, Ok_some]
        exact ⟨by simp, trivial, trivial, f1, f8, f12, f13, f14⟩
      · rintro ⟨z, R, W3⟩ ⟨hz, hW, f1, f8, f12, f13, f14⟩
        simp only at hz hW f1 f8 f12 f13 f14
        subst hz; subst hW
        have hLm := hO.mono ((Le.refl W3).add (.cells [.int .i64 (refRound (refRun ls i) ls (ls.getD i []) i)]))
        obtain ⟨v', W5, s1, s2, s3, s4⟩ := Lst.push (P := Tryd.prog) (a := refRound (refRun ls i) ls (ls.getD i []) i) (b := W3.next) (c := 1) ap38 intC_len intC_one hLm cellsAt_new (by rw [hrl]; omega) (by rw [hrl]; omega) (by rw [AW.add_next]; have := hl2.next; omega)
        simp only [SX, f12, f13, f14, bs38, s1, add1 i _ (by omega), Ok_some]
        exact .inl ⟨trivial, s4 _ (hl2.add _) (Nat.le_refl _), f1, f8, rfl, _, rfl, s2⟩
    · rintro R W2 ⟨hl2, f1, f8, f13, y, f12, hO⟩
      unfold ref22_Rounds_L2
      have e1 : ¬ ((ops.length : Int) < (ops.length : Int)) := by omega
      simp only [SX, f1, f13, ho.len len50, e1, Ok_some]
      exact ⟨by simp, trivial, hl2, y, f12, hO⟩
    · rintro ⟨z, R, W2⟩ ⟨hz, hl2, y, f12, hO⟩
      simp only at hz hl2 f12 hO
      subst hz
      simp only [SX, f12, Ok_some]
      exact ⟨_, rfl, (hle.trans hl).trans hl2, hO.ints⟩
end Go.Proofs.YtfcfglpkgcheiaaDoor
/- PlansRounds: what it answers. -/
namespace Go.Proofs.YtfcfglpkgcheiaaDoor
open Go Go.Eng
set_option linter.unusedVariables false
set_option linter.unusedSimpArgs false
set_option maxRecDepth 100000
theorem refRun_get (ls : List (List Int)) : ∀ (n i : Nat), i < n → (refRun ls n).getD i 0 = refRound (refRun ls i) ls (ls.getD i []) i
  | 0, i, h => by omega
  | n + 1, i, h => by
    have hs : refRun ls (n + 1) = refRun ls n ++ [refRound (refRun ls n) ls (ls.getD n []) n] := rfl
    rw [hs, List.getD_eq_getElem?_getD]
    by_cases hi : i < n
    · rw [List.getElem?_append_left (by rw [refRun_len]; exact hi), ← List.getD_eq_getElem?_getD]
      exact refRun_get ls n i hi
    · obtain rfl : i = n := by omega
      rw [List.getElem?_append_right (by rw [refRun_len]; omega), refRun_len, Nat.sub_self]; rfl
theorem rounds_char (ls : List (List Int)) {n i : Nat} (hi : i < n) : 0 ≤ (refRun ls n).getD i 0 ∧ (∀ k, k < i → commonL (ls.getD i []) (ls.getD k []) = true → (refRun ls n).getD k 0 + 1 ≤ (refRun ls n).getD i 0) ∧ ((refRun ls n).getD i 0 = 0 ∨ ∃ k, k < i ∧ commonL (ls.getD i []) (ls.getD k []) = true ∧ (refRun ls n).getD i 0 = (refRun ls n).getD k 0 + 1) := by
  obtain ⟨h1, h2, h3⟩ := refRound_char (refRun ls i) ls (ls.getD i []) i
  have hg : ∀ k, k < i → (refRun ls n).getD k 0 = (refRun ls i).getD k 0 := fun k hk => by rw [refRun_get ls n k (by omega), refRun_get ls i k hk]
  rw [refRun_get ls n i hi]
  refine ⟨h1, fun k hk hc => by rw [hg k hk]; exact h2 k hk hc, ?_⟩
  rcases h3 with h3 | ⟨k, k1, k2, k3⟩
  · exact .inl h3
  · exact .inr ⟨k, k1, k2, by rw [hg k k1]; exact k3⟩
theorem plansRounds_om {v : Ven} {ops : List OpT} {sv ov : Value} {W : AW} (hs : SecsC W sv v.secs) (hG : GW W) (ho : OpsR W ov ops) : omS (.func (.func 8) #[] #[]) [venV v sv, ov] W = some (.bool true, W) := by
  refine om_drop rfl ?_ law22_PlansRounds_om
  unfold law22_PlansRounds
  obtain ⟨W1, hB, hle, hnx, c4, c0, c3⟩ := venBox v sv W
  have hs1 := hs.mono hle
  have hG1 := hG.mono hle
  have ho1 := ho.mono hle
  obtain ⟨b, w1, w2⟩ := wide_ok hs1.1
  simp only [SX, hB, c4 _ (.refl _), w1]
  cases b
  case true =>
    simp only [SX, wnt_undef, shown_ok hG1, Ok_some]
    exact ⟨trivial, hle⟩
  obtain ⟨w3, w4⟩ := w2 rfl
  have hv : v.secs.length < 1000 := by omega
  have hr : ∀ s ∈ v.secs, s.rows.length < 1000 := fun s h => by have := w4 s h; omega
  simp only [SX, ho.len len50]
  by_cases t1 : 30 < (ops.length : Int)
  case' pos =>
    by_cases t2 : (ops.length : Int) ≤ 200
    case pos =>
      simp only [SX, decide_eq_true t1, decide_eq_true t2, wnt_undef, ho.len len50, shown_ok hG1, Ok_some]
      exact ⟨trivial, hle⟩
    by_cases t3 : 210 < (ops.length : Int)
    case pos =>
      simp only [SX, decide_eq_true t1, decide_eq_false t2, decide_eq_true t3, wnt_undef, ho.len len50, shown_ok hG1, Ok_some]
      exact ⟨trivial, hle⟩
    simp only [SX, decide_eq_true t1, decide_eq_false t2, decide_eq_false t3, wnt_undef, ho.len len50]
  case' neg =>
    have t3 : ¬ 210 < (ops.length : Int) := by omega
    simp only [SX, decide_eq_false t1, decide_eq_false t3, wnt_undef, ho.len len50]
  all_goals
    have hn : ops.length ≤ 210 := by omega
    clear t1
    obtain ⟨u, W3, q1, q2, q3⟩ := planRounds_ok hs1 hv hG1 ho1 hn
    obtain ⟨u', W4, q1', q2', q3'⟩ := refRounds_ok (hs1.mono q2).1 hv hr (ho1.mono q2) hn
    have l14 := q2.trans q2'
    have q34 := q3.mono q2'
    have hal : (roundsE v ops).1.length ≤ 210 := by
      unfold roundsE
      split
      · split
        · simp
        · split
          · simp
          · have := runR_len (lsOf v ops) ([], fun _ => 0)
            unfold runR
            rw [this]
            simp [lsOf]; omega
      · simp
    simp only [SX, c4 _ (.refl _), q1, c4 _ q2, q1', ints_ok q34 q3' (by omega), decide_true, Bool.not_true]
    have add1 : ∀ (k : Nat) (W' : AW), k < 1000000 → oBin Tryd.prog .add 3 false true (.int .i64 (k : Int)) (.int .i64 1) W' = some (.int .i64 ((k + 1 : Nat) : Int), W') := fun k W' hk => oBin_add (by omega) (by omega)
    refine Ok_loop (roundsE v ops).1.length (by omega) (fun i R W' => Le W4 W' ∧ R 1 = ov ∧ R 2 = .pointer (some ⟨W.next, 0, none⟩) ∧ R 5 = u ∧ R 9 = .int .i64 (i : Int))
      (fun r => Le W4 r.2.2 ∧ r.1 = .exit 0) ⟨.refl _, rfl, rfl, rfl, rfl⟩ ?_ ?_ ?_
    · rintro i R W' hi ⟨hl, f1, f2, f5, f9⟩
      unfold law22_PlansRounds_L1
      have e1 : ((i : Int) < ((roundsE v ops).1.length : Int)) := by omega
      have qi := q34.mono hl
      obtain ⟨pi, pi1, pi2⟩ := Ints.get qi hi
      simp only [SX, f5, f9, qi.len len38, e1, pi1, pi2 _ (.refl _)]
      -- there are rounds
      have hok : (venE v).2 = 0 ∧ badOp v ops = none ∧ (roundsE v ops).1 = refRun (lsOf v ops) ops.length := by
        have hlsl : (lsOf v ops).length = ops.length := by simp [lsOf]
        have hlaw := (law_run (lsOf v ops) ops.length (by omega)).1
        rw [show (lsOf v ops).take ops.length = lsOf v ops by rw [← hlsl, List.take_length]] at hlaw
        rw [hlaw]
        unfold roundsE at hi ⊢
        split at hi
        · rename_i he
          rw [if_pos he]
          split at hi
          · simp at hi
          · rename_i hb
            rw [hb]
            split at hi
            · simp at hi
            · rename_i ht
              simp only [if_neg ht]
              exact ⟨he, trivial, trivial⟩
        · simp at hi
      obtain ⟨he, hb, hrr⟩ := hok
      have hlk : ∀ o ∈ ops, (locksE v o).2 = 0 := fun o h => by
        unfold badOp at hb
        have := List.find?_eq_none.1 hb o h
        simpa using this
      have hlen : (roundsE v ops).1.length = ops.length := by rw [hrr, refRun_len]
      have hio : i < ops.length := by omega
      have hlg : ∀ k (hk : k < ops.length), (lsOf v ops).getD k [] = (locksE v ops[k]).1 := fun k hk => by
        unfold lsOf
        rw [List.getD_eq_getElem?_getD, List.getElem?_map, List.getElem?_eq_getElem hk]; rfl
      have hget : ∀ k (hk : k < (roundsE v ops).1.length), (roundsE v ops).1[k] = (refRun (lsOf v ops) ops.length).getD k 0 := fun k hk => by
        rw [← hrr, List.getD_eq_getElem?_getD, List.getElem?_eq_getElem hk]; rfl
      obtain ⟨ch1, ch2, ch3⟩ := rounds_char (lsOf v ops) hio
      have hlv := l14.trans hl
      have hs' := hs1.mono hlv
      have hG' := hG1.mono hlv
      rw [hget i hi] at pi2 ⊢
      have hA : (refRun (lsOf v ops) ops.length).getD i 0 ≤ 210 := by
        have h1 := law_run (lsOf v ops) ops.length (by simp [lsOf])
        rcases ch3 with h | ⟨k, k1, k2, k3⟩
        · omega
        · obtain ⟨x, x1, x2⟩ := common_iff.1 k2
          have h2 := (h1.2 x).2.1 i hio x1
          have h3 := runR_bound ((lsOf v ops).take ops.length) ([], fun _ => 0) 0 (fun x => by simp) x
          have h4 : ((lsOf v ops).take ops.length).length ≤ 210 := by rw [List.length_take]; omega
          unfold runR at h2
          omega
      generalize hF : (refRun (lsOf v ops) ops.length) = F at *
      generalize (lsOf v ops) = ls at *
      refine Ok_loop i (by omega) (fun k R W2 => W2 = W' ∧ R 1 = ov ∧ R 2 = .pointer (some ⟨W.next, 0, none⟩) ∧ R 5 = u ∧ R 9 = .int .i64 (i : Int) ∧ R 10 = .bool (decide (F.getD i 0 = 0) || (List.range k).any fun j => commonL (ls.getD i []) (ls.getD j []) && decide (F.getD j 0 = F.getD i 0 - 1)) ∧ R 11 = .int .i64 (k : Int))
        (fun r => r.2.2 = W' ∧ r.1 = .exit 2 ∧ r.2.1 1 = ov ∧ r.2.1 2 = .pointer (some ⟨W.next, 0, none⟩) ∧ r.2.1 5 = u ∧ r.2.1 9 = .int .i64 (i : Int) ∧ r.2.1 10 = .bool true) ⟨rfl, f1, f2, f5, f9, by simp; rfl, rfl⟩ ?_ ?_ ?_
      · rintro k R W2 hk ⟨rfl, f1, f2, f5, f9, f10, f11⟩
        unfold law22_PlansRounds_L1_L2
        have e3 : ((k : Int) < (i : Int)) := by omega
        have hko : k < ops.length := by omega
        obtain ⟨bi, oi, i1, i2⟩ := OpsR.get ho1 hio
        obtain ⟨bk, ok, k1, k2⟩ := OpsR.get ho1 hko
        obtain ⟨pk, pk1, pk2⟩ := Ints.get qi (i := k) (by omega)
        rw [hget k (by omega)] at pk2
        have hcf : confE v ops[i] ops[k] = (commonL (ls.getD i []) (ls.getD k []), 0) := by
          unfold confE
          rw [if_pos (hlk _ (List.getElem_mem hio)), if_pos (hlk _ (List.getElem_mem hko)), hlg i hio, hlg k hko]
        have hsub : ∀ W', oBin Tryd.prog .sub 3 false true (.int .i64 (F.getD i 0)) (.int .i64 1) W' = some (.int .i64 (F.getD i 0 - 1), W') := fun W' => oBin_sub (by omega) (by omega)
        have hany : ((List.range (k + 1)).any fun j => commonL (ls.getD i []) (ls.getD j []) && decide (F.getD j 0 = F.getD i 0 - 1)) = (((List.range k).any fun j => commonL (ls.getD i []) (ls.getD j []) && decide (F.getD j 0 = F.getD i 0 - 1)) || (commonL (ls.getD i []) (ls.getD k []) && decide (F.getD k 0 = F.getD i 0 - 1))) := by
          rw [List.range_succ, List.any_append]; simp
        simp only [SX, f1, f2, f9, f11, e3, c4 _ hlv, i1, i2 _ hlv, k1, k2 _ hlv, planConf_ok hs' hv hG', hcf]
        rw [hany]
        generalize ((List.range k).any fun j => commonL (ls.getD i []) (ls.getD j []) && decide (F.getD j 0 = F.getD i 0 - 1)) = acc at *
        cases hc : commonL (ls.getD i []) (ls.getD k [])
        · simp only [SX, decide_true, wnt_undef, f10]
          cases hx : (decide (F.getD i 0 = 0) || acc)
          · simp only [SX, wnt_undef, f11, add1 k _ (by omega), Ok_some]
            refine .inl ⟨trivial, trivial, f1, f2, f5, f9, ?_, rfl⟩
            rw [Bool.false_and, Bool.or_false, hx]; rfl
          · simp only [SX, wnt_undef, f11, add1 k _ (by omega), Ok_some]
            refine .inl ⟨trivial, trivial, f1, f2, f5, f9, ?_, rfl⟩
            rw [Bool.false_and, Bool.or_false, hx]; rfl
        · have hne : ¬ (F.getD i 0 = F.getD k 0) := by have := ch2 k hk hc; omega
          simp only [SX, decide_true, wnt_undef, f5, f9, f11, pi1, pi2 _ (.refl _), pk1, pk2 _ (.refl _), decide_eq_false hne, f10]
          cases hx : (decide (F.getD i 0 = 0) || acc)
          · simp only [SX, wnt_undef, f5, f9, f11, pi1, pi2 _ (.refl _), pk1, pk2 _ (.refl _), hsub, add1 k _ (by omega), Ok_some]
            refine .inl ⟨trivial, trivial, f1, f2, f5, f9, ?_, rfl⟩
            rw [Bool.true_and, ← Bool.or_assoc, hx, Bool.false_or]; rfl
          · simp only [SX, wnt_undef, f11, add1 k _ (by omega), Ok_some]
            refine .inl ⟨trivial, trivial, f1, f2, f5, f9, ?_, rfl⟩
            rw [Bool.true_and, ← Bool.or_assoc, hx, Bool.true_or]; rfl
      · rintro R W2 ⟨rfl, f1, f2, f5, f9, f10, f11⟩
        unfold law22_PlansRounds_L1_L2
        have e3 : ¬ ((i : Int) < (i : Int)) := by omega
        have htr : (decide (F.getD i 0 = 0) || (List.range i).any fun j => commonL (ls.getD i []) (ls.getD j []) && decide (F.getD j 0 = F.getD i 0 - 1)) = true := by
          rcases ch3 with h | ⟨k, k1, k2, k3⟩
          · rw [decide_eq_true h, Bool.true_or]
          · rw [Bool.or_eq_true]
            right
            rw [List.any_eq_true]
            exact ⟨k, List.mem_range.2 k1, by rw [k2, Bool.true_and]; exact decide_eq_true (by omega)⟩
        rw [htr] at f10
        simp only [SX, f9, f11, e3, Ok_some]
        exact ⟨by simp, trivial, trivial, f1, f2, f5, f9, f10⟩
      · rintro ⟨z, R, W2⟩ ⟨hW, hz, f1, f2, f5, f9, f10⟩
        simp only at hW hz f1 f2 f5 f9 f10
        subst hW; subst hz
        simp only [SX, f10, Bool.not_true, f9, add1 i _ (by omega), Ok_some]
        exact .inl ⟨trivial, hl, f1, f2, f5, rfl⟩
    · rintro R W' ⟨hl, f1, f2, f5, f9⟩
      unfold law22_PlansRounds_L1
      have e1 : ¬ (((roundsE v ops).1.length : Int) < ((roundsE v ops).1.length : Int)) := by omega
      simp only [SX, f5, f9, q34.len len38, e1, Ok_some]
      exact ⟨by simp, hl, trivial⟩
    · rintro ⟨z, R, W'⟩ ⟨hl, hz⟩
      simp only at hl hz
      subst hz
      simp only [SX, shown_ok (hG1.mono (l14.trans hl)), Ok_some]
      exact ⟨trivial, hle.trans (l14.trans hl)⟩
end Go.Proofs.YtfcfglpkgcheiaaDoor
/- Operations that are handed in as a slice, opened; a slice of bytes. -/
namespace Go.Proofs.YtfcfglpkgcheiaaDoor
open Go Go.Eng Go.RowKit
set_option linter.unusedVariables false
set_option linter.unusedSimpArgs false
set_option maxRecDepth 100000
theorem tick_of {W : AW} {n : Nat} {c : List Value} (h : DR Tryd.prog W (n + 2) 25 c) : ∃ a b d e : Int, c = [.int .u32 a, .int .u32 b, .int .u64 d, .int .u64 e] := by
  obtain ⟨c1, c2, rfl, h1, h2⟩ := (h.struct Tryd.underlying25).cons
  obtain ⟨c3, c4, rfl, h3, h4⟩ := h2.cons
  obtain ⟨c5, c6, rfl, h5, h6⟩ := h4.cons
  obtain ⟨c7, c8, rfl, h7, h8⟩ := h6.cons
  obtain rfl := h8.nil
  obtain ⟨a, rfl⟩ := h1.int Tryd.underlying22
  obtain ⟨b, rfl⟩ := h3.int Tryd.underlying22
  obtain ⟨d, rfl⟩ := h5.int Tryd.underlying23
  obtain ⟨e, rfl⟩ := h7.int Tryd.underlying23
  exact ⟨a, b, d, e, rfl⟩
theorem op_of {W : AW} {n : Nat} {c : List Value} (h : DR Tryd.prog W (n + 3) 27 c) : ∃ o : OpT, c = (opArr o.k o.ow o.un o.se o.sc o.n o.to o.t1 o.t2 o.t3 o.t4 o.nw).toList := by
  obtain ⟨c1, d1, rfl, h1, g1⟩ := (h.struct Tryd.underlying27).cons
  obtain ⟨c2, d2, rfl, h2, g2⟩ := g1.cons
  obtain ⟨c3, d3, rfl, h3, g3⟩ := g2.cons
  obtain ⟨c4, d4, rfl, h4, g4⟩ := g3.cons
  obtain ⟨c5, d5, rfl, h5, g5⟩ := g4.cons
  obtain ⟨c6, d6, rfl, h6, g6⟩ := g5.cons
  obtain ⟨c7, d7, rfl, h7, g7⟩ := g6.cons
  obtain ⟨c8, d8, rfl, h8, g8⟩ := g7.cons
  obtain ⟨c9, d9, rfl, h9, g9⟩ := g8.cons
  obtain rfl := g9.nil
  obtain ⟨a1, rfl⟩ := h1.int Tryd.underlying3
  obtain ⟨a2, rfl⟩ := h2.int Tryd.underlying22
  obtain ⟨a3, rfl⟩ := h3.int Tryd.underlying2
  obtain ⟨a4, rfl⟩ := h4.int Tryd.underlying3
  obtain ⟨a5, rfl⟩ := h5.int Tryd.underlying3
  obtain ⟨a6, rfl⟩ := h6.int Tryd.underlying3
  obtain ⟨a7, rfl⟩ := h7.int Tryd.underlying22
  obtain ⟨t1, t2, t3, t4, rfl⟩ := tick_of h8
  obtain ⟨a9, rfl⟩ := h9.int Tryd.underlying2
  exact ⟨⟨a1, a2, a3, a4, a5, a6, a7, t1, t2, t3, t4, a9⟩, rfl⟩
section
variable {H : Type} {enc : TypeId × Value → H} {w : World} {σ : Inj} {W : AW} {v0 : Value} {d : DataW H} {p : List MemPlace} {r : Reach} {b0 : Nat}
theorem slice_of {t e : TypeId} (ht : Tryd.prog.underlying t = some (.slice e)) (hv : Value.okWide Tryd.prog w r b0 t v0) : ∃ a l c, v0 = .slice a l c := by
  unfold Value.okWide at hv
  rw [ht] at hv
  simp only at hv
  unfold Cell.okWide at hv
  rw [ht] at hv
  cases v0 with
  | slice a l c => exact ⟨a, l, c, rfl⟩
  | _ => simp only [Cell.ok, ht] at hv
theorem sim50 : simT Tryd.prog 5 50 = true := by kernel_rfl
theorem c27 : Tryd.prog.cellsOf 27 = 12 := by kernel_rfl
theorem openOps (ho : Opened σ W w) (hv : Value.okWide Tryd.prog w r b0 50 v0) (h : DataW.Trod enc Tryd.prog w 0 (fun _ => true) true 50 v0 d p) :
    ∃ (σ2 : Inj) (W2 : AW) (ops : List OpT) (ov : Value), Opened σ2 W2 w ∧ Sub σ σ2 ∧ Le W W2 ∧ VR σ2 ov v0 ∧ OpsR W2 ov ops := by
  obtain ⟨a, l, c, rfl⟩ := slice_of Tryd.underlying50 hv
  obtain ⟨m, hm⟩ := h
  obtain ⟨σ2, W2, cs2, o2, s2, l2, r2, a2⟩ := opens_trod sim50 hm σ W ho
  obtain ⟨ov, ops, rfl, hr, _⟩ := a2.row Tryd.underlying50 (at_ := opAt) (fun c _ hc => by
    obtain ⟨o, rfl⟩ := op_of (n := 1) hc
    refine ⟨o, fun pre post => ?_⟩
    unfold opAt
    rw [List.drop_append_of_le_length (Nat.le_refl _), List.drop_length, List.nil_append]
    rfl)
  rw [c27] at hr
  have hvr : VR σ2 ov (.slice a l c) := r2.2 0 _ _ rfl rfl
  exact ⟨σ2, W2, ops, ov, o2, s2, l2, hvr, hr⟩
end
theorem secs_up {W W2 : AW} {sv : Value} {l : List Sec} (h : SecsC W sv l) (hl : Le W W2) : SecsC W2 sv l := h.mono hl
theorem le_up {A B C : AW} (h : Le A B) (h2 : Le B C) : Le A C := h.trans h2
end Go.Proofs.YtfcfglpkgcheiaaDoor
