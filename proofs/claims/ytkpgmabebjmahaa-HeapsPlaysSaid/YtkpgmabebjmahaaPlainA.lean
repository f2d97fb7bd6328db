/- Contracts of functions, and their laws. -/
import Derived.Test.YtkpgmabebjmahaaSDec
import Derived.Test.YtkpgmabebjmahaaOpnA
import Derived.Test.YtkpgmabebjmahaaHpA
import Derived.Test.YtkpgmabebjmahaaHpB
import Derived.Test.YtkpgmabebjmahaaOpzA
import Derived.KernelRfl
/- The pile of a queue: its blocks, and what its methods do to them. -/
namespace Go.Proofs.Ytkpgmabebjmahaa
open Go Go.Eng Go.Hp
set_option linter.unusedVariables false
set_option linter.unusedSimpArgs false
set_option linter.unusedSectionVars false
set_option maxRecDepth 100000
theorem ldR {b o : Nat} {cs : List Value} {x : Value} {W : AW} (h : rwCells W b = some cs) (hv : cs[o]? = some x) : ldC (.pointer (some ⟨b, o, none⟩)) W = some (x, W) := ldC_ok (rwCells_cellsAt h) hv
theorem rwOf {W : AW} {b : Nat} {cs : List Value} (h : W.get b = some (.cells cs)) : rwCells W b = some cs := by unfold rwCells; rw [h]
/-- one cell is stored -/
theorem stA {W : AW} {b o : Nat} {cs : List Value} {v : Value} (h : W.get b = some (.cells cs)) (ho : o < cs.length) (hv : v.cells = #[v]) (h1 : Eng.one v = true) : stV 1 (.pointer (some ⟨b, o, none⟩)) v W = some (undef, W.put b (.cells (cs.set o v))) := by
  rw [stV_one hv h1, rwOf h, Option.bind_some, if_pos ho]
theorem lenE : ((#[104] : Array TypeId)[0]?).bind Try.prog.underlying = some (.slice 127) := by kernel_rfl
structure En where
  b : Nat
  h : Int
  v : Int
abbrev enP (e : En) : Value := .pointer (some ⟨e.b, 0, none⟩)
abbrev enC (e : En) (i : Nat) : List Value := [.int .i64 e.h, .int .i64 e.v, .int .i64 (i : Int)]
def rowE (n : Nat) (f : Nat → En) : List Value := (List.range n).map fun i => enP (f i)
theorem rowE_len (n : Nat) (f : Nat → En) : (rowE n f).length = n := by simp [rowE]
theorem rowE_get {n : Nat} (f : Nat → En) {i : Nat} (h : i < n) : (rowE n f)[i]? = some (enP (f i)) := by
  unfold rowE
  rw [List.getElem?_map, List.getElem?_range h]; rfl
theorem rowE_succ (n : Nat) (f : Nat → En) : rowE (n + 1) f = rowE n f ++ [enP (f n)] := by
  unfold rowE
  rw [List.range_succ, List.map_append]; rfl
theorem rowE_congr {n : Nat} {f g : Nat → En} (h : ∀ i, i < n → f i = g i) : rowE n f = rowE n g := by
  unfold rowE
  exact List.map_congr_left fun i hi => by rw [h i (List.mem_range.1 hi)]
theorem rowE_set {n : Nat} (f : Nat → En) {i k : Nat} (hi : i < n) (hk : k < n) (j : List Value) : ((rowE n f ++ j).set i (enP (f k))).set k (enP (f i)) = rowE n (swp f i k) ++ j := by
  rw [List.set_append_left _ _ (by rw [rowE_len]; exact hi), List.set_append_left _ _ (by rw [List.length_set, rowE_len]; exact hk)]
  congr 1
  apply List.ext_getElem?
  intro m
  by_cases hm : m < n
  · rw [rowE_get _ hm, List.getElem?_set, List.getElem?_set]
    simp only [List.length_set, rowE_len]
    by_cases h1 : k = m
    · subst h1
      rw [if_pos rfl, if_pos hk, swp_r]
    · rw [if_neg h1]
      by_cases h2 : i = m
      · subst h2
        rw [if_pos rfl, if_pos hi, swp_l]
      · rw [if_neg h2, rowE_get _ hm, swp_ne _ (fun e => h2 e.symm) (fun e => h1 e.symm)]
  · rw [List.getElem?_eq_none (by simp [rowE_len]; omega), List.getElem?_eq_none (by simp [rowE_len]; omega)]
/-- the slice of a pile: nothing yet, or a block that is its own -/
inductive SlAt (W : AW) (n : Nat) (f : Nat → En) : Value → Option Nat → Prop
  | nil : n = 0 → SlAt W n f (.slice none 0 0) none
  | row (bl : Nat) (junk : List Value) : W.get bl = some (.cells (rowE n f ++ junk)) → bl < W.next → (∀ i, i < n → (f i).b ≠ bl) → SlAt W n f (.slice (some ⟨bl, 0, none⟩) n (BIG + 1)) (some bl)
structure Pile (W : AW) (n : Nat) (f : Nat → En) (lv : Value) (bl : Option Nat) : Prop where
  sl : SlAt W n f lv bl
  en : ∀ i, i < n → W.get (f i).b = some (.cells (enC (f i) i)) ∧ (f i).b < W.next
  inj : ∀ i j, i < n → j < n → (f i).b = (f j).b → i = j
theorem Pile.len {W : AW} {n : Nat} {f : Nat → En} {lv : Value} {bl : Option Nat} (h : Pile W n f lv bl) (W' : AW) : oBuiltin Try.prog .len #[104] 3 #[false] [lv] W' = some (.int .i64 (n : Int), W') := by
  cases h.sl with
  | nil h0 => subst h0; exact len_slice lenE _ _ _
  | row bl junk => exact len_slice lenE _ _ _
theorem Pile.get {W : AW} {n : Nat} {f : Nat → En} {lv : Value} {bl : Option Nat} (h : Pile W n f lv bl) {i : Nat} (hi : i < n) : ∃ b, bl = some b ∧ (∀ W' k, ixS 1 lv (.int k (i : Int)) W' = some (.pointer (some ⟨b, i, none⟩), W')) ∧ ldC (.pointer (some ⟨b, i, none⟩)) W = some (enP (f i), W) := by
  cases h.sl with
  | nil h0 => omega
  | row b junk h1 h2 h3 =>
    refine ⟨b, rfl, fun W' k => by rw [ixS_ok hi, Nat.zero_add, Nat.mul_one], ldR (rwOf h1) ?_⟩
    rw [List.getElem?_append_left (by rw [rowE_len]; exact hi), rowE_get f hi]
theorem Pile.cell {W : AW} {n : Nat} {f : Nat → En} {lv : Value} {bl : Option Nat} (h : Pile W n f lv bl) {i : Nat} (hi : i < n) : ldC (.pointer (some ⟨(f i).b, 0, none⟩)) W = some (.int .i64 (f i).h, W) ∧ ldC (.pointer (some ⟨(f i).b, 1, none⟩)) W = some (.int .i64 (f i).v, W) :=
  ⟨ldR (rwOf (h.en i hi).1) rfl, ldR (rwOf (h.en i hi).1) rfl⟩
/-- what a pile's methods may turn -/
def Own (n : Nat) (f : Nat → En) (bl : Option Nat) (b : Nat) : Prop := bl = some b ∨ ∃ i, i < n ∧ (f i).b = b
structure Fr (W W' : AW) (S : Nat → Prop) : Prop where
  next : W'.next = W.next
  get : ∀ b, ¬ S b → W'.get b = W.get b
theorem Fr.refl (W : AW) (S : Nat → Prop) : Fr W W S := ⟨rfl, fun _ _ => rfl⟩
theorem Fr.trans {A B C : AW} {S : Nat → Prop} (h : Fr A B S) (k : Fr B C S) : Fr A C S := ⟨k.next.trans h.next, fun b hb => (k.get b hb).trans (h.get b hb)⟩
theorem Fr.mono {A B : AW} {S T : Nat → Prop} (h : Fr A B S) (hst : ∀ b, S b → T b) : Fr A B T := ⟨h.next, fun b hb => h.get b (fun hs => hb (hst b hs))⟩
/-- the queue's block, with its pile -/
structure QP (W : AW) (q : Nat) (lv less c2 c3 : Value) (n : Nat) (f : Nat → En) (bl : Option Nat) : Prop where
  qc : W.get q = some (.cells [lv, less, c2, c3])
  lt : q < W.next
  pile : Pile W n f lv bl
  bq : bl ≠ some q
  eq : ∀ i, i < n → (f i).b ≠ q
section
variable {W : AW} {q : Nat} {lv less c2 c3 : Value} {n : Nat} {f : Nat → En} {bl : Option Nat}
theorem QP.l0 (h : QP W q lv less c2 c3 n f bl) : ldC (.pointer (some ⟨q, 0, none⟩)) W = some (lv, W) := ldR (rwOf h.qc) rfl
theorem QP.l1 (h : QP W q lv less c2 c3 n f bl) : ldC (.pointer (some ⟨q, 1, none⟩)) W = some (less, W) := ldR (rwOf h.qc) rfl
theorem QP.l2 (h : QP W q lv less c2 c3 n f bl) : ldC (.pointer (some ⟨q, 2, none⟩)) W = some (c2, W) := ldR (rwOf h.qc) rfl
theorem QP.l3 (h : QP W q lv less c2 c3 n f bl) : ldC (.pointer (some ⟨q, 3, none⟩)) W = some (c3, W) := ldR (rwOf h.qc) rfl
theorem pLen_ok (h : QP W q lv less c2 c3 n f bl) : omS (.func (.func 190) #[] #[]) [.pointer (some ⟨q, 0, none⟩)] W = some (.int .i64 (n : Int), W) := by
  refine om_drop rfl ?_ heaps_pileint_Len_om
  unfold heaps_pileint_Len
  simp only [SX, oNilCheck_ptr, Nat.zero_add, h.l0, h.pile.len, Ok_some]
  exact ⟨trivial, .refl _⟩
/-- the order of the entries -/
def bef (ls : Int → Int → Bool) (a b : En) : Bool := ls a.v b.v || (!ls b.v a.v && decide (a.h < b.h))
/-- a function's value that is an order -/
def IsLess (less : Value) (ls : Int → Int → Bool) : Prop := ∀ a b W, omS less [.int .i64 a, .int .i64 b] W = some (.bool (ls a b), W)
theorem pBefore_ok {ls : Int → Int → Bool} (hl : IsLess less ls) (h : QP W q lv less c2 c3 n f bl) {i k : Nat} (hi : i < n) (hk : k < n) : omS (.func (.func 103) #[] #[]) [.pointer (some ⟨q, 0, none⟩), enP (f i), enP (f k)] W = some (.bool (bef ls (f i) (f k)), W) := by
  refine om_drop rfl ?_ heaps_pileint_before_om
  unfold heaps_pileint_before bef
  obtain ⟨a1, a2⟩ := h.pile.cell hi
  obtain ⟨b1, b2⟩ := h.pile.cell hk
  simp only [SX, oNilCheck_ptr, Nat.zero_add, h.l1, a2, b2, hl (f i).v (f k).v]
  cases ls (f i).v (f k).v
  case true =>
    simp only [SX, Ok_some]
    exact ⟨by simp, .refl _⟩
  simp only [SX, oNilCheck_ptr, Nat.zero_add, h.l1, a2, b2, hl (f k).v (f i).v]
  cases ls (f k).v (f i).v
  case true =>
    simp only [SX, Ok_some]
    exact ⟨by simp, .refl _⟩
  simp only [SX, oNilCheck_ptr, Nat.zero_add, a1, b1, Ok_some]
  exact ⟨by simp, .refl _⟩
theorem pLess_ok {ls : Int → Int → Bool} (hl : IsLess less ls) (h : QP W q lv less c2 c3 n f bl) {i k : Nat} (hi : i < n) (hk : k < n) : omS (.func (.func 73) #[] #[]) [.pointer (some ⟨q, 0, none⟩), .int .i64 (i : Int), .int .i64 (k : Int)] W = some (.bool (bef ls (f i) (f k)), W) := by
  refine om_drop rfl ?_ heaps_pileint_Less_om
  unfold heaps_pileint_Less
  obtain ⟨b, -, a1, a2⟩ := h.pile.get hi
  obtain ⟨b', -, b1, b2⟩ := h.pile.get hk
  simp only [SX, oNilCheck_ptr, Nat.zero_add, h.l0, a1, a2, b1, b2, pBefore_ok hl h hi hk, Ok_some]
  exact ⟨trivial, .refl _⟩
theorem pSwap_ok (h : QP W q lv less c2 c3 n f bl) {i k : Nat} (hi : i < n) (hk : k < n) : ∃ W', omS (.func (.func 193) #[] #[]) [.pointer (some ⟨q, 0, none⟩), .int .i64 (i : Int), .int .i64 (k : Int)] W = some (.tuple #[], W') ∧ QP W' q lv less c2 c3 n (swp f i k) bl ∧ Fr W W' (Own n f bl) := by
  have main : Ok (heaps_pileint_Swap omS (.pointer (some ⟨q, 0, none⟩)) (.int .i64 (i : Int)) (.int .i64 (k : Int)) W) fun r => r.1 = .tuple #[] ∧ QP r.2 q lv less c2 c3 n (swp f i k) bl ∧ Fr W r.2 (Own n f bl) := by
    unfold heaps_pileint_Swap
    obtain ⟨hq, hlt, ⟨hsl, hen, hinj⟩, hbq, heq⟩ := h
    cases hsl with
    | nil h0 => omega
    | row b junk h1 h2 h3 =>
      have ix : ∀ {j : Nat} (hj : j < n) (W' : AW) (kk : IntKind), ixS 1 (.slice (some ⟨b, 0, none⟩) n (BIG + 1)) (.int kk (j : Int)) W' = some (.pointer (some ⟨b, j, none⟩), W') := fun hj W' kk => by rw [ixS_ok hj, Nat.zero_add, Nat.mul_one]
      have hbq' : b ≠ q := fun e => hbq (by rw [e])
      have hl0 : ∀ {W' : AW}, W'.get q = W.get q → ldC (.pointer (some ⟨q, 0, none⟩)) W' = some (.slice (some ⟨b, 0, none⟩) n (BIG + 1), W') := fun e => ldR (rwOf (e.trans hq)) rfl
      have g1 : ∀ {j : Nat}, j < n → (rowE n f ++ junk)[j]? = some (enP (f j)) := fun hj => by rw [List.getElem?_append_left (by rw [rowE_len]; exact hj), rowE_get f hj]
      have hlen : ∀ {j : Nat}, j < n → j < (rowE n f ++ junk).length := fun hj => by rw [List.length_append, rowE_len]; omega
      have s1 := stA (W := W) (v := enP (f k)) h1 (hlen hi) rfl rfl
      have hA : (W.put b (.cells ((rowE n f ++ junk).set i (enP (f k))))).get b = some (.cells ((rowE n f ++ junk).set i (enP (f k)))) := AW.get_put _ _ _
      have s2 := stA (v := enP (f i)) hA (by rw [List.length_set]; exact hlen hk) rfl rfl
      rw [rowE_set f hi hk] at s2
      have hB : ∀ X : AW, (X.put b (.cells (rowE n (swp f i k) ++ junk))).get b = some (.cells (rowE n (swp f i k) ++ junk)) := fun X => AW.get_put _ _ _
      simp only [SX, oNilCheck_ptr, Nat.zero_add, hl0 rfl, ix hi, ix hk, ldR (rwOf h1) (g1 hi), ldR (rwOf h1) (g1 hk), s1, s2]
      generalize hW2 : (W.put b (.cells ((rowE n f ++ junk).set i (enP (f k))))).put b (.cells (rowE n (swp f i k) ++ junk)) = W2 at *
      have e2 : ∀ c, c ≠ b → W2.get c = W.get c := fun c hc => by rw [← hW2, AW.get_put_ne _ _ (Ne.symm hc), AW.get_put_ne _ _ (Ne.symm hc)]
      have n2 : W2.next = W.next := by rw [← hW2, AW.put_next, AW.put_next]
      have b2 : W2.get b = some (.cells (rowE n (swp f i k) ++ junk)) := by rw [← hW2]; exact AW.get_put _ _ _
      have g2 : ∀ {j : Nat}, j < n → (rowE n (swp f i k) ++ junk)[j]? = some (enP (swp f i k j)) := fun hj => by rw [List.getElem?_append_left (by rw [rowE_len]; exact hj), rowE_get _ hj]
      have ei := hen i hi
      have ek := hen k hk
      have c1 : W2.get (f k).b = some (.cells (enC (f k) k)) := (e2 _ (h3 k hk)).trans ek.1
      have s3 := stA (v := .int .i64 (i : Int)) (o := 2) c1 (by simp) rfl rfl
      have s3' : ((enC (f k) k).set 2 (.int .i64 (i : Int))) = enC (f k) i := rfl
      rw [s3'] at s3
      simp only [SX, oNilCheck_ptr, Nat.zero_add, hl0 (e2 _ (Ne.symm hbq')), ix hi, ix hk, ldR (rwOf b2) (g2 hi), ldR (rwOf b2) (g2 hk), swp_l, swp_r, s3]
      generalize hW3 : W2.put (f k).b (.cells (enC (f k) i)) = W3 at *
      have c2' : ∃ p, W3.get (f i).b = some (.cells (enC (f i) p)) ∧ (i = k → p = i) := by
        by_cases hik : i = k
        · subst hik
          exact ⟨i, by rw [← hW3]; exact AW.get_put _ _ _, fun _ => rfl⟩
        · refine ⟨i, ?_, fun e => absurd e hik⟩
          rw [← hW3, AW.get_put_ne _ _ (fun e => hik (hinj k i hk hi e).symm), e2 _ (h3 i hi)]
          exact ei.1
      obtain ⟨p, c2', -⟩ := c2'
      have s4 := stA (v := .int .i64 (k : Int)) (o := 2) c2' (by simp) rfl rfl
      have s4' : ((enC (f i) p).set 2 (.int .i64 (k : Int))) = enC (f i) k := rfl
      rw [s4'] at s4
      simp only [SX, oNilCheck_ptr, Nat.zero_add, s4, Ok_some]
      have e4 : ∀ c, c ≠ b → c ≠ (f k).b → c ≠ (f i).b → (W3.put (f i).b (.cells (enC (f i) k))).get c = W.get c := fun c x1 x2 x3 => by rw [AW.get_put_ne _ _ (Ne.symm x3), ← hW3, AW.get_put_ne _ _ (Ne.symm x2), e2 _ x1]
      have n4 : (W3.put (f i).b (.cells (enC (f i) k))).next = W.next := by rw [AW.put_next, ← hW3, AW.put_next, n2]
      have b4 : (W3.put (f i).b (.cells (enC (f i) k))).get b = some (.cells (rowE n (swp f i k) ++ junk)) := by rw [AW.get_put_ne _ _ (h3 i hi), ← hW3, AW.get_put_ne _ _ (h3 k hk)]; exact b2
      have hb : ∀ j, (swp f i k j).b = (f j).b ∨ (j = i ∧ (swp f i k j).b = (f k).b) ∨ (j = k ∧ (swp f i k j).b = (f i).b) := fun j => by
        by_cases x1 : j = i
        · subst x1; rw [swp_l]; exact .inr (.inl ⟨rfl, rfl⟩)
        · by_cases x2 : j = k
          · subst x2; rw [swp_r]; exact .inr (.inr ⟨rfl, rfl⟩)
          · rw [swp_ne _ x1 x2]; exact .inl rfl
      have hcomp : ∀ j, swp f i k j = f (swN i k j) := fun j => by rw [swp_comp]
      refine ⟨trivial, ⟨?_, by rw [n4]; exact hlt, ⟨.row b junk b4 (by rw [n4]; exact h2) (fun j hj => by rw [hcomp]; exact h3 _ (swN_lt hi hk hj)), fun j hj => ?_, fun j m hj hm e => ?_⟩, hbq, fun j hj => by rw [hcomp]; exact heq _ (swN_lt hi hk hj)⟩, n4, fun c hc => ?_⟩
      · rw [e4 q (Ne.symm hbq') (Ne.symm (heq k hk)) (Ne.symm (heq i hi))]; exact hq
      · rw [n4, hcomp]
        refine ⟨?_, (hen _ (swN_lt hi hk hj)).2⟩
        by_cases x1 : j = i
        · subst x1
          have : swN j k j = k := swp_l id j k
          rw [this]
          by_cases x2 : j = k
          · subst x2; exact AW.get_put _ _ _
          · rw [AW.get_put_ne _ _ (fun e => x2 (hinj j k hi hk e)), ← hW3]; exact AW.get_put _ _ _
        · by_cases x2 : j = k
          · subst x2
            have : swN i j j = i := swp_r id i j
            rw [this]
            exact AW.get_put _ _ _
          · have : swN i k j = j := swp_ne id x1 x2
            rw [this, e4 _ (h3 j hj) (fun e => x2 (hinj j k hj hk e)) (fun e => x1 (hinj j i hj hi e))]
            exact (hen j hj).1
      · rw [hcomp, hcomp] at e
        have := hinj _ _ (swN_lt hi hk hj) (swN_lt hi hk hm) e
        have := congrArg (swN i k) this
        rwa [swN_swN, swN_swN] at this
      · exact e4 c (fun e => hc (.inl (by rw [e]))) (fun e => hc (.inr ⟨k, hk, e.symm⟩)) (fun e => hc (.inr ⟨i, hi, e.symm⟩))
  obtain ⟨⟨r, W'⟩, h1, h2, h3⟩ := main
  simp only at h2 h3
  subst h2
  exact ⟨W', by rw [heaps_pileint_Swap_om h1, gc_not rfl], h3⟩
end
end Go.Proofs.Ytkpgmabebjmahaa
/- What is handed in, opened. -/
namespace Go.Proofs.Ytkpgmabebjmahaa
open Go Go.Eng Go.RowKit
set_option linter.unusedVariables false
set_option linter.unusedSimpArgs false
set_option maxRecDepth 100000
abbrev globW : List (Nat × List Value) := [(0, [])]
section
variable {H : Type} {enc : TypeId × Value → H} {w : World} {σ : Inj} {W : AW} {v0 : Value} {d : DataW H} {p : List MemPlace} {r : Reach} {b0 : Nat}
theorem slice_of {t e : TypeId} (ht : Try.prog.underlying t = some (.slice e)) (hv : Value.okWide Try.prog w r b0 t v0) : ∃ a l c, v0 = .slice a l c := by
  unfold Value.okWide at hv
  rw [ht] at hv
  simp only at hv
  unfold Cell.okWide at hv
  rw [ht] at hv
  cases v0 with
  | slice a l c => exact ⟨a, l, c, rfl⟩
  | _ => simp only [Cell.ok, ht] at hv
end
theorem row0 : (match (begin Try.prog (fun _ _ => 0) default).world.heap[0]? with | some (.cells _ _ _) => true | _ => false) = true := by kernel_rfl
theorem heap0 {w : World} (h : w.ShapedOpen Try.prog) : LaidG globW w.heap := by
  intro x hx
  obtain rfl : x = (0, []) := by simpa [globW] using hx
  have hr := row0
  split at hr
  case h_2 => cases hr
  rename_i c t fr hz
  have hlt : 0 < (begin Try.prog (fun _ _ => 0) default).world.heap.size := (Array.getElem?_eq_some_iff.1 hz).1
  obtain ⟨o, o0, h1, h2, h3⟩ := h.2 0 (by decide +kernel) hlt
  obtain rfl := Option.some.inj (hz.symm.trans h2)
  have ho : o = .cells c t fr := by
    split at h3
    · cases o <;> exact h3
    · exact h3
  subst ho
  exact ⟨c, t, fr, h1, fun i v hv => by simp at hv⟩
theorem openG {w : World} (h : w.ShapedOpen Try.prog) : Opened (σG globW) (WG globW 5) w := ⟨rel_G rfl (heap0 h), allRo_G, 0, _, rfl⟩
theorem kidsT : Kids Try.prog (· < Try.prog.types.size) := kids_rows (by kernel_rfl) (by kernel_rfl)
theorem fullT : ∀ t e, t < Try.prog.types.size → Try.prog.underlying t = some (.slice e) → 0 < Try.prog.cellsOf e := slices_full_of Try.prog (by kernel_rfl)
theorem own : ownKnob Try.prog.godebug = none := by kernel_rfl
/-- what is opened is called -/
theorem open_calls (hok : CalleeOK Try.prog PlanTab.ng omS) {w : World} {σ : Inj} {W : AW} (ho : Opened σ W w) {i : Nat} {args args' : List Value} (hr : LR σ args args') (h : omS (.func (.func i) #[] #[]) args W = some (.bool true, W)) :
    Calls Try.prog i args'.toArray w fun e w' => e = .returned (.bool true) ∧ Quiet w w' := by
  have hG : Glob σ [] := fun g hg => by cases hg
  exact om_calls hok ho.rel hG ho.ro hr rfl h
end Go.Proofs.Ytkpgmabebjmahaa
/- What is handed in, opened: pairs of numbers, bytes. -/
namespace Go.Proofs.Ytkpgmabebjmahaa
open Go Go.Eng Go.RowKit
set_option linter.unusedVariables false
set_option linter.unusedSimpArgs false
set_option maxRecDepth 100000
section
variable {H : Type} {enc : TypeId × Value → H} {w : World} {σ : Inj} {W : AW} {v0 : Value} {d : DataW H} {p : List MemPlace} {r : Reach} {b0 : Nat}
end
theorem liftV {σ σ' : Inj} {v v' : Value} (s : Sub σ σ') (h : VR σ v v') : VR σ' v v' := h.mono s
end Go.Proofs.Ytkpgmabebjmahaa
/- The pile of a queue: push and pop. -/
namespace Go.Proofs.Ytkpgmabebjmahaa
open Go Go.Eng Go.Hp
set_option linter.unusedVariables false
set_option linter.unusedSimpArgs false
set_option linter.unusedSectionVars false
set_option maxRecDepth 100000
theorem ap104 : appOk Try.prog #[104, 104] 1 8 = true := by kernel_rfl
theorem bs104 (v : Option Addr) (W : AW) : oBuildSlice Try.prog 104 1 [(0, .pointer v)] W = some (.slice (some ⟨W.next, 0, none⟩) 1 1, W.add (.cells [.pointer v])) := Eq.trans (by kernel_rfl) rfl
theorem as127 (v : Value) (W : AW) : oAssert Try.prog (.iface 127 v) 127 false W = some (v, W) := Eq.trans (by kernel_rfl) rfl
theorem ki127 (v : Value) (W : AW) : oMkIface Try.prog 127 v W = some (.iface 127 v, W) := Eq.trans (by kernel_rfl) rfl
theorem ki103 (v : Value) (W : AW) : oMkIface Try.prog 103 v W = some (.iface 103 v, W) := Eq.trans (by kernel_rfl) rfl
/-- one more at the end -/
def snoc (n : Nat) (f : Nat → En) (e : En) : Nat → En := fun i => if i = n then e else f i
theorem snoc_lt {n i : Nat} {f : Nat → En} {e : En} (h : i < n) : snoc n f e i = f i := if_neg (by omega)
theorem snoc_n (n : Nat) (f : Nat → En) (e : En) : snoc n f e n = e := if_pos rfl
theorem all_snoc (n : Nat) (f : Nat → En) (e : En) : all (n + 1) (snoc n f e) = all n f ++ [e] := by
  rw [all_succ, snoc_n]
  congr 1
  unfold all
  exact List.map_congr_left fun i hi => snoc_lt (List.mem_range.1 hi)
theorem rowE_snoc (n : Nat) (f : Nat → En) (e : En) : rowE (n + 1) (snoc n f e) = rowE n f ++ [enP e] := by
  rw [rowE_succ, snoc_n, rowE_congr (g := f) fun i hi => snoc_lt hi]
section
variable {W : AW} {q : Nat} {lv less c2 c3 : Value} {n : Nat} {f : Nat → En} {bl : Option Nat}
theorem pApp {W : AW} {lv : Value} {bl : Option Nat} (h : SlAt W n f lv bl) (hn : n ≤ 10000) {b c : Nat} {x : Value} (hc : cellsAt W b = some [x]) (hx : Eng.one x = true) : ∃ W3, aAppend Try.prog W #[104, 104] lv (.slice (some ⟨b, 0, none⟩) 1 c) = some (.slice (some ⟨W.next, 0, none⟩) (n + 1) (BIG + 1), W3) ∧ W3.next = W.next + 1 ∧ W3.get W.next = some (.cells (rowE n f ++ [x])) ∧ ∀ b, b < W.next → bl ≠ some b → W3.get b = W.get b := by
  cases h with
  | nil h0 =>
    subst h0
    exact ⟨_, app_nil (new := [x]) ap104 hc rfl rfl (by omega) (by simp [hx]) (by omega) (by omega), rfl, AW.get_add _ _, fun d hd _ => AW.get_add_ne _ _ (by omega)⟩
  | row B junk h1 h2 h3 =>
    refine ⟨_, app_on2 (new := [x]) (n := 1) (m := n) ap104 hc rfl rfl (by omega) (by simp [hx]) h1 (by rw [List.length_append, rowE_len]; omega) (by omega) (by omega), rfl, ?_, fun d hd hne => ?_⟩
    · have := AW.get_add (W.kill B) (.cells ((rowE n f ++ junk).take (n * 1) ++ [x]))
      rw [AW.kill_next] at this
      rw [this, Nat.mul_one, List.take_append_of_le_length (by rw [rowE_len]; omega), List.take_of_length_le (by rw [rowE_len]; omega)]
    · rw [AW.get_add_ne _ _ (by rw [AW.kill_next]; omega), AW.get_kill_ne _ (fun e => hne (by rw [e]))]
theorem SlAt.keep {W W' : AW} {lv : Value} {bl : Option Nat} (h : SlAt W n f lv bl) (hn : W.next ≤ W'.next) (hg : ∀ b, bl = some b → W'.get b = W.get b) : SlAt W' n f lv bl := by
  cases h with
  | nil h0 => exact .nil h0
  | row b junk h1 h2 h3 => exact .row b junk ((hg b rfl).trans h1) (by omega) h3
theorem SlAt.lt {W : AW} {lv : Value} {bl : Option Nat} (h : SlAt W n f lv bl) {b : Nat} (hb : bl = some b) : b < W.next := by
  cases h with
  | nil h0 => cases hb
  | row b junk h1 h2 h3 => cases hb; exact h2
theorem SlAt.ne {W : AW} {lv : Value} {bl : Option Nat} (h : SlAt W n f lv bl) {i : Nat} (hi : i < n) : bl ≠ some (f i).b := by
  cases h with
  | nil h0 => omega
  | row b junk h1 h2 h3 => exact fun e => h3 i hi (by injection e with e; exact e.symm)
theorem pPush_ok (h : QP W q lv less c2 c3 n f bl) (hn : n ≤ 10000) {e : En} {p : Value} (he : W.get e.b = some (.cells [.int .i64 e.h, .int .i64 e.v, p])) (hlt : e.b < W.next) (hq : e.b ≠ q) (hbl : bl ≠ some e.b) (hne : ∀ i, i < n → (f i).b ≠ e.b) :
    ∃ W' lv' b', omS (.func (.func 192) #[] #[]) [.pointer (some ⟨q, 0, none⟩), .iface 127 (enP e)] W = some (.tuple #[], W') ∧ QP W' q lv' less c2 c3 (n + 1) (snoc n f e) (some b') ∧ W.next ≤ b' ∧ W.next ≤ W'.next ∧ ∀ b, b < W.next → b ≠ q → b ≠ e.b → bl ≠ some b → W'.get b = W.get b := by
  have main : Ok (heaps_pileint_Push omS (.pointer (some ⟨q, 0, none⟩)) (.iface 127 (enP e)) W) fun r => r.1 = .tuple #[] ∧ ∃ lv' b', QP r.2 q lv' less c2 c3 (n + 1) (snoc n f e) (some b') ∧ W.next ≤ b' ∧ W.next ≤ r.2.next ∧ ∀ b, b < W.next → b ≠ q → b ≠ e.b → bl ≠ some b → r.2.get b = W.get b := by
    unfold heaps_pileint_Push
    have s1 := stA (v := .int .i64 (n : Int)) (o := 2) he (by simp) rfl rfl
    have s1' : ([.int .i64 e.h, .int .i64 e.v, p] : List Value).set 2 (.int .i64 (n : Int)) = enC e n := rfl
    rw [s1'] at s1
    simp only [SX, as127, oNilCheck_ptr, Nat.zero_add, h.l0, h.pile.len, s1]
    obtain ⟨hqc, hql, ⟨hsl, hen, hinj⟩, hbq, heq⟩ := h
    generalize hW1 : W.put e.b (.cells (enC e n)) = W1 at *
    have g1 : ∀ b, b ≠ e.b → W1.get b = W.get b := fun b hb => by rw [← hW1]; exact AW.get_put_ne _ _ (Ne.symm hb)
    have n1 : W1.next = W.next := by rw [← hW1, AW.put_next]
    have ge1 : W1.get e.b = some (.cells (enC e n)) := by rw [← hW1]; exact AW.get_put _ _ _
    have q1 : W1.get q = some (.cells [lv, less, c2, c3]) := (g1 q (Ne.symm hq)).trans hqc
    have g2 : ∀ b, b < W.next → (W1.add (.cells [enP e])).get b = W1.get b := fun b hb => AW.get_add_ne _ _ (by omega)
    have hs2 : SlAt (W1.add (.cells [enP e])) n f lv bl := hsl.keep (by rw [AW.add_next, n1]; omega) fun b hb => by
      rw [g2 b (hsl.lt hb), g1 b (fun x => hbl (by rw [hb, x]))]
    obtain ⟨W3, a1, a2, a3, a4⟩ := pApp (b := W1.next) (c := 1) hs2 hn cellsAt_new (x := enP e) rfl
    rw [AW.add_next, n1] at a2 a3 a4
    simp only [SX, oNilCheck_ptr, Nat.zero_add, ldR (o := 0) (rwOf q1) rfl, bs104, a1]
    rw [AW.add_next, n1]
    have g3 : ∀ b, b < W.next → bl ≠ some b → W3.get b = W1.get b := fun b hb hne => by rw [a4 b (by omega) hne, g2 b hb]
    have q3 := (g3 q hql hbq).trans q1
    have s3 := stA (v := .slice (some ⟨W.next + 1, 0, none⟩) (n + 1) (BIG + 1)) (o := 0) q3 (by simp) rfl rfl
    simp only [SX, oNilCheck_ptr, Nat.zero_add, s3, Ok_some]
    rw [show ([lv, less, c2, c3] : List Value).set 0 (.slice (some ⟨W.next + 1, 0, none⟩) (n + 1) (BIG + 1)) = [.slice (some ⟨W.next + 1, 0, none⟩) (n + 1) (BIG + 1), less, c2, c3] from rfl] at *
    generalize hW4 : W3.put q (.cells [.slice (some ⟨W.next + 1, 0, none⟩) (n + 1) (BIG + 1), less, c2, c3]) = W4 at *
    have g4 : ∀ b, b ≠ q → W4.get b = W3.get b := fun b hb => by rw [← hW4]; exact AW.get_put_ne _ _ (Ne.symm hb)
    have n4 : W4.next = W.next + 1 + 1 := by rw [← hW4, AW.put_next, a2]
    have hall : ∀ i, i < n + 1 → W4.get (snoc n f e i).b = some (.cells (enC (snoc n f e i) i)) ∧ (snoc n f e i).b < W.next ∧ (snoc n f e i).b ≠ q := fun i hi => by
      by_cases hin : i < n
      · rw [snoc_lt hin]
        refine ⟨?_, (hen i hin).2, heq i hin⟩
        rw [g4 _ (heq i hin), g3 _ (hen i hin).2 (hsl.ne hin), g1 _ (hne i hin)]
        exact (hen i hin).1
      · have : i = n := by omega
        subst this
        rw [snoc_n]
        exact ⟨by rw [g4 _ hq, g3 _ hlt hbl]; exact ge1, hlt, hq⟩
    refine ⟨trivial, _, W.next + 1, ⟨by rw [← hW4]; exact AW.get_put _ _ _, by omega, ⟨.row (W.next + 1) [] ?_ (by omega) (fun i hi => by have := (hall i hi).2.1; omega), fun i hi => ⟨(hall i hi).1, by have := (hall i hi).2.1; omega⟩, fun i j hi hj hij => ?_⟩, fun x => by injection x with x; omega, fun i hi => (hall i hi).2.2⟩, by omega, by omega, fun b hb hbq' hbe hbb => by rw [g4 _ hbq', g3 _ hb hbb, g1 _ hbe]⟩
    · rw [g4 _ (by omega), a3, rowE_snoc, List.append_nil]
    · by_cases hin : i < n
      · by_cases hjn : j < n
        · rw [snoc_lt hin, snoc_lt hjn] at hij
          exact hinj i j hin hjn hij
        · have : j = n := by omega
          subst this
          rw [snoc_lt hin, snoc_n] at hij
          exact absurd hij (hne i hin)
      · have : i = n := by omega
        subst this
        by_cases hjn : j < i
        · rw [snoc_lt hjn, snoc_n] at hij
          exact absurd hij.symm (hne j hjn)
        · omega
  obtain ⟨⟨r, W'⟩, h1, h2, lv', b', h3⟩ := main
  simp only at h2 h3
  subst h2
  exact ⟨W', lv', b', by rw [heaps_pileint_Push_om h1, gc_not rfl], h3⟩
theorem sz104 : sliceZ Try.prog 104 = some 1 := by kernel_rfl
theorem sub1 (n : Nat) (hn : n < 4611686018427387904) (W : AW) : oBin Try.prog .sub 3 false true (.int .i64 ((n + 1 : Nat) : Int)) (.int .i64 1) W = some (.int .i64 (n : Int), W) := by
  rw [oBin_sub (by omega) (by omega)]
  congr 3
  omega
theorem pPop_ok (h : QP W q lv less c2 c3 (n + 1) f bl) (hn : n ≤ 10000) :
    ∃ W' lv', omS (.func (.func 191) #[] #[]) [.pointer (some ⟨q, 0, none⟩)] W = some (.iface 127 (enP (f n)), W') ∧ QP W' q lv' less c2 c3 n f bl ∧ W'.next = W.next ∧ (∀ b, b ≠ q → bl ≠ some b → W'.get b = W.get b) := by
  have main : Ok (heaps_pileint_Pop omS (.pointer (some ⟨q, 0, none⟩)) W) fun r => r.1 = .iface 127 (enP (f n)) ∧ ∃ lv', QP r.2 q lv' less c2 c3 n f bl ∧ r.2.next = W.next ∧ (∀ b, b ≠ q → bl ≠ some b → r.2.get b = W.get b) := by
    unfold heaps_pileint_Pop
    simp only [SX, oNilCheck_ptr, Nat.zero_add, h.l0, h.pile.len, sub1 n (by omega)]
    obtain ⟨hqc, hql, ⟨hsl, hen, hinj⟩, hbq, heq⟩ := h
    cases hsl with
    | nil h0 => omega
    | row b junk h1 h2 h3 =>
      have ix : ∀ {j : Nat} (hj : j < n + 1) (W' : AW) (kk : IntKind), ixS 1 (.slice (some ⟨b, 0, none⟩) (n + 1) (BIG + 1)) (.int kk (j : Int)) W' = some (.pointer (some ⟨b, j, none⟩), W') := fun hj W' kk => by rw [ixS_ok hj, Nat.zero_add, Nat.mul_one]
      have hbq' : b ≠ q := fun e => hbq (by rw [e])
      have g0 : (rowE (n + 1) f ++ junk)[n]? = some (enP (f n)) := by rw [List.getElem?_append_left (by rw [rowE_len]; omega), rowE_get f (by omega)]
      have s1 := stA (W := W) (v := .pointer none) h1 (o := n) (by rw [List.length_append, rowE_len]; omega) rfl rfl
      have hrow : (rowE (n + 1) f ++ junk).set n (.pointer none) = rowE n f ++ (.pointer none :: junk) := by
        rw [rowE_succ, List.append_assoc, List.set_append_right _ _ (by rw [rowE_len]; omega), rowE_len, Nat.sub_self]
        rfl
      rw [hrow] at s1
      simp only [SX, oNilCheck_ptr, Nat.zero_add, ldR (o := 0) (rwOf hqc) rfl, ix (Nat.lt_succ_self n), ldR (rwOf h1) g0, s1]
      generalize hW2 : W.put b (.cells (rowE n f ++ (.pointer none :: junk))) = W2 at *
      have e2 : ∀ c, c ≠ b → W2.get c = W.get c := fun c hc => by rw [← hW2, AW.get_put_ne _ _ (Ne.symm hc)]
      have n2 : W2.next = W.next := by rw [← hW2, AW.put_next]
      have b2 : W2.get b = some (.cells (rowE n f ++ (.pointer none :: junk))) := by rw [← hW2]; exact AW.get_put _ _ _
      have q2 := (e2 q (Ne.symm hbq')).trans hqc
      have s3 := stA (v := .slice (some ⟨b, 0, none⟩) n (BIG + 1)) (o := 0) q2 (by simp) rfl rfl
      rw [show ([.slice (some ⟨b, 0, none⟩) (n + 1) (BIG + 1), less, c2, c3] : List Value).set 0 (.slice (some ⟨b, 0, none⟩) n (BIG + 1)) = [.slice (some ⟨b, 0, none⟩) n (BIG + 1), less, c2, c3] from rfl] at s3
      simp only [SX, oNilCheck_ptr, Nat.zero_add, ldR (o := 0) (rwOf q2) rfl, slice_open sz104 (by omega) (show n ≤ n + 1 by omega), s3, ki127, Ok_some]
      generalize hW4 : W2.put q (.cells [.slice (some ⟨b, 0, none⟩) n (BIG + 1), less, c2, c3]) = W4 at *
      have g4 : ∀ c, c ≠ q → W4.get c = W2.get c := fun c hc => by rw [← hW4]; exact AW.get_put_ne _ _ (Ne.symm hc)
      have n4 : W4.next = W.next := by rw [← hW4, AW.put_next, n2]
      refine ⟨trivial, _, ⟨by rw [← hW4]; exact AW.get_put _ _ _, by omega, ⟨.row b (.pointer none :: junk) ((g4 b hbq').trans b2) (by omega) (fun i hi => h3 i (by omega)), fun i hi => ⟨?_, by have := (hen i (by omega)).2; omega⟩, fun i j hi hj => hinj i j (by omega) (by omega)⟩, hbq, fun i hi => heq i (by omega)⟩, n4, fun c hc hcb => ?_⟩
      · rw [g4 _ (heq i (by omega)), e2 _ (h3 i (by omega))]
        exact (hen i (by omega)).1
      · rw [g4 c hc, e2 c (fun e => hcb (by rw [e]))]
  obtain ⟨⟨r, W'⟩, h1, h2, lv', h3⟩ := main
  simp only at h2 h3
  subst h2
  exact ⟨W', lv', by rw [heaps_pileint_Pop_om h1, gc_not rfl], h3⟩
end
end Go.Proofs.Ytkpgmabebjmahaa
/- container/heap over a queue's pile. -/
namespace Go.Proofs.Ytkpgmabebjmahaa
open Go Go.Eng Go.Hp
set_option linter.unusedVariables false
set_option linter.unusedSimpArgs false
set_option linter.unusedSectionVars false
set_option maxRecDepth 100000
theorem iLess (v : Value) (xs : List Value) (W : AW) : oInvoke Try.prog omS (.iface 103 v) "Less" xs W = omS (.func (.func 73) #[] #[]) (v :: xs) W := inv_eq (by kernel_rfl) _ _
theorem iSwap (v : Value) (xs : List Value) (W : AW) : oInvoke Try.prog omS (.iface 103 v) "Swap" xs W = omS (.func (.func 193) #[] #[]) (v :: xs) W := inv_eq (by kernel_rfl) _ _
theorem iLen (v : Value) (xs : List Value) (W : AW) : oInvoke Try.prog omS (.iface 103 v) "Len" xs W = omS (.func (.func 190) #[] #[]) (v :: xs) W := inv_eq (by kernel_rfl) _ _
theorem iPush (v : Value) (xs : List Value) (W : AW) : oInvoke Try.prog omS (.iface 103 v) "Push" xs W = omS (.func (.func 192) #[] #[]) (v :: xs) W := inv_eq (by kernel_rfl) _ _
theorem iPop (v : Value) (xs : List Value) (W : AW) : oInvoke Try.prog omS (.iface 103 v) "Pop" xs W = omS (.func (.func 191) #[] #[]) (v :: xs) W := inv_eq (by kernel_rfl) _ _
theorem td2 (i : Nat) : ((i : Int) - 1).tdiv 2 = (par i : Int) := by
  unfold par
  rcases Nat.eq_zero_or_pos i with rfl | h
  · rfl
  · rw [Int.tdiv_eq_ediv_of_nonneg (by omega)]
    omega
theorem par_le (i : Nat) : par i ≤ i := by unfold par; omega
abbrev hpV (q : Nat) : Value := .iface 103 (.pointer (some ⟨q, 0, none⟩))
theorem Own.perm {n : Nat} {f g : Nat → En} {bl : Option Nat} (h : (all n g).Perm (all n f)) {b : Nat} (ho : Own n g bl b) : Own n f bl b := by
  rcases ho with ho | ⟨i, hi, rfl⟩
  · exact .inl ho
  · obtain ⟨k, hk, e⟩ := all_mem.1 (h.mem_iff.1 (all_mem.2 ⟨i, hi, rfl⟩))
    exact .inr ⟨k, hk, by rw [e]⟩
section
variable {W : AW} {q : Nat} {lv less c2 c3 : Value} {n : Nat} {f : Nat → En} {bl : Option Nat} {ls : Int → Int → Bool}
theorem up_ok (o : Ord (bef ls)) (hl : IsLess less ls) (h : QP W q lv less c2 c3 n f bl) (hn : n ≤ 10001) {j : Nat} (hj : j < n) (hup : Up (bef ls) n f j) :
    ∃ W' g, omS (.func (.func 104) #[] #[]) [hpV q, .int .i64 (j : Int)] W = some (.tuple #[], W') ∧ QP W' q lv less c2 c3 n g bl ∧ Fr W W' (Own n f bl) ∧ Heap (bef ls) n g ∧ (all n g).Perm (all n f) := by
  have main : Ok (containerheap_up omS (hpV q) (.int .i64 (j : Int)) W) fun r => r.1 = .tuple #[] ∧ ∃ g, QP r.2 q lv less c2 c3 n g bl ∧ Fr W r.2 (Own n f bl) ∧ Heap (bef ls) n g ∧ (all n g).Perm (all n f) := by
    unfold containerheap_up
    have key : ∀ (i : Nat) (R : PlanTab.Fr) (W' : AW) (g : Nat → En), i < n → R 0 = hpV q → R 1 = .int .i64 (i : Int) → QP W' q lv less c2 c3 n g bl → Fr W W' (Own n f bl) → Up (bef ls) n g i → (all n g).Perm (all n f) →
        Ok (containerheap_up_L1 omS R W') fun r => (r.1 = .exit 0 ∧ ∃ g', QP r.2.2 q lv less c2 c3 n g' bl ∧ Fr W r.2.2 (Own n f bl) ∧ Heap (bef ls) n g' ∧ (all n g').Perm (all n f)) ∨ (r.1 = .normal ∧ 0 < i ∧ ∃ g', r.2.1 0 = hpV q ∧ r.2.1 1 = .int .i64 (par i : Int) ∧ QP r.2.2 q lv less c2 c3 n g' bl ∧ Fr W r.2.2 (Own n f bl) ∧ Up (bef ls) n g' (par i) ∧ (all n g').Perm (all n f)) := by
      intro i R W' g hi h0 h1 hQ hF hU hP
      unfold containerheap_up_L1
      have e1 := oBin_sub (P := Try.prog) (W := W') (t := 3) (c := false) (d := true) (a := (i : Int)) (b := 1) (by omega) (by omega)
      have e2 : oBin Try.prog .quo 3 false true (.int .i64 ((i : Int) - 1)) (.int .i64 2) W' = some (.int .i64 (par i : Int), W') := by
        rw [oBin_quo (by omega), td2, wrap_i64 (by omega) (by have := par_le i; omega)]
      by_cases hi0 : i = 0
      · subst hi0
        have e3 : ((par 0 : Nat) : Int) = ((0 : Nat) : Int) := rfl
        simp only [SX, h0, h1, e1, e2, e3, Ok_some]
        exact .inl ⟨trivial, g, hQ, hF, hU.done (.inl rfl), hP⟩
      · have hpi := par_lt (k := i) (by omega)
        have e3 : ¬ ((par i : Int) = (i : Int)) := by omega
        simp only [SX, h0, h1, e1, e2, e3, iLess, pLess_ok hl hQ hi (show par i < n by omega)]
        cases hb : bef ls (g i) (g (par i))
        · simp only [SX, Ok_some]
          exact .inl ⟨trivial, g, hQ, hF, hU.done (.inr hb), hP⟩
        · obtain ⟨W2, s1, s2, s3⟩ := pSwap_ok hQ (show par i < n by omega) hi
          simp only [SX, h0, h1, iSwap, s1, Ok_some]
          refine .inr ⟨trivial, by omega, _, h0, rfl, s2, hF.trans (s3.mono fun b hb => Own.perm hP hb), hU.step o (by omega) hi hb, (all_swp g (show par i < n by omega) hi).trans hP⟩
    refine Ok_loop j (by omega) (fun k R W' => ∃ i g, i + k ≤ j ∧ i < n ∧ R 0 = hpV q ∧ R 1 = .int .i64 (i : Int) ∧ QP W' q lv less c2 c3 n g bl ∧ Fr W W' (Own n f bl) ∧ Up (bef ls) n g i ∧ (all n g).Perm (all n f))
      (fun r => r.1 = .exit 0 ∧ ∃ g', QP r.2.2 q lv less c2 c3 n g' bl ∧ Fr W r.2.2 (Own n f bl) ∧ Heap (bef ls) n g' ∧ (all n g').Perm (all n f)) ⟨j, f, by omega, hj, rfl, rfl, h, .refl _ _, hup, .refl _⟩ ?_ ?_ ?_
    · rintro k R W' hk ⟨i, g, h1, h2, h3, h4, h5, h6, h7, h8⟩
      refine (key i R W' g h2 h3 h4 h5 h6 h7 h8).mono fun r hr => ?_
      rcases hr with hr | ⟨r1, r2, g', r3, r4, r5, r6, r7, r8⟩
      · exact .inr ⟨by rw [hr.1]; simp, hr⟩
      · have := par_lt r2
        exact .inl ⟨r1, par i, g', by omega, by omega, r3, r4, r5, r6, r7, r8⟩
    · rintro R W' ⟨i, g, h1, h2, h3, h4, h5, h6, h7, h8⟩
      refine (key i R W' g h2 h3 h4 h5 h6 h7 h8).mono fun r hr => ?_
      rcases hr with hr | ⟨r1, r2, -⟩
      · exact ⟨by rw [hr.1]; simp, hr⟩
      · omega
    · rintro ⟨x, R, W'⟩ ⟨hx, hq⟩
      simp only at hx hq
      subst hx
      simp only [SX, Ok_some]
      exact ⟨trivial, hq⟩
  obtain ⟨⟨r, W'⟩, h1, h2, g, h3⟩ := main
  simp only at h2 h3
  subst h2
  exact ⟨W', g, by rw [containerheap_up_om h1, gc_not rfl], h3⟩
end
end Go.Proofs.Ytkpgmabebjmahaa
/- container/heap over a queue's pile: down, push, pop. -/
namespace Go.Proofs.Ytkpgmabebjmahaa
open Go Go.Eng Go.Hp
set_option linter.unusedVariables false
set_option linter.unusedSimpArgs false
set_option linter.unusedSectionVars false
set_option maxRecDepth 100000
theorem gc_two {W W' : AW} (v : Value) : gc W (v, W') = (v, W') ∨ (gc W (v, W') = (v, W) ∧ Le W W') := by
  unfold gc
  split
  · rename_i h; exact .inr ⟨rfl, h.2⟩
  · exact .inl rfl
section
variable {W : AW} {q : Nat} {lv less c2 c3 : Value} {n : Nat} {f : Nat → En} {bl : Option Nat} {ls : Int → Int → Bool}
theorem QP.back {W W' : AW} (h : QP W' q lv less c2 c3 n f bl) (hn : W'.next = W.next) (hle : Le W W') : QP W q lv less c2 c3 n f bl := by
  obtain ⟨hqc, hql, ⟨hsl, hen, hinj⟩, hbq, heq⟩ := h
  rw [hn] at hql
  refine ⟨by rw [← hle.get q hql]; exact hqc, hql, ⟨hsl.keep (by omega) fun b hb => (hle.get b (by have := hsl.lt hb; omega)).symm, fun i hi => ?_, hinj⟩, hbq, heq⟩
  have := (hen i hi).2
  exact ⟨by rw [← hle.get _ (by omega)]; exact (hen i hi).1, by omega⟩
theorem ord_irr {α : Type} {lt : α → α → Bool} (o : Ord lt) (a : α) : lt a a = false := by
  cases h : lt a a with
  | false => rfl
  | true => have := o.asym _ _ h; rw [h] at this; exact this
/-- beyond n nothing is turned -/
def Same (n : Nat) (f g : Nat → En) : Prop := ∀ i, n ≤ i → g i = f i
theorem Own.low {n N : Nat} {f g : Nat → En} {bl : Option Nat} (h : (all n g).Perm (all n f)) (hs : Same n f g) {b : Nat} (ho : Own N g bl b) (hN : n ≤ N) : Own N f bl b := by
  rcases ho with ho | ⟨i, hi, rfl⟩
  · exact .inl ho
  · by_cases hin : i < n
    · obtain ⟨k, hk, e⟩ := all_mem.1 (h.mem_iff.1 (all_mem.2 ⟨i, hin, rfl⟩))
      exact .inr ⟨k, by omega, by rw [e]⟩
    · exact .inr ⟨i, hi, by rw [hs i (by omega)]⟩
theorem down_ok (o : Ord (bef ls)) (hl : IsLess less ls) {N : Nat} (h : QP W q lv less c2 c3 N f bl) (hN : N ≤ 10001) (hn : n ≤ N) {i0 : Nat} (hi0 : i0 ≤ n) (hd : Dn (bef ls) n f i0) :
    ∃ W' g b, omS (.func (.func 94) #[] #[]) [hpV q, .int .i64 (i0 : Int), .int .i64 (n : Int)] W = some (.bool b, W') ∧ QP W' q lv less c2 c3 N g bl ∧ Fr W W' (Own N f bl) ∧ Heap (bef ls) n g ∧ (all n g).Perm (all n f) ∧ Same n f g := by
  have main : Ok (containerheap_down omS (hpV q) (.int .i64 (i0 : Int)) (.int .i64 (n : Int)) W) fun r => (∃ b, r.1 = .bool b) ∧ ∃ g, QP r.2 q lv less c2 c3 N g bl ∧ Fr W r.2 (Own N f bl) ∧ Heap (bef ls) n g ∧ (all n g).Perm (all n f) ∧ Same n f g := by
    unfold containerheap_down
    have key : ∀ (i : Nat) (R : PlanTab.Fr) (W' : AW) (g : Nat → En), i ≤ n → R 0 = hpV q → R 2 = .int .i64 (n : Int) → R 7 = .int .i64 (i : Int) → QP W' q lv less c2 c3 N g bl → Fr W W' (Own N f bl) → Dn (bef ls) n g i → (all n g).Perm (all n f) → Same n f g →
        Ok (containerheap_down_L1 omS R W') fun r => (r.1 = .exit 0 ∧ r.2.1 1 = R 1 ∧ r.2.1 7 = R 7 ∧ ∃ g', QP r.2.2 q lv less c2 c3 N g' bl ∧ Fr W r.2.2 (Own N f bl) ∧ Heap (bef ls) n g' ∧ (all n g').Perm (all n f) ∧ Same n f g') ∨ (r.1 = .normal ∧ i < n ∧ r.2.1 1 = R 1 ∧ ∃ g' j, i < j ∧ j < n ∧ r.2.1 0 = hpV q ∧ r.2.1 2 = .int .i64 (n : Int) ∧ r.2.1 7 = .int .i64 (j : Int) ∧ QP r.2.2 q lv less c2 c3 N g' bl ∧ Fr W r.2.2 (Own N f bl) ∧ Dn (bef ls) n g' j ∧ (all n g').Perm (all n f) ∧ Same n f g') := by
      intro i R W' g hi h0 h2 h7 hQ hF hD hP hS
      unfold containerheap_down_L1
      have e1 : oBin Try.prog .mul 3 true false (.int .i64 2) (.int .i64 (i : Int)) W' = some (.int .i64 (2 * (i : Int)), W') := oBin_mul (by omega) (by omega)
      have e2 := oBin_add (P := Try.prog) (W := W') (t := 3) (c := false) (d := true) (a := 2 * (i : Int)) (b := 1) (by omega) (by omega)
      have e3 := oBin_add (P := Try.prog) (W := W') (t := 3) (c := false) (d := true) (a := 2 * (i : Int) + 1) (b := 1) (by omega) (by omega)
      have e4 : ¬ (2 * (i : Int) + 1 < 0) := by omega
      by_cases hj : n ≤ 2 * i + 1
      · have e5 : (n : Int) ≤ 2 * (i : Int) + 1 := by omega
        simp only [SX, h0, h2, h7, e1, e2, e5, Ok_some]
        exact .inl ⟨trivial, rfl, h7, g, hQ, hF, hD.done o (fun k hk hkn => by omega), hP, hS⟩
      · have e5 : ¬ ((n : Int) ≤ 2 * (i : Int) + 1) := by omega
        have c1 : ((2 * i + 1 : Nat) : Int) = 2 * (i : Int) + 1 := by omega
        have c2' : ((2 * i + 2 : Nat) : Int) = 2 * (i : Int) + 1 + 1 := by omega
        have fin : ∀ j, (j = 2 * i + 1 ∨ j = 2 * i + 2) → j < n → (∀ k, (k = 2 * i + 1 ∨ k = 2 * i + 2) → k < n → bef ls (g k) (g j) = false) →
            (bef ls (g j) (g i) = false → Heap (bef ls) n g) ∧ (bef ls (g j) (g i) = true → ∃ W2, omS (.func (.func 193) #[] #[]) [.pointer (some ⟨q, 0, none⟩), .int .i64 (i : Int), .int .i64 (j : Int)] W' = some (.tuple #[], W2) ∧ QP W2 q lv less c2 c3 N (swp g i j) bl ∧ Fr W W2 (Own N f bl) ∧ Dn (bef ls) n (swp g i j) j ∧ (all n (swp g i j)).Perm (all n f) ∧ Same n f (swp g i j)) := by
          intro j hj1 hj2 hmin
          refine ⟨fun hb => hD.done o fun k hk hkn => o.neg _ _ _ hb (hmin k hk hkn), fun hb => ?_⟩
          obtain ⟨W2, s1, s2, s3⟩ := pSwap_ok hQ (show i < N by omega) (show j < N by omega)
          refine ⟨W2, s1, s2, hF.trans (s3.mono fun b hb => Own.low hP hS hb hn), hD.step o hj1 hj2 hb hmin, (all_swp g (by omega) hj2).trans hP, fun k hk => ?_⟩
          rw [swp_ne _ (by omega) (by omega)]
          exact hS k hk
        by_cases hj2 : 2 * i + 2 < n
        · have e6 : (2 * (i : Int) + 1 + 1 < (n : Int)) := by omega
          have l1 := pLess_ok hl hQ (show 2 * i + 2 < N by omega) (show 2 * i + 1 < N by omega)
          rw [c1, c2'] at l1
          simp only [SX, h0, h2, h7, e1, e2, e3, e4, e5, e6, iLess, l1]
          cases hb : bef ls (g (2 * i + 2)) (g (2 * i + 1))
          · obtain ⟨f1, f2⟩ := fin (2 * i + 1) (.inl rfl) (by omega) fun k hk hkn => by
              rcases hk with rfl | rfl
              · exact ord_irr o _
              · exact hb
            have l2 := pLess_ok hl hQ (show 2 * i + 1 < N by omega) (show i < N by omega)
            rw [c1] at l2 f2
            simp only [SX, h0, h7, iLess, l2]
            cases hb2 : bef ls (g (2 * i + 1)) (g i)
            · simp only [SX, Ok_some]
              exact .inl ⟨trivial, rfl, h7, g, hQ, hF, f1 hb2, hP, hS⟩
            · obtain ⟨W2, s1, s2, s3, s4, s5, s6⟩ := f2 hb2
              simp only [SX, h0, h7, iSwap, s1, Ok_some]
              exact .inr ⟨trivial, by omega, rfl, _, 2 * i + 1, by omega, by omega, h0, h2, by rw [c1]; rfl, s2, s3, s4, s5, s6⟩
          · obtain ⟨f1, f2⟩ := fin (2 * i + 2) (.inr rfl) (by omega) fun k hk hkn => by
              rcases hk with rfl | rfl
              · exact o.asym _ _ hb
              · exact ord_irr o _
            have l2 := pLess_ok hl hQ (show 2 * i + 2 < N by omega) (show i < N by omega)
            rw [c2'] at l2 f2
            simp only [SX, h0, h7, iLess, l2]
            cases hb2 : bef ls (g (2 * i + 2)) (g i)
            · simp only [SX, Ok_some]
              exact .inl ⟨trivial, rfl, h7, g, hQ, hF, f1 hb2, hP, hS⟩
            · obtain ⟨W2, s1, s2, s3, s4, s5, s6⟩ := f2 hb2
              simp only [SX, h0, h7, iSwap, s1, Ok_some]
              exact .inr ⟨trivial, by omega, rfl, _, 2 * i + 2, by omega, by omega, h0, h2, by rw [c2']; rfl, s2, s3, s4, s5, s6⟩
        · have e6 : ¬ (2 * (i : Int) + 1 + 1 < (n : Int)) := by omega
          obtain ⟨f1, f2⟩ := fin (2 * i + 1) (.inl rfl) (by omega) fun k hk hkn => by
            rcases hk with rfl | rfl
            · exact ord_irr o _
            · omega
          have l2 := pLess_ok hl hQ (show 2 * i + 1 < N by omega) (show i < N by omega)
          rw [c1] at l2 f2
          simp only [SX, h0, h2, h7, e1, e2, e3, e4, e5, e6, iLess, l2]
          cases hb2 : bef ls (g (2 * i + 1)) (g i)
          · simp only [SX, Ok_some]
            exact .inl ⟨trivial, rfl, h7, g, hQ, hF, f1 hb2, hP, hS⟩
          · obtain ⟨W2, s1, s2, s3, s4, s5, s6⟩ := f2 hb2
            simp only [SX, h0, h7, iSwap, s1, Ok_some]
            exact .inr ⟨trivial, by omega, rfl, _, 2 * i + 1, by omega, by omega, h0, h2, by rw [c1]; rfl, s2, s3, s4, s5, s6⟩
    simp only [SX]
    refine Ok_loop n (by omega) (fun k R W' => ∃ i g, k ≤ i ∧ i ≤ n ∧ R 0 = hpV q ∧ R 1 = .int .i64 (i0 : Int) ∧ R 2 = .int .i64 (n : Int) ∧ R 7 = .int .i64 (i : Int) ∧ QP W' q lv less c2 c3 N g bl ∧ Fr W W' (Own N f bl) ∧ Dn (bef ls) n g i ∧ (all n g).Perm (all n f) ∧ Same n f g)
      (fun r => r.1 = .exit 0 ∧ (∃ i : Nat, r.2.1 7 = .int .i64 (i : Int)) ∧ r.2.1 1 = .int .i64 (i0 : Int) ∧ ∃ g', QP r.2.2 q lv less c2 c3 N g' bl ∧ Fr W r.2.2 (Own N f bl) ∧ Heap (bef ls) n g' ∧ (all n g').Perm (all n f) ∧ Same n f g') ⟨i0, f, by omega, hi0, rfl, rfl, rfl, rfl, h, .refl _ _, hd, .refl _, fun _ _ => rfl⟩ ?_ ?_ ?_
    · rintro k R W' hk ⟨i, g, h1, h2, h3, h3', h4, h5, h6, h7, h8, h9, h10⟩
      refine (key i R W' g h2 h3 h4 h5 h6 h7 h8 h9 h10).mono fun r hr => ?_
      rcases hr with ⟨r1, r2, r3, r4⟩ | ⟨r1, r2, r3, g', j, j1, j2, r5, r6, r7, r8⟩
      · exact .inr ⟨by rw [r1]; simp, r1, ⟨i, by rw [r3, h5]⟩, by rw [r2, h3'], r4⟩
      · exact .inl ⟨r1, j, g', by omega, by omega, r5, by rw [r3, h3'], r6, r7, r8⟩
    · rintro R W' ⟨i, g, h1, h2, h3, h3', h4, h5, h6, h7, h8, h9, h10⟩
      refine (key i R W' g h2 h3 h4 h5 h6 h7 h8 h9 h10).mono fun r hr => ?_
      rcases hr with ⟨r1, r2, r3, r4⟩ | ⟨r1, r2, -⟩
      · exact ⟨by rw [r1]; simp, r1, ⟨i, by rw [r3, h5]⟩, by rw [r2, h3'], r4⟩
      · omega
    · rintro ⟨x, R, W'⟩ ⟨hx, ⟨i, h7⟩, h1, hq⟩
      simp only at hx h7 h1 hq
      subst hx
      simp only [SX, h7, h1, Ok_some]
      exact ⟨⟨_, rfl⟩, hq⟩
  obtain ⟨⟨r, W'⟩, h1, ⟨b, h2⟩, g, h3⟩ := main
  simp only at h2 h3
  subst h2
  rcases gc_two (W := W) (W' := W') (.bool b) with hg | ⟨hg, hle⟩
  · exact ⟨W', g, b, by rw [containerheap_down_om h1, hg], h3⟩
  · exact ⟨W, g, b, by rw [containerheap_down_om h1, hg], h3.1.back h3.2.1.next hle, .refl _ _, h3.2.2⟩
end
end Go.Proofs.Ytkpgmabebjmahaa
/- container/heap over a queue's pile: push, pop. -/
namespace Go.Proofs.Ytkpgmabebjmahaa
open Go Go.Eng Go.Hp
set_option linter.unusedVariables false
set_option linter.unusedSimpArgs false
set_option linter.unusedSectionVars false
set_option maxRecDepth 100000
section
variable {W : AW} {q : Nat} {lv less c2 c3 : Value} {n : Nat} {f : Nat → En} {bl : Option Nat} {ls : Int → Int → Bool}
theorem heap_up {lt : En → En → Bool} {e : En} (h : Heap lt n f) : Up lt (n + 1) (snoc n f e) n := by
  refine ⟨fun k h0 h1 h2 => ?_, fun k h0 h1 h2 h3 => ?_⟩
  · have := par_lt h0
    rw [snoc_lt (by omega), snoc_lt (by omega)]
    exact h k h0 (by omega)
  · have := par_lt h0
    omega
theorem hPush_ok (o : Ord (bef ls)) (hl : IsLess less ls) (h : QP W q lv less c2 c3 n f bl) (hh : Heap (bef ls) n f) (hn : n ≤ 10000) {e : En} {p : Value} (he : W.get e.b = some (.cells [.int .i64 e.h, .int .i64 e.v, p])) (hlt : e.b < W.next) (hq : e.b ≠ q) (hbl : bl ≠ some e.b) (hne : ∀ i, i < n → (f i).b ≠ e.b) :
    ∃ W' lv' b' g, omS (.func (.func 70) #[] #[]) [hpV q, .iface 127 (enP e)] W = some (.tuple #[], W') ∧ QP W' q lv' less c2 c3 (n + 1) g (some b') ∧ Heap (bef ls) (n + 1) g ∧ (all (n + 1) g).Perm (e :: all n f) ∧ W.next ≤ b' ∧ W.next ≤ W'.next ∧ ∀ b, b < W.next → b ≠ q → b ≠ e.b → ¬ Own n f bl b → W'.get b = W.get b := by
  obtain ⟨W1, lv', b', p1, p2, p3, p4, p5⟩ := pPush_ok h hn he hlt hq hbl hne
  obtain ⟨W2, g, u1, u2, u3, u4, u5⟩ := up_ok o hl p2 (by omega) (Nat.lt_succ_self n) (heap_up hh)
  have main : Ok (containerheap_Push omS (hpV q) (.iface 127 (enP e)) W) fun r => r.1 = .tuple #[] ∧ r.2 = W2 := by
    unfold containerheap_Push
    simp only [SX, iPush, p1, iLen, pLen_ok p2, sub1 n (by omega), u1, Ok_some]
    exact ⟨trivial, trivial⟩
  obtain ⟨⟨r, W'⟩, h1, h2, h3⟩ := main
  simp only at h2 h3
  subst h2; subst h3
  refine ⟨_, lv', b', g, by rw [containerheap_Push_om h1, gc_not rfl], u2, u4, u5.trans (by rw [all_snoc]; exact List.perm_append_singleton _ _), p3, by rw [u3.next]; exact p4, fun b hb hbq hbe ho => ?_⟩
  rw [u3.get b fun ho2 => ?_, p5 b hb hbq hbe fun hx => ho (.inl hx)]
  rcases ho2 with ho2 | ⟨i, hi, ho2⟩
  · injection ho2 with ho2; omega
  · by_cases hin : i < n
    · rw [snoc_lt hin] at ho2
      exact ho (.inr ⟨i, hin, ho2⟩)
    · have : i = n := by omega
      subst this
      rw [snoc_n] at ho2
      exact hbe ho2.symm
theorem heap_dn {lt : En → En → Bool} (h : Heap lt (n + 1) f) : Dn lt n (swp f 0 n) 0 := by
  refine ⟨fun k h0 h1 h2 => ?_, fun k h0 h1 h2 h3 => by omega⟩
  have := par_lt h0
  rw [swp_ne _ (by omega) (by omega), swp_ne _ h2 (by omega)]
  exact h k h0 (by omega)
theorem hPop_ok (o : Ord (bef ls)) (hl : IsLess less ls) (h : QP W q lv less c2 c3 (n + 1) f bl) (hh : Heap (bef ls) (n + 1) f) (hn : n ≤ 10000) :
    ∃ W' lv' g, omS (.func (.func 53) #[] #[]) [hpV q] W = some (.iface 127 (enP (f 0)), W') ∧ QP W' q lv' less c2 c3 n g bl ∧ Heap (bef ls) n g ∧ (f 0 :: all n g).Perm (all (n + 1) f) ∧ W'.next = W.next ∧ ∀ b, b ≠ q → ¬ Own (n + 1) f bl b → W'.get b = W.get b := by
  obtain ⟨W1, s1, s2, s3⟩ := pSwap_ok h (show 0 < n + 1 by omega) (show n < n + 1 by omega)
  obtain ⟨W2, g, b, d1, d2, d3, d4, d5, d6⟩ := down_ok o hl s2 (by omega) (show n ≤ n + 1 by omega) (Nat.zero_le n) (heap_dn hh)
  have hg : g n = f 0 := by rw [d6 n (Nat.le_refl n), swp_r]
  obtain ⟨W3, lv', p1, p2, p3, p4⟩ := pPop_ok d2 hn
  rw [hg] at p1
  have main : Ok (containerheap_Pop omS (hpV q) W) fun r => r.1 = .iface 127 (enP (f 0)) ∧ r.2 = W3 := by
    unfold containerheap_Pop
    have e0 : (Value.int .i64 (0 : Int)) = .int .i64 ((0 : Nat) : Int) := rfl
    simp only [SX, iLen, pLen_ok h, sub1 n (by omega), iSwap, e0, s1, d1, iPop, p1, Ok_some]
    exact ⟨trivial, trivial⟩
  obtain ⟨⟨r, W'⟩, h1, h2, h3⟩ := main
  simp only at h2 h3
  subst h2; subst h3
  have hp1 : (all (n + 1) (swp f 0 n)).Perm (all (n + 1) f) := all_swp f (by omega) (by omega)
  refine ⟨_, lv', g, by rw [containerheap_Pop_om h1, gc_not rfl], p2, d4, ?_, by rw [p3, d3.next, s3.next], fun b hb ho => ?_⟩
  · refine .trans ?_ hp1
    rw [all_succ, swp_r]
    exact (List.perm_append_singleton _ _).symm.trans (d5.append (.refl _))
  · rw [p4 b hb fun hx => ho (.inl hx), d3.get b fun ho2 => ho (Own.perm hp1 ho2), s3.get b ho]
end
end Go.Proofs.Ytkpgmabebjmahaa
/- container/heap over a queue's pile: up and down of one that may go either way. -/
namespace Go.Proofs.Ytkpgmabebjmahaa
open Go Go.Eng Go.Hp
set_option linter.unusedVariables false
set_option linter.unusedSimpArgs false
set_option linter.unusedSectionVars false
set_option maxRecDepth 100000
section
variable {W : AW} {q : Nat} {lv less c2 c3 : Value} {n : Nat} {f : Nat → En} {bl : Option Nat} {ls : Int → Int → Bool}
theorem down2_ok (o : Ord (bef ls)) (hl : IsLess less ls) {N : Nat} (h : QP W q lv less c2 c3 N f bl) (hN : N ≤ 10001) (hn : n ≤ N) {i0 : Nat} (hi0 : i0 ≤ n) (hd : Odd (bef ls) n f i0) :
    ∃ W' g b, omS (.func (.func 94) #[] #[]) [hpV q, .int .i64 (i0 : Int), .int .i64 (n : Int)] W = some (.bool b, W') ∧ QP W' q lv less c2 c3 N g bl ∧ Fr W W' (Own N f bl) ∧ ((b = true ∧ Heap (bef ls) n g) ∨ (b = false ∧ g = f ∧ Up (bef ls) n f i0)) ∧ (all n g).Perm (all n f) ∧ Same n f g := by
  have main : Ok (containerheap_down omS (hpV q) (.int .i64 (i0 : Int)) (.int .i64 (n : Int)) W) fun r => ∃ b, r.1 = .bool b ∧ ∃ g, QP r.2 q lv less c2 c3 N g bl ∧ Fr W r.2 (Own N f bl) ∧ ((b = true ∧ Heap (bef ls) n g) ∨ (b = false ∧ g = f ∧ Up (bef ls) n f i0)) ∧ (all n g).Perm (all n f) ∧ Same n f g := by
    unfold containerheap_down
    have key : ∀ (i : Nat) (R : PlanTab.Fr) (W' : AW) (g : Nat → En), i ≤ n → R 0 = hpV q → R 2 = .int .i64 (n : Int) → R 7 = .int .i64 (i : Int) → QP W' q lv less c2 c3 N g bl → Fr W W' (Own N f bl) → St (bef ls) i0 n f g i → (all n g).Perm (all n f) → Same n f g →
        Ok (containerheap_down_L1 omS R W') fun r => (r.1 = .exit 0 ∧ r.2.1 1 = R 1 ∧ r.2.1 7 = R 7 ∧ ∃ g', QP r.2.2 q lv less c2 c3 N g' bl ∧ Fr W r.2.2 (Own N f bl) ∧ Fin (bef ls) i0 n f g' i ∧ (all n g').Perm (all n f) ∧ Same n f g') ∨ (r.1 = .normal ∧ i < n ∧ r.2.1 1 = R 1 ∧ ∃ g' j, i < j ∧ j < n ∧ r.2.1 0 = hpV q ∧ r.2.1 2 = .int .i64 (n : Int) ∧ r.2.1 7 = .int .i64 (j : Int) ∧ QP r.2.2 q lv less c2 c3 N g' bl ∧ Fr W r.2.2 (Own N f bl) ∧ St (bef ls) i0 n f g' j ∧ (all n g').Perm (all n f) ∧ Same n f g') := by
      intro i R W' g hi h0 h2 h7 hQ hF hD hP hS
      unfold containerheap_down_L1
      have e1 : oBin Try.prog .mul 3 true false (.int .i64 2) (.int .i64 (i : Int)) W' = some (.int .i64 (2 * (i : Int)), W') := oBin_mul (by omega) (by omega)
      have e2 := oBin_add (P := Try.prog) (W := W') (t := 3) (c := false) (d := true) (a := 2 * (i : Int)) (b := 1) (by omega) (by omega)
      have e3 := oBin_add (P := Try.prog) (W := W') (t := 3) (c := false) (d := true) (a := 2 * (i : Int) + 1) (b := 1) (by omega) (by omega)
      have e4 : ¬ (2 * (i : Int) + 1 < 0) := by omega
      by_cases hj : n ≤ 2 * i + 1
      · have e5 : (n : Int) ≤ 2 * (i : Int) + 1 := by omega
        simp only [SX, h0, h2, h7, e1, e2, e5, Ok_some]
        exact .inl ⟨trivial, rfl, h7, g, hQ, hF, hD.done o (fun k hk hkn => by omega), hP, hS⟩
      · have e5 : ¬ ((n : Int) ≤ 2 * (i : Int) + 1) := by omega
        have c1 : ((2 * i + 1 : Nat) : Int) = 2 * (i : Int) + 1 := by omega
        have c2' : ((2 * i + 2 : Nat) : Int) = 2 * (i : Int) + 1 + 1 := by omega
        have fin : ∀ j, (j = 2 * i + 1 ∨ j = 2 * i + 2) → j < n → (∀ k, (k = 2 * i + 1 ∨ k = 2 * i + 2) → k < n → bef ls (g k) (g j) = false) →
            (bef ls (g j) (g i) = false → Fin (bef ls) i0 n f g i) ∧ (bef ls (g j) (g i) = true → ∃ W2, omS (.func (.func 193) #[] #[]) [.pointer (some ⟨q, 0, none⟩), .int .i64 (i : Int), .int .i64 (j : Int)] W' = some (.tuple #[], W2) ∧ QP W2 q lv less c2 c3 N (swp g i j) bl ∧ Fr W W2 (Own N f bl) ∧ St (bef ls) i0 n f (swp g i j) j ∧ (all n (swp g i j)).Perm (all n f) ∧ Same n f (swp g i j)) := by
          intro j hj1 hj2 hmin
          refine ⟨fun hb => hD.done o fun k hk hkn => o.neg _ _ _ hb (hmin k hk hkn), fun hb => ?_⟩
          obtain ⟨W2, s1, s2, s3⟩ := pSwap_ok hQ (show i < N by omega) (show j < N by omega)
          refine ⟨W2, s1, s2, hF.trans (s3.mono fun b hb => Own.low hP hS hb hn), hD.step o hj1 hj2 hb hmin, (all_swp g (by omega) hj2).trans hP, fun k hk => ?_⟩
          rw [swp_ne _ (by omega) (by omega)]
          exact hS k hk
        by_cases hj2 : 2 * i + 2 < n
        · have e6 : (2 * (i : Int) + 1 + 1 < (n : Int)) := by omega
          have l1 := pLess_ok hl hQ (show 2 * i + 2 < N by omega) (show 2 * i + 1 < N by omega)
          rw [c1, c2'] at l1
          simp only [SX, h0, h2, h7, e1, e2, e3, e4, e5, e6, iLess, l1]
          cases hb : bef ls (g (2 * i + 2)) (g (2 * i + 1))
          · obtain ⟨f1, f2⟩ := fin (2 * i + 1) (.inl rfl) (by omega) fun k hk hkn => by
              rcases hk with rfl | rfl
              · exact ord_irr o _
              · exact hb
            have l2 := pLess_ok hl hQ (show 2 * i + 1 < N by omega) (show i < N by omega)
            rw [c1] at l2 f2
            simp only [SX, h0, h7, iLess, l2]
            cases hb2 : bef ls (g (2 * i + 1)) (g i)
            · simp only [SX, Ok_some]
              exact .inl ⟨trivial, rfl, h7, g, hQ, hF, f1 hb2, hP, hS⟩
            · obtain ⟨W2, s1, s2, s3, s4, s5, s6⟩ := f2 hb2
              simp only [SX, h0, h7, iSwap, s1, Ok_some]
              exact .inr ⟨trivial, by omega, rfl, _, 2 * i + 1, by omega, by omega, h0, h2, by rw [c1]; rfl, s2, s3, s4, s5, s6⟩
          · obtain ⟨f1, f2⟩ := fin (2 * i + 2) (.inr rfl) (by omega) fun k hk hkn => by
              rcases hk with rfl | rfl
              · exact o.asym _ _ hb
              · exact ord_irr o _
            have l2 := pLess_ok hl hQ (show 2 * i + 2 < N by omega) (show i < N by omega)
            rw [c2'] at l2 f2
            simp only [SX, h0, h7, iLess, l2]
            cases hb2 : bef ls (g (2 * i + 2)) (g i)
            · simp only [SX, Ok_some]
              exact .inl ⟨trivial, rfl, h7, g, hQ, hF, f1 hb2, hP, hS⟩
            · obtain ⟨W2, s1, s2, s3, s4, s5, s6⟩ := f2 hb2
              simp only [SX, h0, h7, iSwap, s1, Ok_some]
              exact .inr ⟨trivial, by omega, rfl, _, 2 * i + 2, by omega, by omega, h0, h2, by rw [c2']; rfl, s2, s3, s4, s5, s6⟩
        · have e6 : ¬ (2 * (i : Int) + 1 + 1 < (n : Int)) := by omega
          obtain ⟨f1, f2⟩ := fin (2 * i + 1) (.inl rfl) (by omega) fun k hk hkn => by
            rcases hk with rfl | rfl
            · exact ord_irr o _
            · omega
          have l2 := pLess_ok hl hQ (show 2 * i + 1 < N by omega) (show i < N by omega)
          rw [c1] at l2 f2
          simp only [SX, h0, h2, h7, e1, e2, e3, e4, e5, e6, iLess, l2]
          cases hb2 : bef ls (g (2 * i + 1)) (g i)
          · simp only [SX, Ok_some]
            exact .inl ⟨trivial, rfl, h7, g, hQ, hF, f1 hb2, hP, hS⟩
          · obtain ⟨W2, s1, s2, s3, s4, s5, s6⟩ := f2 hb2
            simp only [SX, h0, h7, iSwap, s1, Ok_some]
            exact .inr ⟨trivial, by omega, rfl, _, 2 * i + 1, by omega, by omega, h0, h2, by rw [c1]; rfl, s2, s3, s4, s5, s6⟩
    simp only [SX]
    refine Ok_loop n (by omega) (fun k R W' => ∃ i g, k ≤ i ∧ i ≤ n ∧ R 0 = hpV q ∧ R 1 = .int .i64 (i0 : Int) ∧ R 2 = .int .i64 (n : Int) ∧ R 7 = .int .i64 (i : Int) ∧ QP W' q lv less c2 c3 N g bl ∧ Fr W W' (Own N f bl) ∧ St (bef ls) i0 n f g i ∧ (all n g).Perm (all n f) ∧ Same n f g)
      (fun r => r.1 = .exit 0 ∧ ∃ i : Nat, r.2.1 7 = .int .i64 (i : Int) ∧ r.2.1 1 = .int .i64 (i0 : Int) ∧ ∃ g', QP r.2.2 q lv less c2 c3 N g' bl ∧ Fr W r.2.2 (Own N f bl) ∧ Fin (bef ls) i0 n f g' i ∧ (all n g').Perm (all n f) ∧ Same n f g') ⟨i0, f, by omega, hi0, rfl, rfl, rfl, rfl, h, .refl _ _, .inl ⟨rfl, rfl, hd⟩, .refl _, fun _ _ => rfl⟩ ?_ ?_ ?_
    · rintro k R W' hk ⟨i, g, h1, h2, h3, h3', h4, h5, h6, h7, h8, h9, h10⟩
      refine (key i R W' g h2 h3 h4 h5 h6 h7 h8 h9 h10).mono fun r hr => ?_
      rcases hr with ⟨r1, r2, r3, r4⟩ | ⟨r1, r2, r3, g', j, j1, j2, r5, r6, r7, r8⟩
      · exact .inr ⟨by rw [r1]; simp, r1, i, by rw [r3, h5], by rw [r2, h3'], r4⟩
      · exact .inl ⟨r1, j, g', by omega, by omega, r5, by rw [r3, h3'], r6, r7, r8⟩
    · rintro R W' ⟨i, g, h1, h2, h3, h3', h4, h5, h6, h7, h8, h9, h10⟩
      refine (key i R W' g h2 h3 h4 h5 h6 h7 h8 h9 h10).mono fun r hr => ?_
      rcases hr with ⟨r1, r2, r3, r4⟩ | ⟨r1, r2, -⟩
      · exact ⟨by rw [r1]; simp, r1, i, by rw [r3, h5], by rw [r2, h3'], r4⟩
      · omega
    · rintro ⟨x, R, W'⟩ ⟨hx, i, h7, h1, g', q1, q2, q3, q4⟩
      simp only at hx h7 h1 q1 q2 q3 q4
      subst hx
      simp only [SX, h7, h1, Ok_some]
      refine ⟨_, rfl, g', q1, q2, ?_, q4⟩
      rcases q3 with ⟨rfl, rfl, q3⟩ | ⟨q3, q5⟩
      · exact .inr ⟨by simp, rfl, q3⟩
      · exact .inl ⟨by simp; omega, q5⟩
  obtain ⟨⟨r, W'⟩, h1, b, h2, g, h3⟩ := main
  simp only at h2 h3
  subst h2
  rcases gc_two (W := W) (W' := W') (.bool b) with hg | ⟨hg, hle⟩
  · exact ⟨W', g, b, by rw [containerheap_down_om h1, hg], h3⟩
  · exact ⟨W, g, b, by rw [containerheap_down_om h1, hg], h3.1.back h3.2.1.next hle, .refl _ _, h3.2.2⟩
theorem up2_ok (o : Ord (bef ls)) (hl : IsLess less ls) {N : Nat} (h : QP W q lv less c2 c3 N f bl) (hN : N ≤ 10001) (hn : n ≤ N) {j : Nat} (hj : j < n) (hup : Up (bef ls) n f j) :
    ∃ W' g, omS (.func (.func 104) #[] #[]) [hpV q, .int .i64 (j : Int)] W = some (.tuple #[], W') ∧ QP W' q lv less c2 c3 N g bl ∧ Fr W W' (Own N f bl) ∧ Heap (bef ls) n g ∧ (all n g).Perm (all n f) ∧ Same n f g := by
  have main : Ok (containerheap_up omS (hpV q) (.int .i64 (j : Int)) W) fun r => r.1 = .tuple #[] ∧ ∃ g, QP r.2 q lv less c2 c3 N g bl ∧ Fr W r.2 (Own N f bl) ∧ Heap (bef ls) n g ∧ (all n g).Perm (all n f) ∧ Same n f g := by
    unfold containerheap_up
    have key : ∀ (i : Nat) (R : PlanTab.Fr) (W' : AW) (g : Nat → En), i < n → R 0 = hpV q → R 1 = .int .i64 (i : Int) → QP W' q lv less c2 c3 N g bl → Fr W W' (Own N f bl) → Up (bef ls) n g i → (all n g).Perm (all n f) → Same n f g →
        Ok (containerheap_up_L1 omS R W') fun r => (r.1 = .exit 0 ∧ ∃ g', QP r.2.2 q lv less c2 c3 N g' bl ∧ Fr W r.2.2 (Own N f bl) ∧ Heap (bef ls) n g' ∧ (all n g').Perm (all n f) ∧ Same n f g') ∨ (r.1 = .normal ∧ 0 < i ∧ ∃ g', r.2.1 0 = hpV q ∧ r.2.1 1 = .int .i64 (par i : Int) ∧ QP r.2.2 q lv less c2 c3 N g' bl ∧ Fr W r.2.2 (Own N f bl) ∧ Up (bef ls) n g' (par i) ∧ (all n g').Perm (all n f) ∧ Same n f g') := by
      intro i R W' g hi h0 h1 hQ hF hU hP hS
      unfold containerheap_up_L1
      have e1 := oBin_sub (P := Try.prog) (W := W') (t := 3) (c := false) (d := true) (a := (i : Int)) (b := 1) (by omega) (by omega)
      have e2 : oBin Try.prog .quo 3 false true (.int .i64 ((i : Int) - 1)) (.int .i64 2) W' = some (.int .i64 (par i : Int), W') := by
        rw [oBin_quo (by omega), td2, wrap_i64 (by omega) (by have := par_le i; omega)]
      by_cases hi0 : i = 0
      · subst hi0
        have e3 : ((par 0 : Nat) : Int) = ((0 : Nat) : Int) := rfl
        simp only [SX, h0, h1, e1, e2, e3, Ok_some]
        exact .inl ⟨trivial, g, hQ, hF, hU.done (.inl rfl), hP, hS⟩
      · have hpi := par_lt (k := i) (by omega)
        have e3 : ¬ ((par i : Int) = (i : Int)) := by omega
        simp only [SX, h0, h1, e1, e2, e3, iLess, pLess_ok hl hQ (Nat.lt_of_lt_of_le hi hn) (show par i < N by omega)]
        cases hb : bef ls (g i) (g (par i))
        · simp only [SX, Ok_some]
          exact .inl ⟨trivial, g, hQ, hF, hU.done (.inr hb), hP, hS⟩
        · obtain ⟨W2, s1, s2, s3⟩ := pSwap_ok hQ (show par i < N by omega) (Nat.lt_of_lt_of_le hi hn)
          simp only [SX, h0, h1, iSwap, s1, Ok_some]
          refine .inr ⟨trivial, by omega, _, h0, rfl, s2, hF.trans (s3.mono fun b hb => Own.low hP hS hb hn), hU.step o (by omega) hi hb, (all_swp g (show par i < n by omega) hi).trans hP, fun k hk => by rw [swp_ne _ (by omega) (by omega)]; exact hS k hk⟩
    refine Ok_loop j (by omega) (fun k R W' => ∃ i g, i + k ≤ j ∧ i < n ∧ R 0 = hpV q ∧ R 1 = .int .i64 (i : Int) ∧ QP W' q lv less c2 c3 N g bl ∧ Fr W W' (Own N f bl) ∧ Up (bef ls) n g i ∧ (all n g).Perm (all n f) ∧ Same n f g)
      (fun r => r.1 = .exit 0 ∧ ∃ g', QP r.2.2 q lv less c2 c3 N g' bl ∧ Fr W r.2.2 (Own N f bl) ∧ Heap (bef ls) n g' ∧ (all n g').Perm (all n f) ∧ Same n f g') ⟨j, f, by omega, hj, rfl, rfl, h, .refl _ _, hup, .refl _, fun _ _ => rfl⟩ ?_ ?_ ?_
    · rintro k R W' hk ⟨i, g, h1, h2, h3, h4, h5, h6, h7, h8, h9⟩
      refine (key i R W' g h2 h3 h4 h5 h6 h7 h8 h9).mono fun r hr => ?_
      rcases hr with hr | ⟨r1, r2, g', r3, r4, r5, r6, r7, r8⟩
      · exact .inr ⟨by rw [hr.1]; simp, hr⟩
      · have := par_lt r2
        exact .inl ⟨r1, par i, g', by omega, by omega, r3, r4, r5, r6, r7, r8⟩
    · rintro R W' ⟨i, g, h1, h2, h3, h4, h5, h6, h7, h8, h9⟩
      refine (key i R W' g h2 h3 h4 h5 h6 h7 h8 h9).mono fun r hr => ?_
      rcases hr with hr | ⟨r1, r2, -⟩
      · exact ⟨by rw [hr.1]; simp, hr⟩
      · omega
    · rintro ⟨x, R, W'⟩ ⟨hx, hq⟩
      simp only at hx hq
      subst hx
      simp only [SX, Ok_some]
      exact ⟨trivial, hq⟩
  obtain ⟨⟨r, W'⟩, h1, h2, g, h3⟩ := main
  simp only at h2 h3
  subst h2
  exact ⟨W', g, by rw [containerheap_up_om h1, gc_not rfl], h3⟩
end
end Go.Proofs.Ytkpgmabebjmahaa
/- container/heap over a queue's pile: Fix and Remove. -/
namespace Go.Proofs.Ytkpgmabebjmahaa
open Go Go.Eng Go.Hp
set_option linter.unusedVariables false
set_option linter.unusedSimpArgs false
set_option linter.unusedSectionVars false
set_option maxRecDepth 100000
section
variable {W : AW} {q : Nat} {lv less c2 c3 : Value} {n : Nat} {f : Nat → En} {bl : Option Nat} {ls : Int → Int → Bool}
theorem hFix_ok (o : Ord (bef ls)) (hl : IsLess less ls) (h : QP W q lv less c2 c3 n f bl) (hn : n ≤ 10001) {i : Nat} (hi : i < n) (ho : Odd (bef ls) n f i) :
    ∃ W' g, omS (.func (.func 71) #[] #[]) [hpV q, .int .i64 (i : Int)] W = some (.tuple #[], W') ∧ QP W' q lv less c2 c3 n g bl ∧ Fr W W' (Own n f bl) ∧ Heap (bef ls) n g ∧ (all n g).Perm (all n f) := by
  obtain ⟨W1, g, b, d1, d2, d3, d4, d5, d6⟩ := down2_ok o hl h hn (Nat.le_refl n) (Nat.le_of_lt hi) ho
  have main : Ok (containerheap_Fix omS (hpV q) (.int .i64 (i : Int)) W) fun r => r.1 = .tuple #[] ∧ ∃ g, QP r.2 q lv less c2 c3 n g bl ∧ Fr W r.2 (Own n f bl) ∧ Heap (bef ls) n g ∧ (all n g).Perm (all n f) := by
    unfold containerheap_Fix
    rcases d4 with ⟨rfl, d4⟩ | ⟨rfl, rfl, d4⟩
    · simp only [SX, iLen, pLen_ok h, d1, Ok_some]
      exact ⟨trivial, g, d2, d3, d4, d5⟩
    · obtain ⟨W2, g2, u1, u2, u3, u4, u5, -⟩ := up2_ok o hl d2 hn (Nat.le_refl n) hi d4
      simp only [SX, iLen, pLen_ok h, d1, u1, Ok_some]
      exact ⟨trivial, g2, u2, d3.trans u3, u4, u5⟩
  obtain ⟨⟨r, W'⟩, h1, h2, g, h3⟩ := main
  simp only at h2 h3
  subst h2
  exact ⟨W', g, by rw [containerheap_Fix_om h1, gc_not rfl], h3⟩
theorem hRemove_ok (o : Ord (bef ls)) (hl : IsLess less ls) (h : QP W q lv less c2 c3 (n + 1) f bl) (hh : Heap (bef ls) (n + 1) f) (hn : n ≤ 10000) {i : Nat} (hi : i < n + 1) :
    ∃ W' lv' g, omS (.func (.func 69) #[] #[]) [hpV q, .int .i64 (i : Int)] W = some (.iface 127 (enP (f i)), W') ∧ QP W' q lv' less c2 c3 n g bl ∧ Heap (bef ls) n g ∧ (f i :: all n g).Perm (all (n + 1) f) ∧ (∃ p, W'.get (f i).b = some (.cells [.int .i64 (f i).h, .int .i64 (f i).v, p])) ∧ W'.next = W.next ∧ ∀ b, b ≠ q → ¬ Own (n + 1) f bl b → W'.get b = W.get b := by
  have main : Ok (containerheap_Remove omS (hpV q) (.int .i64 (i : Int)) W) fun r => r.1 = .iface 127 (enP (f i)) ∧ ∃ lv' g, QP r.2 q lv' less c2 c3 n g bl ∧ Heap (bef ls) n g ∧ (f i :: all n g).Perm (all (n + 1) f) ∧ (∃ p, r.2.get (f i).b = some (.cells [.int .i64 (f i).h, .int .i64 (f i).v, p])) ∧ r.2.next = W.next ∧ ∀ b, b ≠ q → ¬ Own (n + 1) f bl b → r.2.get b = W.get b := by
    unfold containerheap_Remove
    by_cases hin : i = n
    · subst hin
      obtain ⟨W3, lv', p1, p2, p3, p4⟩ := pPop_ok h hn
      simp only [SX, iLen, pLen_ok h, sub1 i (by omega), iPop, p1, Ok_some]
      refine ⟨trivial, lv', f, p2, hh.less (by omega), ?_, ⟨_, by rw [p4 _ (h.eq i hi) (h.pile.sl.ne hi)]; exact (h.pile.en i hi).1⟩, p3, fun b hb ho => p4 b hb fun e => ho (.inl e)⟩
      rw [all_succ]
      exact (List.perm_append_singleton _ _).symm
    · have e1 : ¬ ((n : Int) = (i : Int)) := by omega
      obtain ⟨W1, s1, s2, s3⟩ := pSwap_ok h hi (show n < n + 1 by omega)
      have hodd : Odd (bef ls) n (swp f i n) i := (hh.less (Nat.le_succ n)).change o fun j hj hji => swp_ne _ hji (by omega)
      obtain ⟨W2, g, b, d1, d2, d3, d4, d5, d6⟩ := down2_ok o hl s2 (by omega) (Nat.le_succ n) (show i ≤ n by omega) hodd
      have hp1 : (all (n + 1) (swp f i n)).Perm (all (n + 1) f) := all_swp f hi (by omega)
      have fin : ∀ W3 g3, QP W3 q lv less c2 c3 (n + 1) g3 bl → Fr W2 W3 (Own (n + 1) (swp f i n) bl) → Heap (bef ls) n g3 → (all n g3).Perm (all n (swp f i n)) → Same n (swp f i n) g3 →
          ∃ W4 lv', omS (.func (.func 191) #[] #[]) [.pointer (some ⟨q, 0, none⟩)] W3 = some (.iface 127 (enP (f i)), W4) ∧ QP W4 q lv' less c2 c3 n g3 bl ∧ (f i :: all n g3).Perm (all (n + 1) f) ∧ (∃ p, W4.get (f i).b = some (.cells [.int .i64 (f i).h, .int .i64 (f i).v, p])) ∧ W4.next = W.next ∧ ∀ b, b ≠ q → ¬ Own (n + 1) f bl b → W4.get b = W.get b := by
        intro W3 g3 a1 a2 a3 a4 a5
        have hg : g3 n = f i := by rw [a5 n (Nat.le_refl n), swp_r]
        obtain ⟨W4, lv', p1, p2, p3, p4⟩ := pPop_ok a1 hn
        rw [hg] at p1
        refine ⟨W4, lv', p1, p2, ?_, ⟨_, by have x := (a1.pile.en n (Nat.lt_succ_self n)).1; have y := a1.pile.sl.ne (Nat.lt_succ_self n); have z := a1.eq n (Nat.lt_succ_self n); rw [hg] at x y z; rw [p4 _ z y]; exact x⟩, by rw [p3, a2.next, d3.next, s3.next], fun b hb ho => ?_⟩
        · refine .trans ?_ hp1
          rw [all_succ, swp_r]
          exact (List.perm_append_singleton _ _).symm.trans (a4.append (.refl _))
        · have ho2 : ¬ Own (n + 1) (swp f i n) bl b := fun x => ho (Own.perm hp1 x)
          rw [p4 b hb fun hx => ho (.inl hx), a2.get b ho2, d3.get b ho2, s3.get b ho]
      rcases d4 with ⟨rfl, d4⟩ | ⟨rfl, rfl, d4⟩
      · obtain ⟨W4, lv', p1, p2, p3, p4, p5⟩ := fin W2 g d2 (.refl _ _) d4 d5 d6
        simp only [SX, iLen, pLen_ok h, sub1 n (by omega), e1, iSwap, s1, d1, iPop, p1, Ok_some]
        exact ⟨trivial, lv', g, p2, d4, p3, p4, p5⟩
      · obtain ⟨W3, g3, u1, u2, u3, u4, u5, u6⟩ := up2_ok o hl d2 (by omega) (Nat.le_succ n) (show i < n by omega) d4
        obtain ⟨W4, lv', p1, p2, p3, p4, p5⟩ := fin W3 g3 u2 u3 u4 u5 u6
        simp only [SX, iLen, pLen_ok h, sub1 n (by omega), e1, iSwap, s1, d1, u1, iPop, p1, Ok_some]
        exact ⟨trivial, lv', g3, p2, u4, p3, p4, p5⟩
  obtain ⟨⟨r, W'⟩, h1, h2, lv', g, h3⟩ := main
  simp only at h2 h3
  subst h2
  exact ⟨W', lv', g, by rw [containerheap_Remove_om h1, gc_not rfl], h3⟩
end
end Go.Proofs.Ytkpgmabebjmahaa
/- A queue and its methods. -/
namespace Go.Proofs.Ytkpgmabebjmahaa
open Go Go.Eng Go.Hp
set_option linter.unusedVariables false
set_option linter.unusedSimpArgs false
set_option linter.unusedSectionVars false
set_option maxRecDepth 100000
theorem u24 : Try.prog.underlying 24 = some (.pointer 109) := by kernel_rfl
theorem u107 : Try.prog.underlying 107 = some (.map 2 127) := by kernel_rfl
theorem u2 : Try.prog.underlying 2 = some (.int .i64) := by kernel_rfl
theorem pNe (a : Addr) (c d : Bool) (W : AW) : oBin Try.prog .neq 24 c d (.pointer (some a)) (.pointer none) W = some (.bool true, W) := by
  unfold oBin aBin aEql; simp only [u24]; rfl
theorem pEq (a : Addr) (c d : Bool) (W : AW) : oBin Try.prog .eql 24 c d (.pointer (some a)) (.pointer none) W = some (.bool false, W) := by
  unfold oBin aBin aEql; simp only [u24]
theorem mNe (m : Nat) (c d : Bool) (W : AW) : oBin Try.prog .neq 107 c d (.map (some m)) (.map none) W = some (.bool true, W) := by
  unfold oBin aBin aEql; simp only [u107]; rfl
theorem bd132 (h v : Int) (W : AW) : oBuild Try.prog 132 [(0, .int .i64 h), (1, .int .i64 v)] W = some (.agg #[.int .i64 h, .int .i64 v, .int .i64 0], W) := Eq.trans (by kernel_rfl) rfl
section
variable {W : AW} {q : Nat} {lv less c2 c3 : Value} {n : Nat} {f : Nat → En} {bl : Option Nat} {ls : Int → Int → Bool}
theorem QP.keep {W W' : AW} (h : QP W q lv less c2 c3 n f bl) (hn : W.next ≤ W'.next) (hg : ∀ b, b < W.next → b = q ∨ Own n f bl b → W'.get b = W.get b) : QP W' q lv less c2 c3 n f bl := by
  obtain ⟨hqc, hql, ⟨hsl, hen, hinj⟩, hbq, heq⟩ := h
  refine ⟨by rw [hg q hql (.inl rfl)]; exact hqc, by omega, ⟨hsl.keep hn fun b hb => hg b (hsl.lt hb) (.inr (.inl hb)), fun i hi => ?_, hinj⟩, hbq, heq⟩
  have := (hen i hi).2
  exact ⟨by rw [hg _ this (.inr (.inr ⟨i, hi, rfl⟩))]; exact (hen i hi).1, by omega⟩
theorem QP.turn {c3' : Value} (h : QP W q lv less c2 c3 n f bl) : QP (W.put q (.cells [lv, less, c2, c3'])) q lv less c2 c3' n f bl := by
  obtain ⟨hqc, hql, ⟨hsl, hen, hinj⟩, hbq, heq⟩ := h
  refine ⟨AW.get_put _ _ _, by rw [AW.put_next]; exact hql, ⟨hsl.keep (by rw [AW.put_next]; omega) fun b hb => AW.get_put_ne _ _ (fun e => hbq (by rw [hb, e])), fun i hi => ?_, hinj⟩, hbq, heq⟩
  rw [AW.get_put_ne _ _ (Ne.symm (heq i hi)), AW.put_next]
  exact hen i hi
end
/-- a queue of n entries -/
structure QS (W : AW) (In : Nat → Prop) (q mh : Nat) (less : Value) (ls : Int → Int → Bool) (nx : Int) (n : Nat) (f : Nat → En) : Prop where
  ex : ∃ lv bl, QP W q lv less (.map (some mh)) (.int .i64 nx) n f bl ∧ bl ≠ some mh ∧ ∀ b, Own n f bl b → In b
  ml : mh < W.next
  mq : mh ≠ q
  me : ∀ i, i < n → (f i).b ≠ mh
  iq : In q
  im : In mh
  hp : Heap (bef ls) n f
  mp : ∃ m, MapV W mh m n ∧ (∀ i, i < n → m (f i).h = some (enP (f i))) ∧ ∀ k v, m k = some v → ∃ i, i < n ∧ (f i).h = k ∧ v = enP (f i)
  hd : ∀ i, i < n → 1 ≤ (f i).h ∧ (f i).h < nx
  nx1 : 1 ≤ nx
/-- what changes lies in In -/
structure Gr (W W' : AW) (In : Nat → Prop) : Prop where
  next : W.next ≤ W'.next
  get : ∀ b, b < W.next → ¬ In b → W'.get b = W.get b
theorem Gr.refl (W : AW) (In : Nat → Prop) : Gr W W In := ⟨Nat.le_refl _, fun _ _ _ => rfl⟩
theorem Gr.trans {A B C : AW} {In : Nat → Prop} (h : Gr A B In) (k : Gr B C In) : Gr A C In := ⟨Nat.le_trans h.next k.next, fun b hb hi => (k.get b (Nat.lt_of_lt_of_le hb h.next) hi).trans (h.get b hb hi)⟩
section
variable {W : AW} {In : Nat → Prop} {q mh : Nat} {less : Value} {ls : Int → Int → Bool} {nx : Int} {n : Nat} {f : Nat → En}
theorem QS.keep {W W' : AW} {In' : Nat → Prop} (h : QS W In q mh less ls nx n f) (hn : W.next ≤ W'.next) (hg : ∀ b, b < W.next → In b → W'.get b = W.get b) (hi : ∀ b, b < W.next → In b → In' b) : QS W' In' q mh less ls nx n f := by
  obtain ⟨⟨lv, bl, h1, h2, h3⟩, ml, mq, me, iq, im, hp, ⟨m, m1, m2⟩, hd, nx1⟩ := h
  refine ⟨⟨lv, bl, h1.keep hn fun b hb ho => hg b hb ?_, h2, fun b hb => hi b ?_ (h3 b hb)⟩, by omega, mq, me, hi q h1.lt iq, hi mh ml im, hp, ⟨m, m1.keep (hg mh ml im), m2⟩, hd, nx1⟩
  · rcases ho with rfl | ho
    · exact iq
    · exact h3 b ho
  · rcases hb with hb | ⟨i, hi', rfl⟩
    · exact h1.pile.sl.lt hb
    · exact (h1.pile.en i hi').2
theorem QS.back {W W' : AW} (h : QS W' In q mh less ls nx n f) (hn : W'.next = W.next) (hle : Le W W') : QS W In q mh less ls nx n f :=
  h.keep (by omega) (fun b hb _ => (hle.get b (by omega)).symm) fun _ _ hb => hb
abbrev qV (q : Nat) : Value := .pointer (some ⟨q, 0, none⟩)
theorem made_ok (h : QS W In q mh less ls nx n f) : omS (.func (.func 54) #[] #[]) [qV q] W = some (.bool true, W) := by
  obtain ⟨⟨lv, bl, h1, h2, h3⟩, -⟩ := h
  refine om_drop rfl ?_ heaps_Queueint_made_om
  unfold heaps_Queueint_made
  simp only [SX, pNe, oNilCheck_ptr, Nat.zero_add, h1.l2, mNe, Ok_some]
  exact ⟨trivial, .refl _⟩
theorem qLen_ok (h : QS W In q mh less ls nx n f) : omS (.func (.func 16) #[] #[]) [qV q] W = some (.int .i64 (n : Int), W) := by
  have hm := made_ok h
  obtain ⟨⟨lv, bl, h1, h2, h3⟩, -⟩ := h
  refine om_drop rfl ?_ heaps_Queueint_Len_om
  unfold heaps_Queueint_Len
  simp only [SX, hm, oNilCheck_ptr, Nat.zero_add, h1.l0, h1.pile.len, Ok_some]
  exact ⟨trivial, .refl _⟩
theorem peek0_ok (h : QS W In q mh less ls nx 0 f) : omS (.func (.func 51) #[] #[]) [qV q] W = some (.tuple #[.int .i64 0, .int .i64 0, .int .i64 4], W) := by
  have hm := made_ok h
  obtain ⟨⟨lv, bl, h1, h2, h3⟩, -⟩ := h
  refine om_drop rfl ?_ heaps_Queueint_Peek_om
  unfold heaps_Queueint_Peek
  have e0 : (((0 : Nat) : Int) = 0) := rfl
  simp only [SX, hm, oNilCheck_ptr, Nat.zero_add, h1.l0, h1.pile.len, e0, Ok_some]
  exact ⟨trivial, .refl _⟩
theorem peek_ok (h : QS W In q mh less ls nx n f) (hn : 0 < n) : omS (.func (.func 51) #[] #[]) [qV q] W = some (.tuple #[.int .i64 (f 0).h, .int .i64 (f 0).v, .int .i64 0], W) := by
  have hm := made_ok h
  obtain ⟨⟨lv, bl, h1, h2, h3⟩, -⟩ := h
  refine om_drop rfl ?_ heaps_Queueint_Peek_om
  unfold heaps_Queueint_Peek
  have e0 : ¬ ((n : Int) = 0) := by omega
  obtain ⟨b, -, g1, g2⟩ := h1.pile.get hn
  have g1' : ∀ W' k, ixS 1 lv (.int k 0) W' = some (.pointer (some ⟨b, 0, none⟩), W') := g1
  obtain ⟨c1, c2⟩ := h1.pile.cell hn
  simp only [SX, hm, oNilCheck_ptr, Nat.zero_add, h1.l0, h1.pile.len, e0, g1', g2, c1, c2, Ok_some]
  exact ⟨trivial, .refl _⟩
theorem qPop0_ok (h : QS W In q mh less ls nx 0 f) : omS (.func (.func 15) #[] #[]) [qV q] W = some (.tuple #[.int .i64 0, .int .i64 0, .int .i64 4], W) := by
  refine om_drop rfl ?_ heaps_Queueint_Pop_om
  unfold heaps_Queueint_Pop
  have e4 : ¬ ((4 : Int) = 0) := by omega
  simp only [SX, peek0_ok h, e4, Ok_some]
  exact ⟨trivial, .refl _⟩
theorem qPop_ok (o : Ord (bef ls)) (hl : IsLess less ls) (h : QS W In q mh less ls nx (n + 1) f) (hn : n ≤ 10000) :
    ∃ W' g, omS (.func (.func 15) #[] #[]) [qV q] W = some (.tuple #[.int .i64 (f 0).h, .int .i64 (f 0).v, .int .i64 0], W') ∧ QS W' In q mh less ls nx n g ∧ (f 0 :: all n g).Perm (all (n + 1) f) ∧ W'.next = W.next ∧ Gr W W' In := by
  have hpk := peek_ok h (by omega)
  have main : Ok (heaps_Queueint_Pop omS (qV q) W) fun r => r.1 = .tuple #[.int .i64 (f 0).h, .int .i64 (f 0).v, .int .i64 0] ∧ ∃ g, QS r.2 In q mh less ls nx n g ∧ (f 0 :: all n g).Perm (all (n + 1) f) ∧ r.2.next = W.next ∧ Gr W r.2 In := by
    obtain ⟨⟨lv, bl, h1, h2, h3⟩, ml, mq, me, iq, im, hp, ⟨m, m1, m2, m3⟩, hd, nx1⟩ := h
    obtain ⟨W1, lv', g, p1, p2, p3, p4, p5, p6⟩ := hPop_ok o hl h1 hp hn
    have hmem : ∀ i, i < n → ∃ k, k < n + 1 ∧ f k = g i := fun i hi => all_mem.1 (p4.mem_iff.1 (List.mem_cons_of_mem _ (all_mem.2 ⟨i, hi, rfl⟩)))
    have hown : ∀ b, Own n g bl b → Own (n + 1) f bl b := fun b hb => by
      rcases hb with hb | ⟨i, hi, rfl⟩
      · exact .inl hb
      · obtain ⟨k, hk, e⟩ := hmem i hi
        exact .inr ⟨k, hk, by rw [e]⟩
    have hmo : ¬ Own (n + 1) f bl mh := fun ho => by
      rcases ho with ho | ⟨i, hi, ho⟩
      · exact h2 ho
      · exact me i hi ho
    have m1' := m1.keep (p6 mh mq hmo)
    obtain ⟨es, c, d1, d2⟩ := mapV_del m1' u107 u2 [2] (f 0).h
    rw [m2 0 (by omega)] at d2
    simp only [Option.isSome_some, if_true, Nat.add_sub_cancel] at d2
    have dd : oBuiltin Try.prog .delete #[107, 2] 0 #[false, false] [.map (some mh), .int .i64 (f 0).h] W1 = some (.tuple #[], W1.put mh (.map es c)) := by
      show (aDelete Try.prog W1 #[107, 2] (.map (some mh)) (.int .i64 (f 0).h)).map _ = _
      have : (#[107, 2] : Array TypeId) = (107 :: [2]).toArray := rfl
      rw [this, d1]; rfl
    unfold heaps_Queueint_Pop
    simp only [SX, hpk, oNilCheck_ptr, Nat.zero_add, ki103, p1, p2.l2, dd, Ok_some]
    refine ⟨trivial, g, ⟨⟨lv', bl, p2.keep (by rw [AW.put_next]; omega) fun b hb ho => AW.get_put_ne _ _ fun e => ?_, h2, fun b hb => h3 b (hown b hb)⟩, by rw [AW.put_next, p5]; exact ml, mq, fun i hi => ?_, iq, im, p3, ⟨_, d2, fun i hi => ?_, fun k v hk => ?_⟩, fun i hi => ?_, nx1⟩, p4, by rw [AW.put_next, p5], by rw [AW.put_next]; omega, fun b hb hi => ?_⟩
    · subst e
      rcases ho with ho | ho
      · exact mq ho
      · exact hmo (hown _ ho)
    · obtain ⟨k, hk, e⟩ := hmem i hi
      rw [← e]; exact me k hk
    · have hne : ¬ (g i).h = (f 0).h := fun e => by
        obtain ⟨k, hk, ek⟩ := hmem i hi
        have a1 := m2 k hk
        rw [ek, e, m2 0 (by omega)] at a1
        injection a1 with a1
        have a2 : (f 0).b = (g i).b := by injection a1 with a1; injection a1 with a1; injection a1
        have hnd : ((f 0).b :: (all n g).map (·.b)).Nodup := by
          have := (p4.map (·.b)).nodup_iff.2 ?_
          · exact this
          · unfold all
            rw [List.map_map, List.nodup_iff_pairwise_ne, List.pairwise_map]
            refine List.nodup_range.imp_of_mem fun {a b} ha hb hab e => hab (h1.pile.inj a b (List.mem_range.1 ha) (List.mem_range.1 hb) e)
        exact (List.nodup_cons.1 hnd).1 (List.mem_map.2 ⟨g i, all_mem.2 ⟨i, hi, rfl⟩, a2.symm⟩)
      obtain ⟨k, hk, ek⟩ := hmem i hi
      rw [if_neg hne, ← ek]
      exact m2 k hk
    · by_cases hk0 : k = (f 0).h
      · rw [if_pos hk0] at hk; cases hk
      · rw [if_neg hk0] at hk
        obtain ⟨i, hi, e1, e2⟩ := m3 k v hk
        have := p4.mem_iff.2 (all_mem.2 ⟨i, hi, rfl⟩)
        rcases List.mem_cons.1 this with e | hm
        · rw [e] at e1; exact absurd e1.symm hk0
        · obtain ⟨j, hj, e⟩ := all_mem.1 hm
          exact ⟨j, hj, by rw [e]; exact e1, by rw [e]; exact e2⟩
    · obtain ⟨k, hk, e⟩ := hmem i hi
      rw [← e]; exact hd k hk
    · rw [AW.get_put_ne _ _ (fun e => hi (by rw [← e]; exact im))]
      exact p6 b (fun e => hi (by rw [e]; exact iq)) fun ho => hi (h3 b ho)
  obtain ⟨⟨r, W'⟩, h1, h2, g, h3, h4, h5, h6⟩ := main
  simp only at h2 h3 h4 h5 h6
  subst h2
  rcases gc_two (W := W) (W' := W') (.tuple #[.int .i64 (f 0).h, .int .i64 (f 0).v, .int .i64 0]) with hg | ⟨hg, hle⟩
  · exact ⟨W', g, by rw [heaps_Queueint_Pop_om h1, hg], h3, h4, h5, h6⟩
  · exact ⟨W, g, by rw [heaps_Queueint_Pop_om h1, hg], h3.back h5 hle, h4, rfl, .refl _ _⟩
end
end Go.Proofs.Ytkpgmabebjmahaa
/- A queue: New and Push. -/
namespace Go.Proofs.Ytkpgmabebjmahaa
open Go Go.Eng Go.Hp
set_option linter.unusedVariables false
set_option linter.unusedSimpArgs false
set_option linter.unusedSectionVars false
set_option maxRecDepth 100000
theorem u26b : (match Try.prog.underlying 26 with | some (.func _ _ _) => true | _ => false) = true := by kernel_rfl
theorem u26 : ∃ a b c, Try.prog.underlying 26 = some (.func a b c) := by
  have h := u26b
  split at h
  · rename_i a b c e; exact ⟨a, b, c, e⟩
  · cases h
theorem fNil (k : Nat) (W : AW) : oBin Try.prog .eql 26 false true (.func (.func k) #[] #[]) .nilFunc W = some (.bool false, W) := by
  obtain ⟨a, b, c, h⟩ := u26
  unfold oBin aBin aEql; simp only [h]
theorem bd106 (k : Nat) (W : AW) : oBuild Try.prog 106 [(1, .func (.func k) #[] #[])] W = some (.agg #[.slice none 0 0, .func (.func k) #[] #[]], W) := Eq.trans (by kernel_rfl) rfl
theorem bd109 (k m : Nat) (W : AW) : oBuild Try.prog 109 [(0, .agg #[.slice none 0 0, .func (.func k) #[] #[]]), (1, .map (some m)), (2, .int .i64 1)] W = some (.agg #[.slice none 0 0, .func (.func k) #[] #[], .map (some m), .int .i64 1], W) := Eq.trans (by kernel_rfl) rfl
theorem oBox4 (a b c d : Value) (W : AW) : oBox (.agg #[a, b, c, d]) W = some (.pointer (some ⟨W.next, 0, none⟩), W.add (.cells [a, b, c, d])) := oBox_agg _
theorem oBox3 (a b c : Value) (W : AW) : oBox (.agg #[a, b, c]) W = some (.pointer (some ⟨W.next, 0, none⟩), W.add (.cells [a, b, c])) := oBox_agg _
theorem mkM (W : AW) : oMkMap Try.prog 107 none W = some (.map (some W.next), W.add (.map [] 0)) := rfl
theorem new_ok {In : Nat → Prop} {W : AW} (hi : ∀ b, W.next ≤ b → In b) (k : Nat) (ls : Int → Int → Bool) (f : Nat → En) : ∃ W' q mh, omS (.func (.func 38) #[] #[]) [.func (.func k) #[] #[]] W = some (qV q, W') ∧ QS W' In q mh (.func (.func k) #[] #[]) ls 1 0 f ∧ Gr W W' In := by
  have main : heaps_Newint omS (.func (.func k) #[] #[]) W = some (qV (W.next + 1), (W.add (.map [] 0)).add (.cells [.slice none 0 0, .func (.func k) #[] #[], .map (some W.next), .int .i64 1])) := by
    unfold heaps_Newint
    simp only [SX, fNil, bd106, mkM, bd109, oBox4]
    rfl
  have e := heaps_Newint_om main
  rw [gc_not rfl] at e
  refine ⟨_, W.next + 1, W.next, e, ⟨⟨.slice none 0 0, none, ⟨by rw [← AW.add_next W (.map [] 0)]; exact AW.get_add _ _, by simp only [AW.add_next]; omega, ⟨.nil rfl, fun i hi => by omega, fun i j hi => by omega⟩, by simp, fun i hi => by omega⟩, by simp, fun b hb => ?_⟩, by simp only [AW.add_next]; omega, by omega, fun i hi => by omega, hi _ (by omega), hi _ (by omega), fun k _ hk => by omega, ⟨_, mapV_new.keep (AW.get_add_ne _ _ (by rw [AW.add_next]; omega)), fun i hi => by omega, fun k v hk => by cases hk⟩, fun i hi => by omega, by omega⟩, by simp only [AW.add_next]; omega, fun b hb _ => ?_⟩
  · rcases hb with hb | ⟨i, hi, -⟩
    · cases hb
    · omega
  · rw [AW.get_add_ne _ _ (by rw [AW.add_next]; omega), AW.get_add_ne _ _ (by omega)]
section
variable {W : AW} {In : Nat → Prop} {q mh : Nat} {less : Value} {ls : Int → Int → Bool} {nx : Int} {n : Nat} {f : Nat → En}
theorem qPush_ok (o : Ord (bef ls)) (hl : IsLess less ls) (h : QS W In q mh less ls nx n f) (hn : n < 5000) (hnx : nx < 1000000000000000) (hi : ∀ b, W.next ≤ b → In b) (v : Int) :
    ∃ W' g, omS (.func (.func 25) #[] #[]) [qV q, .int .i64 v] W = some (.tuple #[.int .i64 nx, .int .i64 0], W') ∧ QS W' In q mh less ls (nx + 1) (n + 1) g ∧ (all (n + 1) g).Perm (⟨W.next, nx, v⟩ :: all n f) ∧ Gr W W' In := by
  have hm := made_ok h
  have main : Ok (heaps_Queueint_Push omS (qV q) (.int .i64 v) W) fun r => r.1 = .tuple #[.int .i64 nx, .int .i64 0] ∧ (∃ g, QS r.2 In q mh less ls (nx + 1) (n + 1) g ∧ (all (n + 1) g).Perm (⟨W.next, nx, v⟩ :: all n f) ∧ Gr W r.2 In) ∧ r.2.get q ≠ W.get q ∧ q < W.next := by
    obtain ⟨⟨lv, bl, h1, h2, h3⟩, ml, mq, me, iq, im, hp, ⟨m, m1, m2, m3⟩, hd, nx1⟩ := h
    have e1 : ¬ (5000 ≤ (n : Int)) := by omega
    have e2 : ¬ (1000000000000000 ≤ nx) := by omega
    have e3 := fun W' => oBin_add (P := Try.prog) (W := W') (t := 2) (c := false) (d := true) (a := nx) (b := 1) (by omega) (by omega)
    unfold heaps_Queueint_Push
    generalize hW1 : W.add (.cells [.int .i64 nx, .int .i64 v, .int .i64 0]) = W1
    have g1 : ∀ b, b < W.next → W1.get b = W.get b := fun b hb => by rw [← hW1]; exact AW.get_add_ne _ _ (by omega)
    have n1 : W1.next = W.next + 1 := by rw [← hW1, AW.add_next]
    have ge1 : W1.get W.next = some (.cells [.int .i64 nx, .int .i64 v, .int .i64 0]) := by rw [← hW1]; exact AW.get_add _ _
    have q1 : QP W1 q lv less (.map (some mh)) (.int .i64 nx) n f bl := h1.keep (by omega) fun b hb _ => g1 b hb
    have s1 := stA (v := .int .i64 (nx + 1)) (o := 3) q1.qc (by simp) rfl rfl
    rw [show ([lv, less, .map (some mh), .int .i64 nx] : List Value).set 3 (.int .i64 (nx + 1)) = [lv, less, .map (some mh), .int .i64 (nx + 1)] from rfl] at s1
    have q2 := q1.turn (c3' := .int .i64 (nx + 1))
    generalize hW2 : W1.put q (.cells [lv, less, .map (some mh), .int .i64 (nx + 1)]) = W2 at s1 q2
    have g2 : ∀ b, b ≠ q → W2.get b = W1.get b := fun b hb => by rw [← hW2]; exact AW.get_put_ne _ _ (Ne.symm hb)
    have n2 : W2.next = W.next + 1 := by rw [← hW2, AW.put_next, n1]
    have hqn : W.next ≠ q := by have := h1.lt; omega
    have ge2 : W2.get W.next = some (.cells [.int .i64 nx, .int .i64 v, .int .i64 0]) := (g2 _ hqn).trans ge1
    have m1' : MapV W2 mh m n := m1.keep (by rw [g2 _ mq, g1 _ ml])
    obtain ⟨es, c, d1, d2⟩ := mapV_set m1' u107 u2 nx (.pointer (some ⟨W.next, 0, none⟩))
    have hmn : m nx = none := by
      cases hx : m nx with
      | none => rfl
      | some v =>
        obtain ⟨i, hi, e, -⟩ := m3 nx v hx
        have := (hd i hi).2
        omega
    rw [hmn] at d2
    simp only [Option.isSome_none, Bool.false_eq_true, if_false] at d2
    generalize hW3 : W2.put mh (.map es c) = W3 at d1 d2
    have g3 : ∀ b, b ≠ mh → W3.get b = W2.get b := fun b hb => by rw [← hW3]; exact AW.get_put_ne _ _ (Ne.symm hb)
    have n3 : W3.next = W.next + 1 := by rw [← hW3, AW.put_next, n2]
    have hown : ∀ b, Own n f bl b → b < W.next := fun b hb => by
      rcases hb with hb | ⟨i, hi, rfl⟩
      · exact h1.pile.sl.lt hb
      · exact (h1.pile.en i hi).2
    have q3 : QP W3 q lv less (.map (some mh)) (.int .i64 (nx + 1)) n f bl := q2.keep (by omega) fun b hb ho => g3 b fun e => by
      subst e
      rcases ho with ho | ho | ⟨i, hi, ho⟩
      · exact mq ho
      · exact h2 ho
      · exact me i hi ho
    have ge3 : W3.get W.next = some (.cells [.int .i64 nx, .int .i64 v, .int .i64 0]) := (g3 _ (by omega)).trans ge2
    obtain ⟨W4, lv', b', g, p1, p2, p3, p4, p5, p6, p7⟩ := hPush_ok (e := ⟨W.next, nx, v⟩) o hl q3 hp (by omega) ge3 (by rw [n3]; exact Nat.lt_succ_self _) hqn (fun e => by have := hown _ (.inl e); simp at this) (fun i hi e => by have := (h1.pile.en i hi).2; simp only at e; omega)
    obtain ⟨j, hj, ej⟩ := all_mem.1 (p4.mem_iff.2 (List.mem_cons_self ..))
    have l4 : ldC (.pointer (some ⟨W.next, 0, none⟩)) W4 = some (.int .i64 nx, W4) := by
      have := (p2.pile.cell hj).1
      rw [ej] at this; exact this
    simp only [SX, hm, oNilCheck_ptr, Nat.zero_add, h1.l0, h1.l3, h1.pile.len, e1, e2, bd132, oBox3, hW1, q1.l3, e3, s1, q2.l2, ldR (o := 0) (rwOf ge2) rfl, d1, ki103, ki127, p1, l4, Ok_some]
    have hmem : ∀ i, i < n + 1 → g i = ⟨W.next, nx, v⟩ ∨ ∃ k, k < n ∧ f k = g i := fun i hi => by
      rcases List.mem_cons.1 (p4.mem_iff.1 (all_mem.2 ⟨i, hi, rfl⟩)) with e | e
      · exact .inl e
      · exact .inr (all_mem.1 e)
    have q4 : W4.get q = some (.cells [lv', less, .map (some mh), .int .i64 (nx + 1)]) := p2.qc
    refine ⟨trivial, ⟨g, ⟨⟨lv', some b', p2, fun e => by injection e with e; omega, fun b hb => ?_⟩, by omega, mq, fun i hi' => ?_, iq, im, p3, ⟨_, d2.keep (p7 mh (by omega) mq (by simp only; omega) fun ho => ?_), fun i hi' => ?_, fun k v' hk => ?_⟩, fun i hi' => ?_, by omega⟩, p4, by omega, fun b hb hni => ?_⟩, ?_, h1.lt⟩
    · rcases hb with hb | ⟨i, hi', rfl⟩
      · injection hb with hb
        exact hi b (by omega)
      · rcases hmem i hi' with e | ⟨k, hk, e⟩
        · rw [e]; exact hi _ (Nat.le_refl _)
        · rw [← e]; exact h3 _ (.inr ⟨k, hk, rfl⟩)
    · rcases hmem i hi' with e | ⟨k, hk, e⟩
      · rw [e]; simp only; omega
      · rw [← e]; exact me k hk
    · rcases ho with ho | ⟨i, hi', ho⟩
      · exact h2 ho
      · exact me i hi' ho
    · rcases hmem i hi' with e | ⟨k, hk, e⟩
      · rw [e, if_pos rfl]
      · have := (hd k hk).2
        rw [← e, if_neg (by omega)]
        exact m2 k hk
    · by_cases hk0 : k = nx
      · rw [if_pos hk0] at hk
        injection hk with hk
        exact ⟨j, hj, by rw [ej, hk0], by rw [ej, ← hk]⟩
      · rw [if_neg hk0] at hk
        obtain ⟨i, hi', x1, x2⟩ := m3 k v' hk
        obtain ⟨i2, hi2, x3⟩ := all_mem.1 (p4.mem_iff.2 (List.mem_cons_of_mem _ (all_mem.2 ⟨i, hi', rfl⟩)))
        exact ⟨i2, hi2, by rw [x3]; exact x1, by rw [x3]; exact x2⟩
    · rcases hmem i hi' with e | ⟨k, hk, e⟩
      · rw [e]; simp only; omega
      · have := hd k hk
        rw [← e]; omega
    · rw [p7 b (by omega) (fun e => hni (by rw [e]; exact iq)) (by simp only; omega) (fun ho => hni (h3 b ho)), g3 b (fun e => hni (by rw [e]; exact im)), g2 b (fun e => hni (by rw [e]; exact iq)), g1 b hb]
    · rw [q4, h1.qc]
      intro e
      injection e with e; injection e with e
      injection e with _ e; injection e with _ e; injection e with _ e; injection e with e _; injection e with _ e
      omega
  obtain ⟨⟨r, W'⟩, h1, h2, ⟨g, h3⟩, h4, h5⟩ := main
  simp only at h2 h3 h4 h5
  subst h2
  rcases gc_two (W := W) (W' := W') (.tuple #[.int .i64 nx, .int .i64 0]) with hg | ⟨hg, hle⟩
  · exact ⟨W', g, by rw [heaps_Queueint_Push_om h1, hg], h3⟩
  · exact absurd (hle.get q h5) h4
end
end Go.Proofs.Ytkpgmabebjmahaa
/- A queue: find, Get, Set, Remove. -/
namespace Go.Proofs.Ytkpgmabebjmahaa
open Go Go.Eng Go.Hp
set_option linter.unusedVariables false
set_option linter.unusedSimpArgs false
set_option linter.unusedSectionVars false
set_option maxRecDepth 100000
theorem z127 : tZero Try.prog 127 = some (.pointer none) := by kernel_rfl
def upd (f : Nat → En) (i : Nat) (v : Int) : Nat → En := fun j => if j = i then ⟨(f i).b, (f i).h, v⟩ else f j
theorem upd_b (f : Nat → En) (i : Nat) (v : Int) (j : Nat) : (upd f i v j).b = (f j).b := by
  unfold upd
  split
  · rename_i h; rw [h]
  · rfl
theorem upd_h (f : Nat → En) (i : Nat) (v : Int) (j : Nat) : (upd f i v j).h = (f j).h := by
  unfold upd
  split
  · rename_i h; rw [h]
  · rfl
theorem upd_i (f : Nat → En) (i : Nat) (v : Int) : upd f i v i = ⟨(f i).b, (f i).h, v⟩ := if_pos rfl
theorem upd_ne (f : Nat → En) {i j : Nat} (v : Int) (h : j ≠ i) : upd f i v j = f j := if_neg h
theorem enP_b {a b : En} (h : a.b = b.b) : enP a = enP b := by unfold enP; rw [h]
theorem rowE_b {n : Nat} {f g : Nat → En} (h : ∀ i, i < n → (f i).b = (g i).b) : rowE n f = rowE n g := by
  unfold rowE
  exact List.map_congr_left fun i hi => enP_b (h i (List.mem_range.1 hi))
section
variable {W : AW} {In : Nat → Prop} {q mh : Nat} {less : Value} {ls : Int → Int → Bool} {nx : Int} {n : Nat} {f : Nat → En}
theorem gc_same (v : Value) (W : AW) : gc W (v, W) = (v, W) := by
  rcases gc_two (W := W) (W' := W) v with h | ⟨h, -⟩ <;> exact h
theorem find0_ok (h : QS W In q mh less ls nx n f) {k : Int} (hk : ∀ i, i < n → (f i).h ≠ k) : omS (.func (.func 68) #[] #[]) [qV q, .int .i64 k] W = some (.tuple #[.pointer none, .int .i64 4], W) := by
  have hm := made_ok h
  obtain ⟨⟨lv, bl, h1, h2, h3⟩, ml, mq, me, iq, im, hp, ⟨m, m1, m2, m3⟩, hd, nx1⟩ := h
  have hn : m k = none := by
    cases hx : m k with
    | none => rfl
    | some v => obtain ⟨i, hi, e, -⟩ := m3 k v hx; exact absurd e (hk i hi)
  have g := mapV_get2 m1 u107 u2 z127 k
  rw [hn] at g
  have main : heaps_Queueint_find omS (qV q) (.int .i64 k) W = some (.tuple #[.pointer none, .int .i64 4], W) := by
    unfold heaps_Queueint_find
    simp only [SX, hm, oNilCheck_ptr, Nat.zero_add, h1.l2, g, Option.getD_none, Option.isSome_none]
  rw [heaps_Queueint_find_om main, gc_same]
theorem find_ok (h : QS W In q mh less ls nx n f) {i : Nat} (hi : i < n) : omS (.func (.func 68) #[] #[]) [qV q, .int .i64 (f i).h] W = some (.tuple #[enP (f i), .int .i64 0], W) := by
  have hm := made_ok h
  obtain ⟨⟨lv, bl, h1, h2, h3⟩, ml, mq, me, iq, im, hp, ⟨m, m1, m2, m3⟩, hd, nx1⟩ := h
  have g := mapV_get2 m1 u107 u2 z127 (f i).h
  rw [m2 i hi] at g
  have main : heaps_Queueint_find omS (qV q) (.int .i64 (f i).h) W = some (.tuple #[enP (f i), .int .i64 0], W) := by
    unfold heaps_Queueint_find
    simp only [SX, hm, oNilCheck_ptr, Nat.zero_add, h1.l2, g, Option.getD_some, Option.isSome_some]
  rw [heaps_Queueint_find_om main, gc_same]
theorem qGet0_ok (h : QS W In q mh less ls nx n f) {k : Int} (hk : ∀ i, i < n → (f i).h ≠ k) : omS (.func (.func 29) #[] #[]) [qV q, .int .i64 k] W = some (.tuple #[.int .i64 0, .int .i64 4], W) := by
  refine om_drop rfl ?_ heaps_Queueint_Get_om
  unfold heaps_Queueint_Get
  have e4 : ¬ ((4 : Int) = 0) := by omega
  simp only [SX, find0_ok h hk, e4, Ok_some]
  exact ⟨trivial, .refl _⟩
theorem qGet_ok (h : QS W In q mh less ls nx n f) {i : Nat} (hi : i < n) : omS (.func (.func 29) #[] #[]) [qV q, .int .i64 (f i).h] W = some (.tuple #[.int .i64 (f i).v, .int .i64 0], W) := by
  refine om_drop rfl ?_ heaps_Queueint_Get_om
  unfold heaps_Queueint_Get
  have hf := find_ok h hi
  obtain ⟨⟨lv, bl, h1, h2, h3⟩, -⟩ := h
  simp only [SX, hf, oNilCheck_ptr, Nat.zero_add, (h1.pile.cell hi).2, Ok_some]
  exact ⟨trivial, .refl _⟩
theorem qSet0_ok (h : QS W In q mh less ls nx n f) {k : Int} (hk : ∀ i, i < n → (f i).h ≠ k) (v : Int) : omS (.func (.func 26) #[] #[]) [qV q, .int .i64 k, .int .i64 v] W = some (.int .i64 4, W) := by
  refine om_drop rfl ?_ heaps_Queueint_Set_om
  unfold heaps_Queueint_Set
  have e4 : ¬ ((4 : Int) = 0) := by omega
  simp only [SX, find0_ok h hk, e4, Ok_some]
  exact ⟨trivial, .refl _⟩
theorem qRemove0_ok (h : QS W In q mh less ls nx n f) {k : Int} (hk : ∀ i, i < n → (f i).h ≠ k) : omS (.func (.func 24) #[] #[]) [qV q, .int .i64 k] W = some (.tuple #[.int .i64 0, .int .i64 4], W) := by
  refine om_drop rfl ?_ heaps_Queueint_Remove_om
  unfold heaps_Queueint_Remove
  have e4 : ¬ ((4 : Int) = 0) := by omega
  simp only [SX, find0_ok h hk, e4, Ok_some]
  exact ⟨trivial, .refl _⟩
/-- an entry's value is stored -/
theorem QP.upd {W : AW} {lv c2 c3 : Value} {bl : Option Nat} (h : QP W q lv less c2 c3 n f bl) {i : Nat} (hi : i < n) (v : Int) :
    QP (W.put (f i).b (.cells (enC ⟨(f i).b, (f i).h, v⟩ i))) q lv less c2 c3 n (upd f i v) bl := by
  obtain ⟨hqc, hql, ⟨hsl, hen, hinj⟩, hbq, heq⟩ := h
  refine ⟨by rw [AW.get_put_ne _ _ (heq i hi)]; exact hqc, by rw [AW.put_next]; exact hql, ⟨?_, fun j hj => ?_, fun j k hj hk e => ?_⟩, hbq, fun j hj => by rw [upd_b]; exact heq j hj⟩
  · have hne := hsl.ne hi
    cases hsl with
    | nil h0 => exact .nil h0
    | row b junk h1 h2 h3 =>
      refine .row b junk ?_ (by rw [AW.put_next]; exact h2) fun j hj => by rw [upd_b]; exact h3 j hj
      rw [AW.get_put_ne _ _ (fun e => hne (by rw [e])), rowE_b (g := f) fun j _ => upd_b f i v j]
      exact h1
  · rw [AW.put_next, upd_b]
    refine ⟨?_, (hen j hj).2⟩
    by_cases hji : j = i
    · subst hji
      rw [upd_i]; exact AW.get_put _ _ _
    · rw [upd_ne f v hji, AW.get_put_ne _ _ (fun e => hji (hinj j i hj hi e.symm))]
      exact (hen j hj).1
  · rw [upd_b, upd_b] at e
    exact hinj j k hj hk e
theorem qSet_ok (o : Ord (bef ls)) (hl : IsLess less ls) (h : QS W In q mh less ls nx n f) (hn : n ≤ 10000) {i : Nat} (hi : i < n) (v : Int) :
    ∃ W' g, omS (.func (.func 26) #[] #[]) [qV q, .int .i64 (f i).h, .int .i64 v] W = some (.int .i64 0, W') ∧ QS W' In q mh less ls nx n g ∧ (all n g).Perm (all n (upd f i v)) ∧ W'.next = W.next ∧ Gr W W' In := by
  have hf := find_ok h hi
  have main : Ok (heaps_Queueint_Set omS (qV q) (.int .i64 (f i).h) (.int .i64 v) W) fun r => r.1 = .int .i64 0 ∧ ∃ g, QS r.2 In q mh less ls nx n g ∧ (all n g).Perm (all n (upd f i v)) ∧ r.2.next = W.next ∧ Gr W r.2 In := by
    obtain ⟨⟨lv, bl, h1, h2, h3⟩, ml, mq, me, iq, im, hp, ⟨m, m1, m2, m3⟩, hd, nx1⟩ := h
    have s1 := stA (v := .int .i64 v) (o := 1) (h1.pile.en i hi).1 (by simp) rfl rfl
    have s1' : ((enC (f i) i).set 1 (.int .i64 v)) = enC ⟨(f i).b, (f i).h, v⟩ i := rfl
    rw [s1'] at s1
    have q1 := h1.upd hi v
    generalize hW1 : W.put (f i).b (.cells (enC ⟨(f i).b, (f i).h, v⟩ i)) = W1 at s1 q1
    have hc : W1.get (f i).b = some (.cells (enC ⟨(f i).b, (f i).h, v⟩ i)) := by rw [← hW1]; exact AW.get_put _ _ _
    obtain ⟨W2, g, p1, p2, p3, p4, p5⟩ := hFix_ok o hl q1 (by omega) hi (hp.change o fun j _ hji => upd_ne f v hji)
    have hown : ∀ b, Own n (upd f i v) bl b → Own n f bl b := fun b hb => by
      rcases hb with hb | ⟨k, hk, rfl⟩
      · exact .inl hb
      · exact .inr ⟨k, hk, (upd_b f i v k).symm⟩
    have hmem : ∀ j, j < n → ∃ k, k < n ∧ (f k).b = (g j).b ∧ (f k).h = (g j).h := fun j hj => by
      obtain ⟨k, hk, e⟩ := all_mem.1 (p5.mem_iff.1 (all_mem.2 ⟨j, hj, rfl⟩))
      exact ⟨k, hk, by rw [← e, upd_b], by rw [← e, upd_h]⟩
    have hmo : ¬ Own n f bl mh := fun ho => by
      rcases ho with ho | ⟨i, hi, ho⟩
      · exact h2 ho
      · exact me i hi ho
    unfold heaps_Queueint_Set
    simp only [SX, hf, oNilCheck_ptr, Nat.zero_add, s1, ki103, ldR (o := 2) (rwOf hc) rfl, p1, Ok_some]
    have hget : ∀ b, ¬ Own n f bl b → W2.get b = W.get b := fun b hb => by
      rw [p3.get b fun x => hb (hown b x), ← hW1, AW.get_put_ne _ _ fun e => hb (.inr ⟨i, hi, e⟩)]
    have hnx : W2.next = W.next := by rw [p3.next, ← hW1, AW.put_next]
    refine ⟨trivial, g, ⟨⟨lv, bl, p2, h2, fun b hb => h3 b ?_⟩, by omega, mq, fun j hj => ?_, iq, im, p4, ⟨m, m1.keep (hget mh hmo), fun j hj => ?_, fun k v' hk => ?_⟩, fun j hj => ?_, nx1⟩, p5, hnx, by omega, fun b hb hni => hget b fun ho => hni (h3 b ho)⟩
    · rcases hb with hb | ⟨j, hj, rfl⟩
      · exact .inl hb
      · obtain ⟨k, hk, e, -⟩ := hmem j hj
        exact .inr ⟨k, hk, e⟩
    · obtain ⟨k, hk, e, -⟩ := hmem j hj
      rw [← e]; exact me k hk
    · obtain ⟨k, hk, e1, e2⟩ := hmem j hj
      rw [← e2, m2 k hk, enP_b e1]
    · obtain ⟨j, hj, e1, e2⟩ := m3 k v' hk
      obtain ⟨k2, hk2, e3⟩ := all_mem.1 (p5.mem_iff.2 (all_mem.2 ⟨j, hj, rfl⟩))
      exact ⟨k2, hk2, by rw [e3, upd_h]; exact e1, by rw [e2]; exact (enP_b (by rw [e3, upd_b])).symm⟩
    · obtain ⟨k, hk, e1, e2⟩ := hmem j hj
      rw [← e2]; exact hd k hk
  obtain ⟨⟨r, W'⟩, h1, h2, g, h3, h4, h5, h6⟩ := main
  simp only at h2 h3 h4 h5 h6
  subst h2
  rcases gc_two (W := W) (W' := W') (.int .i64 0) with hg | ⟨hg, hle⟩
  · exact ⟨W', g, by rw [heaps_Queueint_Set_om h1, hg], h3, h4, h5, h6⟩
  · exact ⟨W, g, by rw [heaps_Queueint_Set_om h1, hg], h3.back h5 hle, h4, rfl, .refl _ _⟩
theorem qRemove_ok (o : Ord (bef ls)) (hl : IsLess less ls) (h : QS W In q mh less ls nx (n + 1) f) (hn : n ≤ 10000) {i : Nat} (hi : i < n + 1) :
    ∃ W' g, omS (.func (.func 24) #[] #[]) [qV q, .int .i64 (f i).h] W = some (.tuple #[.int .i64 (f i).v, .int .i64 0], W') ∧ QS W' In q mh less ls nx n g ∧ (f i :: all n g).Perm (all (n + 1) f) ∧ W'.next = W.next ∧ Gr W W' In := by
  have hf := find_ok h hi
  have main : Ok (heaps_Queueint_Remove omS (qV q) (.int .i64 (f i).h) W) fun r => r.1 = .tuple #[.int .i64 (f i).v, .int .i64 0] ∧ ∃ g, QS r.2 In q mh less ls nx n g ∧ (f i :: all n g).Perm (all (n + 1) f) ∧ r.2.next = W.next ∧ Gr W r.2 In := by
    obtain ⟨⟨lv, bl, h1, h2, h3⟩, ml, mq, me, iq, im, hp, ⟨m, m1, m2, m3⟩, hd, nx1⟩ := h
    obtain ⟨W1, lv', g, p1, p2, p3, p4, ⟨pp, p0⟩, p5, p6⟩ := hRemove_ok o hl h1 hp hn hi
    have hmem : ∀ j, j < n → ∃ k, k < n + 1 ∧ f k = g j := fun j hj => all_mem.1 (p4.mem_iff.1 (List.mem_cons_of_mem _ (all_mem.2 ⟨j, hj, rfl⟩)))
    have hown : ∀ b, Own n g bl b → Own (n + 1) f bl b := fun b hb => by
      rcases hb with hb | ⟨i, hi, rfl⟩
      · exact .inl hb
      · obtain ⟨k, hk, e⟩ := hmem i hi
        exact .inr ⟨k, hk, by rw [e]⟩
    have hmo : ¬ Own (n + 1) f bl mh := fun ho => by
      rcases ho with ho | ⟨i, hi, ho⟩
      · exact h2 ho
      · exact me i hi ho
    have m1' := m1.keep (p6 mh mq hmo)
    obtain ⟨es, c, d1, d2⟩ := mapV_del m1' u107 u2 [2] (f i).h
    rw [m2 i hi] at d2
    simp only [Option.isSome_some, if_true, Nat.add_sub_cancel] at d2
    have dd : oBuiltin Try.prog .delete #[107, 2] 0 #[false, false] [.map (some mh), .int .i64 (f i).h] W1 = some (.tuple #[], W1.put mh (.map es c)) := by
      show (aDelete Try.prog W1 #[107, 2] (.map (some mh)) (.int .i64 (f i).h)).map _ = _
      have : (#[107, 2] : Array TypeId) = (107 :: [2]).toArray := rfl
      rw [this, d1]; rfl
    have p0' : (W1.put mh (.map es c)).get (f i).b = some (.cells [.int .i64 (f i).h, .int .i64 (f i).v, pp]) := by
      rw [AW.get_put_ne _ _ (fun e => me i hi e.symm)]; exact p0
    unfold heaps_Queueint_Remove
    simp only [SX, hf, oNilCheck_ptr, Nat.zero_add, ki103, ldR (o := 2) (rwOf (h1.pile.en i hi).1) rfl, p1, p2.l2, dd, ldR (o := 1) (rwOf p0') rfl, Ok_some]
    refine ⟨trivial, g, ⟨⟨lv', bl, p2.keep (by rw [AW.put_next]; omega) fun b hb ho => AW.get_put_ne _ _ fun e => ?_, h2, fun b hb => h3 b (hown b hb)⟩, by rw [AW.put_next, p5]; exact ml, mq, fun i hi => ?_, iq, im, p3, ⟨_, d2, fun j hj => ?_, fun k v hk => ?_⟩, fun i hi => ?_, nx1⟩, p4, by rw [AW.put_next, p5], by rw [AW.put_next]; omega, fun b hb hi => ?_⟩
    · subst e
      rcases ho with ho | ho
      · exact mq ho
      · exact hmo (hown _ ho)
    · obtain ⟨k, hk, e⟩ := hmem i hi
      rw [← e]; exact me k hk
    · have hne : ¬ (g j).h = (f i).h := fun e => by
        obtain ⟨k, hk, ek⟩ := hmem j hj
        have a1 := m2 k hk
        rw [ek, e, m2 i hi] at a1
        injection a1 with a1
        have a2 : (f i).b = (g j).b := by injection a1 with a1; injection a1 with a1; injection a1
        have hnd : ((f i).b :: (all n g).map (·.b)).Nodup := by
          have := (p4.map (·.b)).nodup_iff.2 ?_
          · exact this
          · unfold all
            rw [List.map_map, List.nodup_iff_pairwise_ne, List.pairwise_map]
            refine List.nodup_range.imp_of_mem fun {a b} ha hb hab e => hab (h1.pile.inj a b (List.mem_range.1 ha) (List.mem_range.1 hb) e)
        exact (List.nodup_cons.1 hnd).1 (List.mem_map.2 ⟨g j, all_mem.2 ⟨j, hj, rfl⟩, a2.symm⟩)
      obtain ⟨k, hk, ek⟩ := hmem j hj
      rw [if_neg hne, ← ek]
      exact m2 k hk
    · by_cases hk0 : k = (f i).h
      · rw [if_pos hk0] at hk; cases hk
      · rw [if_neg hk0] at hk
        obtain ⟨i', hi', e1, e2⟩ := m3 k v hk
        have := p4.mem_iff.2 (all_mem.2 ⟨i', hi', rfl⟩)
        rcases List.mem_cons.1 this with e | hm
        · rw [e] at e1; exact absurd e1.symm hk0
        · obtain ⟨j, hj, e⟩ := all_mem.1 hm
          exact ⟨j, hj, by rw [e]; exact e1, by rw [e]; exact e2⟩
    · obtain ⟨k, hk, e⟩ := hmem i hi
      rw [← e]; exact hd k hk
    · rw [AW.get_put_ne _ _ (fun e => hi (by rw [← e]; exact im))]
      exact p6 b (fun e => hi (by rw [e]; exact iq)) fun ho => hi (h3 b ho)
  obtain ⟨⟨r, W'⟩, h1, h2, g, h3, h4, h5, h6⟩ := main
  simp only at h2 h3 h4 h5 h6
  subst h2
  rcases gc_two (W := W) (W' := W') (.tuple #[.int .i64 (f i).v, .int .i64 0]) with hg | ⟨hg, hle⟩
  · exact ⟨W', g, by rw [heaps_Queueint_Remove_om h1, hg], h3, h4, h5, h6⟩
  · exact ⟨W, g, by rw [heaps_Queueint_Remove_om h1, hg], h3.back h5 hle, h4, rfl, .refl _ _⟩
end
end Go.Proofs.Ytkpgmabebjmahaa
/- The law's orders, its queue, and what it has seen. -/
namespace Go.Proofs.Ytkpgmabebjmahaa
open Go Go.Eng Go.Hp
set_option linter.unusedVariables false
set_option linter.unusedSimpArgs false
set_option linter.unusedSectionVars false
set_option maxRecDepth 100000
theorem max0_ok (a b : Int) (W : AW) : oBuiltin Try.prog .max #[3, 3] 3 #[false, true] [.int .i64 a, .int .i64 b] W = some (.int .i64 (max a b), W) := by
  have e : oBuiltin Try.prog .max #[3, 3] 3 #[false, true] [.int .i64 a, .int .i64 b] W = (pureS Try.prog ([Value.int .i64 a, .int .i64 b].all plain) (builtin .max #[3, 3] 3 #[false, true] #[.int .i64 a, .int .i64 b])).map fun v => (v, W) := by
    unfold oBuiltin
    rfl
  rw [e]
  have e2 : builtin .max #[3, 3] 3 #[false, true] #[.int .i64 a, .int .i64 b] = (do pure (.value (← Builtin.max_ #[3, 3] 3 #[.int .i64 a, .int .i64 b]))) := rfl
  rw [e2]
  refine pureV ?_ rfl _ rfl
  unfold Builtin.max_
  simp only [List.foldlM_cons, List.foldlM_nil, pureRun_bind, Builtin.max2, pureRun_pure, Option.bind_some]
  congr 2
  split <;> omega
/-- an order by a number -/
def byK (kf : Int → Int) (a b : Int) : Bool := decide (kf a < kf b)
theorem byK_ord (kf : Int → Int) : Ord (bef (byK kf)) := by
  refine ⟨fun a b h => ?_, fun a b c h1 h2 => ?_⟩
  · simp only [bef, byK, Bool.or_eq_true, Bool.and_eq_true, Bool.not_eq_true', decide_eq_true_eq, decide_eq_false_iff_not, Bool.or_eq_false_iff, Bool.and_eq_false_imp] at *
    omega
  · simp only [bef, byK, Bool.or_eq_true, Bool.and_eq_true, Bool.not_eq_true', decide_eq_true_eq, decide_eq_false_iff_not, Bool.or_eq_false_iff, Bool.and_eq_false_imp] at *
    omega
def tenK (a : Int) : Int := -((max a 0).tmod 10)
theorem less_ok : IsLess (.func (.func 35) #[] #[]) (byK id) := fun a b W => by
  refine om_drop rfl ?_ law06_less_om
  unfold law06_less
  simp only [SX, Ok_some]
  exact ⟨rfl, .refl _⟩
theorem tens_ok : IsLess (.func (.func 52) #[] #[]) (byK tenK) := fun a b W => by
  refine om_drop rfl ?_ law06_tens_om
  unfold law06_tens
  have e : ∀ x W, oBin Try.prog .rem 3 false true (.int .i64 x) (.int .i64 10) W = some (.int .i64 (x.tmod 10), W) := fun x W => oBin_rem (by omega)
  simp only [SX, max0_ok, e, Ok_some]
  refine ⟨?_, .refl _⟩
  unfold byK tenK
  congr 1
  simp
/-- the order that a kind names -/
def kfOf (k : Int) : Int → Int := if k.tmod 2 = 1 then tenK else id
def lsN (k : Int) : Nat := if k.tmod 2 = 1 then 52 else 35
theorem order_ok (k : Int) (W : AW) : omS (.func (.func 14) #[] #[]) [.int .u8 k] W = some (.func (.func (lsN k)) #[] #[], W) := by
  have main : law06_order omS (.int .u8 k) W = some (.func (.func (lsN k)) #[] #[], W) := by
    unfold law06_order lsN
    have e : oBin Try.prog .rem 5 false true (.int .u8 k) (.int .u8 2) W = some (.int .u8 (k.tmod 2), W) := oBin_rem (by omega)
    by_cases h : k.tmod 2 = 1
    · simp only [SX, e, h]
      rfl
    · simp only [SX, e, h]
      rfl
  rw [law06_order_om main, gc_not rfl]
theorem isLess_of (k : Int) : IsLess (.func (.func (lsN k)) #[] #[]) (byK (kfOf k)) := by
  unfold lsN kfOf
  by_cases h : k.tmod 2 = 1
  · rw [if_pos h, if_pos h]; exact tens_ok
  · rw [if_neg h, if_neg h]; exact less_ok
theorem QS.fresh {W : AW} {In : Nat → Prop} {q mh : Nat} {less : Value} {ls : Int → Int → Bool} {nx : Int} {n : Nat} {f : Nat → En} (h : QS W In q mh less ls nx n f) {i j : Nat} (hi : i < n) (hj : j < n) (e : (f i).h = (f j).h) : i = j := by
  obtain ⟨⟨lv, bl, h1, h2, h3⟩, ml, mq, me, iq, im, hp, ⟨m, m1, m2, m3⟩, hd, nx1⟩ := h
  have a1 := m2 i hi
  rw [e, m2 j hj] at a1
  injection a1 with a1
  injection a1 with a1; injection a1 with a1; injection a1 with a1
  exact h1.pile.inj i j hi hj a1.symm
/-- what a queue of these numbers holds -/
def idx (l : List Int) : List (Int × Int) := l.zipIdx.map fun p => (((p.2 + 1 : Nat) : Int), p.1)
def hv (e : En) : Int × Int := (e.h, e.v)
/-- a row of bools -/
def bR (n : Nat) (g : Nat → Bool) : List Value := (List.range n).map fun i => .bool (g i)
theorem z4 : tZero Try.prog 4 = some (.bool false) := by kernel_rfl
theorem s4 : tSz Try.prog 4 = some 1 := by kernel_rfl
theorem b4 : (Try.prog.info? 4).map (·.bytes) = some 1 := by kernel_rfl
end Go.Proofs.Ytkpgmabebjmahaa
/- A queue's entries, sorted. -/
namespace Go.Proofs.Ytkpgmabebjmahaa
open Go Go.Eng Go.Hp
set_option linter.unusedVariables false
set_option linter.unusedSimpArgs false
set_option linter.unusedSectionVars false
set_option maxRecDepth 100000
/-! ### the orders, without what sorts by them -/
def IsLess1 (less : Value) (ls : Int → Int → Bool) : Prop := ∀ a b W, om1 less [.int .i64 a, .int .i64 b] W = some (.bool (ls a b), W)
theorem IsLess1.up {less : Value} {ls : Int → Int → Bool} (h : IsLess1 less ls) : IsLess less ls := fun a b W => om1_le _ _ _ _ (h a b W)
theorem less1_ok : IsLess1 (.func (.func 35) #[] #[]) (byK id) := fun a b W => by
  refine om_drop rfl ?_ law06_less_om1
  unfold law06_less
  simp only [SX, Ok_some]
  exact ⟨rfl, .refl _⟩
theorem tens1_ok : IsLess1 (.func (.func 52) #[] #[]) (byK tenK) := fun a b W => by
  refine om_drop rfl ?_ law06_tens_om1
  unfold law06_tens
  have e : ∀ x W, oBin Try.prog .rem 3 false true (.int .i64 x) (.int .i64 10) W = some (.int .i64 (x.tmod 10), W) := fun x W => oBin_rem (by omega)
  simp only [SX, max0_ok, e, Ok_some]
  refine ⟨?_, .refl _⟩
  unfold byK tenK
  congr 1
  simp
theorem isLess1_of (k : Int) : IsLess1 (.func (.func (lsN k)) #[] #[]) (byK (kfOf k)) := by
  unfold lsN kfOf
  by_cases h : k.tmod 2 = 1
  · rw [if_pos h, if_pos h]; exact tens1_ok
  · rw [if_neg h, if_neg h]; exact less1_ok
theorem pBefore1_ok {V : AW} {q : Nat} {lv less : Value} {ls : Int → Int → Bool} {rq ra rb : List Value} (hl : IsLess1 less ls) {a b : En} (hq : cellsAt V q = some (lv :: less :: rq)) (ha : cellsAt V a.b = some (.int .i64 a.h :: .int .i64 a.v :: ra)) (hb : cellsAt V b.b = some (.int .i64 b.h :: .int .i64 b.v :: rb)) :
    om1 (.func (.func 103) #[] #[]) [.pointer (some ⟨q, 0, none⟩), enP a, enP b] V = some (.bool (bef ls a b), V) := by
  refine om_drop rfl ?_ heaps_pileint_before_om1
  unfold heaps_pileint_before bef
  have q1 : ldC (.pointer (some ⟨q, 1, none⟩)) V = some (less, V) := ldC_ok hq rfl
  have a1 : ldC (.pointer (some ⟨a.b, 0, none⟩)) V = some (.int .i64 a.h, V) := ldC_ok ha rfl
  have a2 : ldC (.pointer (some ⟨a.b, 1, none⟩)) V = some (.int .i64 a.v, V) := ldC_ok ha rfl
  have b1 : ldC (.pointer (some ⟨b.b, 0, none⟩)) V = some (.int .i64 b.h, V) := ldC_ok hb rfl
  have b2 : ldC (.pointer (some ⟨b.b, 1, none⟩)) V = some (.int .i64 b.v, V) := ldC_ok hb rfl
  simp only [SX, oNilCheck_ptr, Nat.zero_add, q1, a2, b2, hl a.v b.v]
  cases ls a.v b.v
  case true =>
    simp only [SX, Ok_some]
    exact ⟨by simp, .refl _⟩
  simp only [SX, oNilCheck_ptr, Nat.zero_add, q1, a2, b2, hl b.v a.v]
  cases ls b.v a.v
  case true =>
    simp only [SX, Ok_some]
    exact ⟨by simp, .refl _⟩
  simp only [SX, oNilCheck_ptr, Nat.zero_add, a1, b1, Ok_some]
  exact ⟨by simp, .refl _⟩
/-! ### the copy -/
theorem u104 : Try.prog.underlying 104 = some (.slice 127) := by kernel_rfl
theorem sNil (c d : Bool) (l k : Nat) (W : AW) : oBin Try.prog .eql 104 c d (.slice none l k) (.slice none 0 0) W = some (.bool true, W) := by
  unfold oBin aBin aEql; simp only [u104]; rfl
theorem sSome (c d : Bool) (a : Addr) (l k : Nat) (W : AW) : oBin Try.prog .eql 104 c d (.slice (some a) l k) (.slice none 0 0) W = some (.bool false, W) := by
  unfold oBin aBin aEql; simp only [u104]
theorem bs104_0 (W : AW) : oBuildSlice Try.prog 104 0 [] W = some (.slice (some ⟨W.next, 0, none⟩) 0 0, W.add (.cells [])) := Eq.trans (by kernel_rfl) rfl
section
variable {P : Program} {W : AW}
/-- append onto an empty literal -/
theorem app_lit0 {ts : Array TypeId} {z bytes : Nat} (hk : appOk P ts z bytes = true) {b o n c : Nat} {cs new : List Value} (hc : cellsAt W b = some cs) (hn : new = (cs.drop o).take (n * z)) (hl : new.length = n * z) (h0 : 0 < n) (h1 : new.all Eng.one = true)
    {a : Addr} (hb : n < 1099511627776) (hb2 : (2 * n + 192) * bytes ≤ 281474976710656) :
    aAppend P W ts (.slice (some a) 0 0) (.slice (some ⟨b, o, none⟩) n c) = some (.slice (some ⟨W.next, 0, none⟩) n (BIG + z), W.add (.cells new)) := by
  obtain ⟨t, e, zv, k1, k2, k3, k4, k5, k6⟩ := appOk_inv hk
  have hr : readN W b o (n * z) = some new := by rw [readN_def, hc]; simp only; rw [if_pos (by rw [← hn]; exact hl), hn]
  have hr1 : readSlice W (.slice (some ⟨b, o, none⟩) n c) (n * z) = some new := by
    unfold readSlice
    simp only
    rw [if_neg (by have := Nat.mul_pos h0 k5; omega), if_neg (by omega)]
    exact hr
  have hr2 : readSlice W (.slice (some a) 0 0) (0 * z) = some [] := by
    unfold readSlice
    simp
  have hB : 0 < BIG := by unfold BIG; omega
  have hB2 : ¬ 0 = BIG + z := by unfold BIG; omega
  unfold aAppend
  simp only [k1, k2, k3, k4, if_true, Nat.zero_add, if_pos (And.intro k5 (And.intro k6 (And.intro hb hb2))), if_neg (show ¬ n = 0 by omega), hr1, hr2, h1, if_neg hB2, if_pos hB, if_neg (show ¬ n ≤ 0 by omega), AW.new_eq, List.nil_append]
theorem app_none {ts : Array TypeId} {z bytes : Nat} (hk : appOk P ts z bytes = true) {a a2 : Option Addr} {l c c2 : Nat} (h : l ≤ c) (hb : l < 1099511627776) (hb2 : (2 * l + 192) * bytes ≤ 281474976710656) :
    aAppend P W ts (.slice a l c) (.slice a2 0 c2) = some (.slice a l c, W) := by
  obtain ⟨t, e, zv, k1, k2, k3, k4, k5, k6⟩ := appOk_inv hk
  unfold aAppend
  simp only [k1, k2, k3, k4, if_true, Nat.add_zero, if_pos (And.intro k5 (And.intro k6 (And.intro hb hb2))), if_pos h]
end
theorem rowE_one (n : Nat) (f : Nat → En) : (rowE n f).all Eng.one = true := by
  unfold rowE
  rw [List.all_map, List.all_eq_true]
  intro i _
  rfl
theorem clone_ok {W : AW} {n : Nat} {f : Nat → En} {lv : Value} {bl : Option Nat} (h : SlAt W n f lv bl) (hn : n ≤ 10000) :
    ∃ v W', omS (.func (.func 100) #[] #[]) [lv] W = some (v, W') ∧ Le W W' ∧ ((n = 0 ∧ ∃ a c, v = .slice a 0 c) ∨ (0 < n ∧ ∃ b, W.next ≤ b ∧ b < W'.next ∧ v = .slice (some ⟨b, 0, none⟩) n (BIG + 1) ∧ W'.get b = some (.cells (rowE n f)))) := by
  cases h with
  | nil h0 =>
    have main : slices_Cloneheaps_entryintheaps_entryint omS (.slice none 0 0) W = some (.slice none 0 0, W) := by
      unfold slices_Cloneheaps_entryintheaps_entryint
      simp only [SX, sNil]
    exact ⟨_, W, by rw [slices_Cloneheaps_entryintheaps_entryint_om main, gc_same], .refl _, .inl ⟨h0, _, _, rfl⟩⟩
  | row bl junk h1 h2 h3 =>
    have hc : cellsAt (W.add (.cells [])) bl = some (rowE n f ++ junk) := by rw [cellsAt_add _ h2]; exact cellsAt_of h1
    by_cases h0 : n = 0
    · subst h0
      have e := app_none (P := Try.prog) (W := W.add (.cells [])) (ts := #[104, 104]) ap104 (a := some ⟨W.next, 0, none⟩) (a2 := some ⟨bl, 0, none⟩) (l := 0) (c := 0) (c2 := BIG + 1) (by omega) (by omega) (by omega)
      have main : slices_Cloneheaps_entryintheaps_entryint omS (.slice (some ⟨bl, 0, none⟩) 0 (BIG + 1)) W = some (.slice (some ⟨W.next, 0, none⟩) 0 0, W.add (.cells [])) := by
        unfold slices_Cloneheaps_entryintheaps_entryint
        simp only [SX, sSome, bs104_0, e]
      refine ⟨_, W.add (.cells []), by rw [slices_Cloneheaps_entryintheaps_entryint_om main, gc_not rfl], (Le.refl _).add _, .inl ⟨rfl, _, _, rfl⟩⟩
    · have e := app_lit0 (P := Try.prog) (W := W.add (.cells [])) (ts := #[104, 104]) ap104 (b := bl) (o := 0) (n := n) (c := BIG + 1) (new := rowE n f) hc (by rw [List.drop_zero, Nat.mul_one, List.take_append_of_le_length (by rw [rowE_len]; omega), List.take_of_length_le (by rw [rowE_len]; omega)]) (by rw [rowE_len]; omega) (by omega) (rowE_one n f) (a := ⟨W.next, 0, none⟩) (by omega) (by omega)
      have main : slices_Cloneheaps_entryintheaps_entryint omS (.slice (some ⟨bl, 0, none⟩) n (BIG + 1)) W = some (.slice (some ⟨W.next + 1, 0, none⟩) n (BIG + 1), (W.add (.cells [])).add (.cells (rowE n f))) := by
        unfold slices_Cloneheaps_entryintheaps_entryint
        simp only [SX, sSome, bs104_0, e, AW.add_next]
      refine ⟨_, _, by rw [slices_Cloneheaps_entryintheaps_entryint_om main, gc_not rfl], ((Le.refl _).add _).add _, .inr ⟨by omega, W.next + 1, by omega, by simp only [AW.add_next]; omega, rfl, ?_⟩⟩
      have := (W.add (.cells [])).get_add (.cells (rowE n f))
      rw [AW.add_next] at this
      exact this
end Go.Proofs.Ytkpgmabebjmahaa
/- A queue's entries, sorted: what the library sorts. -/
namespace Go.Proofs.Ytkpgmabebjmahaa
open Go Go.Eng Go.Hp
set_option linter.unusedVariables false
set_option linter.unusedSimpArgs false
set_option linter.unusedSectionVars false
set_option maxRecDepth 100000
/-! ### items -/
def befP (ls : Int → Int → Bool) (a b : Int × Int) : Bool := ls a.2 b.2 || (!ls b.2 a.2 && decide (a.1 < b.1))
def itC (x : Int × Int) : List Value := [.int .i64 x.1, .int .i64 x.2]
def itAt (cs : List Value) (p : Nat) (x : Int × Int) : Prop := cs[p]? = some (.int .i64 x.1) ∧ cs[p + 1]? = some (.int .i64 x.2)
abbrev Items (W : AW) (v : Value) (l : List (Int × Int)) : Prop := Row W 2 itAt v l
theorem itC_len (x : Int × Int) : (itC x).length = 2 := rfl
theorem itC_one (x : Int × Int) : (itC x).all Eng.one = true := rfl
theorem itC_at (x : Int × Int) (pre post : List Value) : itAt (pre ++ (itC x ++ post)) pre.length x := by
  unfold itAt itC
  constructor
  · rw [List.getElem?_append_right (Nat.le_refl _), Nat.sub_self]; rfl
  · rw [List.getElem?_append_right (by omega), Nat.add_sub_cancel_left]; rfl
theorem Lst.items {lo : Nat} {W : AW} {v : Value} {l : List (Int × Int)} (h : Lst lo W 2 itC v l) : Items W v l := h.row itC_len itC_at
theorem ap58 : appOk Try.prog #[58, 58] 2 16 = true := by kernel_rfl
theorem bd65 (a b : Int) (W : AW) : oBuild Try.prog 65 [(0, .int .i64 a), (1, .int .i64 b)] W = some (.agg #[.int .i64 a, .int .i64 b], W) := Eq.trans (by kernel_rfl) rfl
theorem bs58 (a b : Int) (W : AW) : oBuildSlice Try.prog 58 1 [(0, .agg #[.int .i64 a, .int .i64 b])] W = some (.slice (some ⟨W.next, 0, none⟩) 1 1, W.add (.cells [.int .i64 a, .int .i64 b])) := Eq.trans (by kernel_rfl) rfl
theorem body102 : HasBody Try.prog 102 := ⟨_, _, Try.func102, by kernel_rfl, rfl⟩
/-- the order of the entries, as the library asks it -/
def cfE (ls : Int → Int → Bool) (f : Nat → En) (i j : Nat) : Int := if (f i).b = (f j).b then 0 else if bef ls (f i) (f j) then -1 else 1
theorem bef_trans {α : Type} {lt : α → α → Bool} (o : Ord lt) {a b c : α} (h1 : lt a b = true) (h2 : lt b c = true) : lt a c = true := by
  cases h : lt a c with
  | true => rfl
  | false =>
    have := o.neg b c a (o.asym _ _ h2) h
    rw [h1] at this; cases this
theorem cfE_lt {ls : Int → Int → Bool} (o : Ord (bef ls)) {f : Nat → En} {n : Nat} (hinj : ∀ i j, i < n → j < n → (f i).b = (f j).b → i = j) {i j : Nat} (hi : i < n) (hj : j < n) : cfE ls f i j < 0 ↔ bef ls (f i) (f j) = true := by
  unfold cfE
  by_cases h : (f i).b = (f j).b
  · obtain rfl := hinj i j hi hj h
    rw [if_pos rfl, ord_irr o]
    simp
  · rw [if_neg h]
    cases bef ls (f i) (f j) <;> simp
theorem cfE_ord {ls : Int → Int → Bool} (o : Ord (bef ls)) {f : Nat → En} {n : Nat} (hinj : ∀ i j, i < n → j < n → (f i).b = (f j).b → i = j) : OrdN n (cfE ls f) where
  irrefl i hi h := by
    rw [cfE_lt o hinj hi hi, ord_irr o] at h; cases h
  trans i j l hi hj hl h1 h2 := by
    rw [cfE_lt o hinj hi hj] at h1
    rw [cfE_lt o hinj hj hl] at h2
    rw [cfE_lt o hinj hi hl]
    exact bef_trans o h1 h2
  ntrans i j l hi hj hl h1 h2 := by
    rw [cfE_lt o hinj hi hj, Bool.not_eq_true] at h1
    rw [cfE_lt o hinj hj hl, Bool.not_eq_true] at h2
    rw [cfE_lt o hinj hi hl, Bool.not_eq_true]
    exact o.neg _ _ _ h2 h1
theorem flat1 (l : List En) : (l.map fun e => [enP e]).flatten = l.map enP := by
  induction l with
  | nil => rfl
  | cons a l ih => rw [List.map_cons, List.flatten_cons, ih]; rfl
theorem rowE_all (n : Nat) (f : Nat → En) : rowE n f = (all n f).map enP := by
  unfold rowE all
  rw [List.map_map]; rfl
section
variable {q : Nat} {lv less c2 c3 : Value} {n : Nat} {f : Nat → En} {bl : Option Nat} {ls : Int → Int → Bool}
/-- the entries of a copy are sorted -/
theorem sortE_ok (o : Ord (bef ls)) (hl : IsLess1 less ls) (hlz : ∀ D, liesD D less) {V : AW} (h : QP V q lv less c2 c3 n f bl) (hn : n ≤ 10000) (h0 : 0 < n) {b X : Nat} (hb : V.get b = some (.cells (rowE n f))) (hbl : b < V.next) (hbq : b ≠ q) (hbb : bl ≠ some b) (hbe : ∀ i, i < n → (f i).b ≠ b) (hX : V.get X = some (.cells [.pointer (some ⟨q, 0, none⟩)])) (hXl : X < V.next) (hXb : X ≠ b) :
    ∃ es : List En, es.Perm (all n f) ∧ es.Pairwise (fun x y => bef ls y x = false) ∧ omS (.func (.func 101) #[] #[]) [.slice (some ⟨b, 0, none⟩) n (BIG + 1), .func (.func 102) #[] #[.pointer (some ⟨X, 0, none⟩)]] V = some (.tuple #[], V.put b (.cells (es.map enP))) := by
  obtain ⟨hqc, hql, ⟨hsl, hen, hinj⟩, hbq', heq⟩ := h
  have hlen : (all n f).length = n := all_len n f
  have hget : ∀ i (hi : i < (all n f).length), (all n f)[i] = f i := fun i hi => by simp [all]
  obtain ⟨es, e1, e2, e3⟩ := sortR_of (all n f) (fun e => [enP e]) (bef ls) (cf := cfE ls f) (by rw [hlen]; exact cfE_ord o hinj) (by omega) fun i j hi hj => by
    rw [hget, hget]
    exact cfE_lt o hinj (by omega) (by omega)
  refine ⟨es, e1, e2, ?_⟩
  -- what the view holds
  have vQ : ∃ r, cellsAt (roV V b) q = some ([lv, less] ++ r) := by
    obtain ⟨r, hr⟩ := roV_has (W := V) (b0 := b) (x := q) (cs := [lv, less]) (rest := [c2, c3]) (.inl hqc) hql (Ne.symm hbq) fun v hv => by
      rcases List.mem_cons.1 hv with rfl | hv
      · cases hsl with
        | nil h0 => exact liesD_snil
        | row bl junk h1 h2 h3 => exact liesD_slice ⟨fun e => hbb (congrArg some e), _, .inl h1⟩
      · obtain rfl := List.mem_singleton.1 hv
        exact hlz _
    exact ⟨r, by unfold cellsAt; rw [hr]⟩
  obtain ⟨rq, vQ⟩ := vQ
  have vX : ∃ r, cellsAt (roV V b) X = some ([.pointer (some ⟨q, 0, none⟩)] ++ r) := by
    obtain ⟨r, hr⟩ := roV_has (W := V) (b0 := b) (x := X) (cs := [.pointer (some ⟨q, 0, none⟩)]) (rest := []) (.inl hX) hXl hXb fun v hv => by
      obtain rfl := List.mem_singleton.1 hv
      exact liesD_ptr ⟨Ne.symm hbq, _, .inl hqc⟩
    exact ⟨r, by unfold cellsAt; rw [hr]⟩
  obtain ⟨rX, vX⟩ := vX
  have vE : ∀ i, i < n → ∃ r, cellsAt (roV V b) (f i).b = some (.int .i64 (f i).h :: .int .i64 (f i).v :: r) := fun i hi => by
    obtain ⟨r, hr⟩ := roV_has (W := V) (b0 := b) (x := (f i).b) (cs := enC (f i) i) (rest := []) (.inl (by rw [List.append_nil]; exact (hen i hi).1)) (hen i hi).2 (hbe i hi) fun v hv => liesD_plain (by
      simp only [enC, List.mem_cons, List.not_mem_nil, or_false] at hv
      rcases hv with rfl | rfl | rfl <;> rfl)
    exact ⟨.int .i64 (i : Int) :: r, by unfold cellsAt; rw [hr]; rfl⟩
  have key : SortFA Try.prog (ansPtr om1 102 103) [] false 1 V [.slice (some ⟨b, 0, none⟩) n (BIG + 1), .func (.func 102) #[] #[.pointer (some ⟨X, 0, none⟩)]] (V.put b (.cells (es.map enP))) := by
    refine .inr ⟨b, BIG + 1, (all n f).map fun e => [enP e], [], 102, #[.pointer (some ⟨X, 0, none⟩)], cfE ls f, ⟨?_, ?_, ?_, ?_, ?_, ?_, ?_, ?_, ?_, body102, ?_, ?_, ?_⟩⟩
    · intro h
      have := congrArg List.length h
      rw [List.length_map, hlen] at this
      simp at this; omega
    · rw [List.length_map, hlen]; omega
    · intro r hr
      obtain ⟨e, -, rfl⟩ := List.mem_map.1 hr
      rfl
    · intro r hr v hv
      obtain ⟨e, -, rfl⟩ := List.mem_map.1 hr
      obtain rfl := List.mem_singleton.1 hv
      rfl
    · rw [List.length_map, hlen]
    · rw [flat1, List.append_nil, ← rowE_all]; exact hb
    · intro r hr v hv
      obtain ⟨e, he, rfl⟩ := List.mem_map.1 hr
      obtain rfl := List.mem_singleton.1 hv
      obtain ⟨i, hi, rfl⟩ := all_mem.1 he
      exact liesD_ptr ⟨hbe i hi, _, .inl (hen i hi).1⟩
    · intro v hv
      obtain rfl : v = .pointer (some ⟨X, 0, none⟩) := by simpa using hv
      exact liesD_ptr ⟨hXb, _, .inl hX⟩
    · intro g hg; cases hg
    · intro i j hi hj
      rw [List.length_map] at hi hj
      rw [List.getElem_map, List.getElem_map, hget, hget]
      rw [hlen] at hi hj
      obtain ⟨ri, hri⟩ := vE i hi
      obtain ⟨rj, hrj⟩ := vE j hj
      have hbo := pBefore1_ok (rq := rq) hl vQ hri hrj
      show ansPtr om1 102 103 V b 102 #[.pointer (some ⟨X, 0, none⟩)] (enP (f i)) (enP (f j)) = _
      unfold ansPtr cfE
      simp only [if_true, enP]
      rw [show (cellsAt (roV V b) X).bind (fun x => x[0]?) = some (.pointer (some ⟨q, 0, none⟩)) by rw [vX]; rfl]
      simp only
      by_cases hij : (f i).b = (f j).b
      · rw [if_pos (by rw [hij]), if_pos hij]
      · rw [if_neg (fun e => hij (by injection e)), if_neg hij, (hen i hi).1, (hen j hj).1]
        simp only
        rw [if_pos ⟨hij, by simp, by simp⟩]
        have hbo' : om1 (.func (.func 103) #[] #[]) [.pointer (some ⟨q, 0, none⟩), .pointer (some ⟨(f i).b, 0, none⟩), .pointer (some ⟨(f j).b, 0, none⟩)] (roV V b) = some (.bool (bef ls (f i) (f j)), roV V b) := hbo
        rw [hbo']
    · rw [List.length_map, hlen]; exact cfE_ord o hinj
    · rw [e3, flat1, List.append_nil]
  exact sort101_ok key
end
end Go.Proofs.Ytkpgmabebjmahaa
/- A queue's entries, sorted; Save. -/
namespace Go.Proofs.Ytkpgmabebjmahaa
open Go Go.Eng Go.Hp
set_option linter.unusedVariables false
set_option linter.unusedSimpArgs false
set_option linter.unusedSectionVars false
set_option maxRecDepth 100000
theorem len104 : ((#[104] : Array TypeId)[0]?).bind Try.prog.underlying = some (.slice 127) := by kernel_rfl
theorem Lst.low {α : Type} {lo lo' z : Nat} {W : AW} {f : α → List Value} {v : Value} {l : List α} (h : Lst lo W z f v l) (hl : lo' ≤ lo) : Lst lo' W z f v l := by
  rcases h with h | ⟨h0, B, h1, h2⟩
  · exact .inl h
  · exact .inr ⟨h0, B, by omega, h2⟩
theorem om_lst {α : Type} {o t : Option (Value × AW)} {W : AW} {lo z : Nat} {f : α → List Value} {l : List α} (h : Ok t fun r => Le W r.2 ∧ Lst lo r.2 z f r.1 l) (hom : ∀ {r}, t = some r → o = some (gc W r)) : ∃ v W2, o = some (v, W2) ∧ Le W W2 ∧ Lst lo W2 z f v l := by
  obtain ⟨⟨v, W'⟩, h1, h2, h3⟩ := h
  rcases h3 with ⟨rfl, rfl⟩ | ⟨h0, B, h4, h5, rfl, h6⟩
  · rcases gc_two (W := W) (W' := W') (.slice none 0 0) with hg | ⟨hg, hle⟩
    · exact ⟨_, W', by rw [hom h1]; exact congrArg some hg, h2, .nil _ _ _ _⟩
    · exact ⟨_, W, by rw [hom h1]; exact congrArg some hg, .refl _, .nil _ _ _ _⟩
  · exact ⟨_, W', by rw [hom h1, gc_not rfl], h2, .inr ⟨h0, B, h4, h5, rfl, h6⟩⟩
/-- sorted items of a queue -/
structure Srt (ls : Int → Int → Bool) (n : Nat) (f : Nat → En) (l : List (Int × Int)) : Prop where
  perm : l.Perm ((all n f).map hv)
  sort : l.Pairwise fun a b => befP ls b a = false
section
variable {W : AW} {In : Nat → Prop} {q mh : Nat} {less : Value} {ls : Int → Int → Bool} {nx : Int} {n : Nat} {f : Nat → En}
theorem sorted_ok (o : Ord (bef ls)) (hl : IsLess1 less ls) (hlz : ∀ D, liesD D less) (h : QS W In q mh less ls nx n f) (hn : n ≤ 10000) :
    ∃ W' v l, omS (.func (.func 67) #[] #[]) [qV q] W = some (v, W') ∧ Le W W' ∧ Lst W.next W' 2 itC v l ∧ Srt ls n f l := by
  have main : ∃ l, Srt ls n f l ∧ Ok (heaps_Queueint_sorted omS (qV q) W) fun r => Le W r.2 ∧ Lst W.next r.2 2 itC r.1 l := by
    obtain ⟨⟨lv, bl, h1, h2, h3⟩, -⟩ := h
    have oBoxP : ∀ W, oBox (qV q) W = some (.pointer (some ⟨W.next, 0, none⟩), W.add (.cells [qV q])) := fun W => rfl
    generalize hW1 : W.add (.cells [qV q]) = W1
    have g1 : ∀ b, b < W.next → W1.get b = W.get b := fun b hb => by rw [← hW1]; exact AW.get_add_ne _ _ (by omega)
    have n1 : W1.next = W.next + 1 := by rw [← hW1, AW.add_next]
    have l1 : Le W W1 := by rw [← hW1]; exact (Le.refl _).add _
    have x1 : W1.get W.next = some (.cells [qV q]) := by rw [← hW1]; exact AW.get_add _ _
    have q1 : QP W1 q lv less (.map (some mh)) (.int .i64 nx) n f bl := h1.keep (by omega) fun b hb _ => g1 b hb
    obtain ⟨v1, W2, c1, c2, c3⟩ := clone_ok q1.pile.sl hn
    have q2 : QP W2 q lv less (.map (some mh)) (.int .i64 nx) n f bl := q1.keep c2.next fun b hb _ => c2.get b hb
    have x2 : W2.get W.next = some (.cells [qV q]) := (c2.get _ (by omega)).trans x1
    have hbn : ∀ b, bl = some b → b < W1.next := fun b hb => q1.pile.sl.lt hb
    -- the sort
    have hs : ∃ (es : List En) (W3 : AW), es.Perm (all n f) ∧ es.Pairwise (fun x y => bef ls y x = false) ∧ omS (.func (.func 101) #[] #[]) [v1, .func (.func 102) #[] #[.pointer (some ⟨W.next, 0, none⟩)]] W2 = some (.tuple #[], W3) ∧ W3.next = W2.next ∧ (∀ b, b < W1.next → W3.get b = W2.get b) ∧
        (∀ W', oBuiltin Try.prog .len #[104] 3 #[false] [v1] W' = some (.int .i64 (n : Int), W')) ∧ ∀ i (hi : i < es.length), ∃ b, (∀ W' k, ixS 1 v1 (.int k (i : Int)) W' = some (.pointer (some ⟨b, i, none⟩), W')) ∧ ∀ W', Le W3 W' → ldC (.pointer (some ⟨b, i, none⟩)) W' = some (enP es[i], W') := by
      rcases c3 with ⟨rfl, a, c, rfl⟩ | ⟨h0, b, b1, b2, rfl, b3⟩
      · refine ⟨[], W2, .refl _, .nil, sort101_ok (.inl ⟨a, c, _, rfl, rfl⟩), rfl, fun _ _ => rfl, fun W' => len_slice len104 _ _ _, fun i hi => by simp at hi⟩
      · obtain ⟨es, e1, e2, e3⟩ := sortE_ok o hl hlz q2 hn h0 b3 b2 (by have := q1.lt; omega) (fun e => by have := hbn b e; omega) (fun i hi e => by have := (q1.pile.en i hi).2; omega) x2 (by have := c2.next; omega) (by omega)
        have hlen : es.length = n := by rw [e1.length_eq, all_len]
        refine ⟨es, _, e1, e2, e3, by rw [AW.put_next], fun d hd => AW.get_put_ne _ _ (by omega), fun W' => len_slice len104 _ _ _, fun i hi => ⟨b, fun W' k => by rw [ixS_ok (by omega), Nat.zero_add, Nat.mul_one], fun W' hle => ldR (rwOf (cs := es.map enP) ?_) ?_⟩⟩
        · rw [hle.get b (by rw [AW.put_next]; exact b2)]
          exact AW.get_put _ _ _
        · rw [List.getElem?_map, List.getElem?_eq_getElem hi]; rfl
    obtain ⟨es, W3, e1, e2, e3, n3, g3, e4, e5⟩ := hs
    have hlen : es.length = n := by rw [e1.length_eq, all_len]
    have l3 : Le W1 W3 := ⟨by rw [n3]; exact c2.next, fun b hb => by rw [g3 b hb]; exact c2.get b hb⟩
    have hcell : ∀ i (hi : i < es.length) W', Le W3 W' → ldC (.pointer (some ⟨es[i].b, 0, none⟩)) W' = some (.int .i64 es[i].h, W') ∧ ldC (.pointer (some ⟨es[i].b, 1, none⟩)) W' = some (.int .i64 es[i].v, W') := fun i hi W' hle => by
      obtain ⟨k, hk, e⟩ := all_mem.1 (e1.mem_iff.1 (List.getElem_mem hi))
      have hc : W'.get (f k).b = some (.cells (enC (f k) k)) := by
        have := q1.pile.en k hk
        rw [hle.get _ (Nat.lt_of_lt_of_le this.2 l3.next), l3.get _ this.2]
        exact this.1
      rw [← e]
      exact ⟨ldR (rwOf hc) rfl, ldR (rwOf hc) rfl⟩
    refine ⟨es.map hv, ⟨e1.map hv, by rw [List.pairwise_map]; exact e2⟩, ?_⟩
    unfold heaps_Queueint_sorted
    simp only [SX, oBoxP, hW1, ldR (o := 0) (rwOf x1) rfl, oNilCheck_ptr, Nat.zero_add, q1.l0, c1, e3, e4]
    refine Ok_loop n (by omega) (fun k R W' => ∃ out, R 16 = v1 ∧ R 17 = .int .i64 (n : Int) ∧ R 18 = .int .i64 (k : Int) ∧ R 4 = out ∧ Le W3 W' ∧ Lst W3.next W' 2 itC out ((es.take k).map hv))
      (fun r => r.1 = .exit 0 ∧ ∃ out, r.2.1 4 = out ∧ Le W3 r.2.2 ∧ Lst W.next r.2.2 2 itC out (es.map hv)) ⟨_, rfl, rfl, rfl, rfl, .refl _, .nil _ _ _ _⟩ ?_ ?_ ?_
    · rintro k R W' hk ⟨out, r16, r17, r18, r4, hle, hL⟩
      unfold heaps_Queueint_sorted_L1
      have hke : k < es.length := by omega
      obtain ⟨b, f1, f2⟩ := e5 k hke
      obtain ⟨d1, d2⟩ := hcell k hke W' hle
      have t1 : ((k : Int) < (n : Int)) := by omega
      have t2 := fun W' => oBin_add (P := Try.prog) (W := W') (t := 3) (c := false) (d := true) (a := (k : Int)) (b := 1) (by omega) (by omega)
      have hlt : ((es.take k).map hv).length = k := by rw [List.length_map, List.length_take]; omega
      obtain ⟨v', W4, p1, p2, p3, p4⟩ := (hL.mono ((Le.refl W').add (.cells (itC (hv es[k]))))).push (a := hv es[k]) (b := W'.next) (c := 1) ap58 itC_len itC_one cellsAt_new (by rw [hlt]; omega) (by rw [hlt]; omega) (by rw [AW.add_next]; have := hle.next; omega)
      simp only [SX, r16, r17, r18, r4, t1, f1, f2 W' hle, oNilCheck_ptr, Nat.zero_add, d1, d2, bd65, bs58]
      have p1' : aAppend Try.prog (W'.add (.cells [.int .i64 es[k].h, .int .i64 es[k].v])) #[58, 58] out (.slice (some ⟨W'.next, 0, none⟩) 1 1) = some (v', W4) := p1
      simp only [SX, p1', t2, Ok_some]
      refine .inl ⟨trivial, v', r16, r17, by rw [show ((k + 1 : Nat) : Int) = (k : Int) + 1 by omega]; rfl, rfl, p4 _ (hle.add _) (Nat.le_refl _), ?_⟩
      rw [List.take_succ_eq_append_getElem hke, List.map_append]
      exact p2
    · rintro R W' ⟨out, r16, r17, r18, r4, hle, hL⟩
      unfold heaps_Queueint_sorted_L1
      have t1 : ¬ ((n : Int) < (n : Int)) := by omega
      simp only [SX, r16, r17, r18, t1, Ok_some]
      rw [List.take_of_length_le (by omega)] at hL
      exact ⟨by simp, trivial, out, r4, hle, Lst.low hL (by have := l3.next; omega)⟩
    · rintro ⟨x, R, W'⟩ ⟨hx, out, r4, hle, hL⟩
      simp only at hx r4 hle hL
      subst hx
      simp only [SX, r4, Ok_some]
      exact ⟨(l1.trans l3).trans hle, hL⟩
  obtain ⟨l, hs, main⟩ := main
  obtain ⟨v, W2, k1, k2, k3⟩ := om_lst main heaps_Queueint_sorted_om
  exact ⟨W2, v, l, k1, k2, k3, hs⟩
end
end Go.Proofs.Ytkpgmabebjmahaa
/- A queue: Save, All. -/
namespace Go.Proofs.Ytkpgmabebjmahaa
open Go Go.Eng Go.Hp
set_option linter.unusedVariables false
set_option linter.unusedSimpArgs false
set_option linter.unusedSectionVars false
set_option maxRecDepth 100000
theorem al60 (W : AW) : oAlloc Try.prog 60 W = some (.pointer (some ⟨W.next, 0, none⟩), W.add (.cells [.int .i64 0, .slice none 0 0])) := Eq.trans (by kernel_rfl) rfl
theorem bd60 (x : Int) (a : Option Addr) (l c : Nat) (W : AW) : oBuild Try.prog 60 [(0, .int .i64 x), (1, .slice a l c)] W = some (.agg #[.int .i64 x, .slice a l c], W) := Eq.trans (by kernel_rfl) rfl
theorem oL60 (x : Value) (W : AW) : oLoad Try.prog 60 x W = ldA 2 x W := by kernel_rfl
theorem al65 (W : AW) : oAlloc Try.prog 65 W = some (.pointer (some ⟨W.next, 0, none⟩), W.add (.cells [.int .i64 0, .int .i64 0])) := Eq.trans (by kernel_rfl) rfl
theorem len58 : ((#[58] : Array TypeId)[0]?).bind Try.prog.underlying = some (.slice 65) := by kernel_rfl
section
variable {W : AW} {In : Nat → Prop} {q mh : Nat} {less : Value} {ls : Int → Int → Bool} {nx : Int} {n : Nat} {f : Nat → En}
theorem save_ok (o : Ord (bef ls)) (hl : IsLess1 less ls) (hlz : ∀ D, liesD D less) (h : QS W In q mh less ls nx n f) (hn : n ≤ 10000) :
    ∃ W' v l, omS (.func (.func 27) #[] #[]) [qV q] W = some (.agg #[.int .i64 nx, v], W') ∧ Le W W' ∧ Lst W.next W' 2 itC v l ∧ Srt ls n f l := by
  generalize hW1 : W.add (.cells [.int .i64 0, .slice none 0 0]) = W1
  have n1 : W1.next = W.next + 1 := by rw [← hW1, AW.add_next]
  have l1 : Le W W1 := by rw [← hW1]; exact (Le.refl _).add _
  have x1 : W1.get W.next = some (.cells [.int .i64 0, .slice none 0 0]) := by rw [← hW1]; exact AW.get_add _ _
  have h1 : QS W1 In q mh less ls nx n f := h.keep l1.next (fun b hb _ => l1.get b hb) (fun b _ hi => hi)
  have hm := made_ok h1
  obtain ⟨W2, v, l, s1, s2, s3, s4⟩ := sorted_ok o hl hlz h1 hn
  have h2 : QS W2 In q mh less ls nx n f := h1.keep s2.next (fun b hb _ => s2.get b hb) (fun b _ hi => hi)
  have x2 : W2.get W.next = some (.cells [.int .i64 0, .slice none 0 0]) := (s2.get _ (by omega)).trans x1
  have c1 : ldC (.pointer (some ⟨q, 3, none⟩)) W1 = some (.int .i64 nx, W1) := by obtain ⟨⟨lv, bl, k1, -⟩, -⟩ := h1; exact k1.l3
  have c2 : ldC (.pointer (some ⟨q, 3, none⟩)) W2 = some (.int .i64 nx, W2) := by obtain ⟨⟨lv, bl, k1, -⟩, -⟩ := h2; exact k1.l3
  have main : Ok (heaps_Queueint_Save omS (qV q) W) fun r => r.1 = .agg #[.int .i64 nx, v] ∧ Le W r.2 ∧ Lst W.next r.2 2 itC v l := by
    obtain ⟨a, c, rfl, -⟩ := Lst.items s3
    unfold heaps_Queueint_Save
    have e2 : setN [Value.int .i64 0, .slice none 0 0] 0 [.int .i64 nx, .slice a l.length c] = [.int .i64 nx, .slice a l.length c] := rfl
    have st : stV 2 (.pointer (some ⟨W.next, 0, none⟩)) (.agg #[.int .i64 nx, .slice a l.length c]) W2 = some (undef, W2.put W.next (.cells [.int .i64 nx, .slice a l.length c])) := by
      rw [stV_agg, rwOf x2, Option.bind_some, if_pos ⟨rfl, by simp, rfl⟩]
      rfl
    have ld : ldA 2 (.pointer (some ⟨W.next, 0, none⟩)) (W2.put W.next (.cells [.int .i64 nx, .slice a l.length c])) = some (.agg #[.int .i64 nx, .slice a l.length c], W2.put W.next (.cells [.int .i64 nx, .slice a l.length c])) := ldA_all (cellsAt_of (AW.get_put _ _ _)) rfl
    simp only [SX, al60, hW1, hm, oNilCheck_ptr, Nat.zero_add, c1, s1, c2, agV_some, vsame_int, Bool.and_self, bd60, st, oRes_L1, oL60, ld, Option.bind_some, Ok_some]
    refine ⟨trivial, ⟨by rw [AW.put_next]; exact Nat.le_trans l1.next s2.next, fun b hb => ?_⟩, ?_⟩
    · rw [AW.get_put_ne _ _ (by omega), s2.get b (by omega)]
      exact l1.get b hb
    · rcases s3 with ⟨h0, e⟩ | ⟨h0, B, b1, b2, e, b3⟩
      · exact .inl ⟨h0, e⟩
      · refine .inr ⟨h0, B, by omega, by rw [AW.put_next]; exact b2, e, ?_⟩
        rw [AW.get_put_ne _ _ (by omega)]
        exact b3
  obtain ⟨⟨r, W'⟩, k1, k2, k3, k4⟩ := main
  simp only at k2 k3 k4
  subst k2
  rcases gc_two (W := W) (W' := W') (.agg #[.int .i64 nx, v]) with hg | ⟨hg, hle⟩
  · exact ⟨W', v, l, by rw [heaps_Queueint_Save_om k1, hg], k3, k4, s4⟩
  · refine ⟨W, v, l, by rw [heaps_Queueint_Save_om k1, hg], .refl _, ?_, s4⟩
    rcases k4 with k4 | ⟨h0, B, b1, b2, e, b3⟩
    · exact .inl k4
    · subst e
      have : gc W (.agg #[.int .i64 nx, .slice (some ⟨B, 0, none⟩) l.length (BIG + 2)], W') = (.agg #[.int .i64 nx, .slice (some ⟨B, 0, none⟩) l.length (BIG + 2)], W') := gc_not rfl
      rw [this] at hg
      injection hg with _ hg
      subst hg
      exact .inr ⟨h0, B, b1, b2, rfl, b3⟩
/-! ### All -/
theorem all_fn (W : AW) (q : Nat) : omS (.func (.func 23) #[] #[]) [qV q] W = some (.func (.func 66) #[] #[.pointer (some ⟨W.next, 0, none⟩)], W.add (.cells [qV q])) := by
  have oBoxP : ∀ W, oBox (qV q) W = some (.pointer (some ⟨W.next, 0, none⟩), W.add (.cells [qV q])) := fun W => rfl
  have : heaps_Queueint_All omS (qV q) W = some (.func (.func 66) #[] #[.pointer (some ⟨W.next, 0, none⟩)], W.add (.cells [qV q])) := by
    unfold heaps_Queueint_All
    simp only [SX, oBoxP]
  rw [heaps_Queueint_All_om this, gc_not rfl]
theorem all1_ok (o : Ord (bef ls)) (hl : IsLess1 less ls) (hlz : ∀ D, liesD D less) (h : QS W In q mh less ls nx n f) (hn : n ≤ 10000) {X : Nat} (hX : W.get X = some (.cells [qV q])) {y : Value} :
    ∃ l W1, Srt ls n f l ∧ Le W W1 ∧ ∀ (J : List (Int × Int) → AW → Prop) (D : AW → Prop), J [] W1 → (∀ pre W', J pre W' → W1.next ≤ W'.next ∧ ∀ b, W.next ≤ b → b < W1.next → W'.get b = W1.get b) →
      (∀ pre x W' cs, pre ++ [x] <+: l → J pre W' → ∃ r W2, omS y [.int .i64 x.1, .int .i64 x.2] (W'.add (.cells cs)) = some (.bool r, W2) ∧ (r = true → J (pre ++ [x]) W2) ∧ (r = false → D W2)) →
      ∃ W', omS (.func (.func 66) #[] #[.pointer (some ⟨X, 0, none⟩)]) [y] W = some (.tuple #[], W') ∧ (J l W' ∨ D W') := by
  have hm := made_ok h
  obtain ⟨W1, v, l, s1, s2, s3, s4⟩ := sorted_ok o hl hlz h hn
  refine ⟨l, W1, s4, s2, fun J D h0 hk step => ?_⟩
  have main : Ok (heaps_Queueint_All_1 omS y (.pointer (some ⟨X, 0, none⟩)) W) fun r => r.1 = .tuple #[] ∧ (J l r.2 ∨ D r.2) := by
    have hlen := (Lst.items s3).len len58
    have hget : ∀ i (hi : i < l.length) W', (W1.next ≤ W'.next ∧ ∀ b, W.next ≤ b → b < W1.next → W'.get b = W1.get b) → ∃ p, (∀ W2 kk, ixS 2 v (.int kk (i : Int)) W2 = some (p, W2)) ∧ ldA 2 p W' = some (.agg #[.int .i64 l[i].1, .int .i64 l[i].2], W') := by
      intro i hi W' ⟨hn', hg'⟩
      rcases s3 with ⟨h0, e⟩ | ⟨h0, B, b1, b2, e, b3⟩
      · subst h0; simp at hi
      · subst e
        refine ⟨.pointer (some ⟨B, i * 2, none⟩), fun W2 kk => by rw [ixS_ok hi, Nat.zero_add], ?_⟩
        have hc : cellsAt W' B = some (l.flatMap itC) := cellsAt_of ((hg' B b1 b2).trans b3)
        have e : l.flatMap itC = (l.take i).flatMap itC ++ (itC l[i] ++ (l.drop (i + 1)).flatMap itC) := by
          rw [← List.flatMap_cons, ← List.drop_eq_getElem_cons hi, ← List.flatMap_append, List.take_append_drop]
        have e2 : ((l.take i).flatMap itC).length = i * 2 := by rw [flatMap_len itC_len, List.length_take, Nat.min_eq_left (by omega)]
        have e3 : ((l.flatMap itC).drop (i * 2)).take 2 = [.int .i64 l[i].1, .int .i64 l[i].2] := by
          rw [e, ← e2, List.drop_left]
          rfl
        have := ldA_ok (n := 2) (o := i * 2) hc (by rw [e3]; rfl)
        rw [e3] at this
        exact this
    have hl' : l.length ≤ 10000 := by rw [s4.perm.length_eq, List.length_map, all_len]; exact hn
    unfold heaps_Queueint_All_1
    simp only [SX, ldR (o := 0) (rwOf hX) rfl, hm, s1, hlen]
    refine Ok_loop l.length (by omega) (fun k R W' => R 0 = y ∧ R 9 = v ∧ R 10 = .int .i64 (l.length : Int) ∧ R 11 = .int .i64 (k : Int) ∧ J (l.take k) W')
      (fun r => (r.1 = .exit 0 ∧ J l r.2.2) ∨ (r.1 = .ret ∧ D r.2.2)) ⟨rfl, rfl, rfl, rfl, by rw [List.take_zero]; exact h0⟩ ?_ ?_ ?_
    · rintro k R W' hk' ⟨r0, r9, r10, r11, hJ⟩
      unfold heaps_Queueint_All_1_L1
      obtain ⟨p, f1, f2⟩ := hget k hk' W' (hk _ _ hJ)
      have t1 : ((k : Int) < (l.length : Int)) := by omega
      have t2 := fun W' => oBin_add (P := Try.prog) (W := W') (t := 3) (c := false) (d := true) (a := (k : Int)) (b := 1) (by omega) (by omega)
      have e2 : setN [Value.int .i64 0, .int .i64 0] 0 [.int .i64 l[k].1, .int .i64 l[k].2] = [.int .i64 l[k].1, .int .i64 l[k].2] := rfl
      have st : stV 2 (.pointer (some ⟨W'.next, 0, none⟩)) (.agg #[.int .i64 l[k].1, .int .i64 l[k].2]) (W'.add (.cells [.int .i64 0, .int .i64 0])) = some (undef, W'.add (.cells [.int .i64 l[k].1, .int .i64 l[k].2])) := by
        rw [stV_agg, rwCells_new, Option.bind_some, if_pos ⟨rfl, by simp, rfl⟩, add_put]
        rfl
      have a1 : ldC (.pointer (some ⟨W'.next, 0, none⟩)) (W'.add (.cells [.int .i64 l[k].1, .int .i64 l[k].2])) = some (.int .i64 l[k].1, W'.add (.cells [.int .i64 l[k].1, .int .i64 l[k].2])) := ldR rwCells_new rfl
      have a2 : ldC (.pointer (some ⟨W'.next, 1, none⟩)) (W'.add (.cells [.int .i64 l[k].1, .int .i64 l[k].2])) = some (.int .i64 l[k].2, W'.add (.cells [.int .i64 l[k].1, .int .i64 l[k].2])) := ldR rwCells_new rfl
      have hpre : l.take k ++ [l[k]] <+: l := by rw [← List.take_succ_eq_append_getElem hk']; exact List.take_prefix _ _
      obtain ⟨r, W2, y1, y2, y3⟩ := step _ _ _ [.int .i64 l[k].1, .int .i64 l[k].2] hpre hJ
      cases r
      · simp only [SX, r0, r9, r10, r11, t1, f1, f2, al65, st, Nat.zero_add, a1, a2, y1, Ok_some]
        exact .inr ⟨by simp, .inr ⟨trivial, y3 rfl⟩⟩
      · simp only [SX, r0, r9, r10, r11, t1, f1, f2, al65, st, Nat.zero_add, a1, a2, y1, t2, Ok_some]
        refine .inl ⟨trivial, r0, r9, r10, by rw [show ((k + 1 : Nat) : Int) = (k : Int) + 1 by omega]; rfl, ?_⟩
        rw [List.take_succ_eq_append_getElem hk']
        exact y2 rfl
    · rintro R W' ⟨r0, r9, r10, r11, hJ⟩
      unfold heaps_Queueint_All_1_L1
      have t1 : ¬ ((l.length : Int) < (l.length : Int)) := by omega
      simp only [SX, r0, r9, r10, r11, t1, Ok_some]
      rw [List.take_length] at hJ
      exact ⟨by simp, .inl ⟨trivial, hJ⟩⟩
    · rintro ⟨x, R, W'⟩ hq
      simp only at hq
      rcases hq with ⟨rfl, hq⟩ | ⟨rfl, hq⟩
      · simp only [SX, Ok_some]
        exact ⟨trivial, .inl hq⟩
      · simp only [SX, Ok_some]
        exact ⟨trivial, .inr hq⟩
  obtain ⟨⟨r, W'⟩, k1, k2, k3⟩ := main
  simp only at k2 k3
  subst k2
  exact ⟨W', by rw [heaps_Queueint_All_1_om k1, gc_not rfl], k3⟩
end
end Go.Proofs.Ytkpgmabebjmahaa
/- What ranges over a queue; walked, Same. -/
namespace Go.Proofs.Ytkpgmabebjmahaa
open Go Go.Eng Go.Hp
set_option linter.unusedVariables false
set_option linter.unusedSimpArgs false
set_option linter.unusedSectionVars false
set_option maxRecDepth 100000
section
variable {W : AW} {In : Nat → Prop} {q mh : Nat} {less : Value} {ls : Int → Int → Bool} {nx : Int} {n : Nat} {f : Nat → En}
theorem Ok_all {X nt : Nat} {R : Nat → Value} {ps : Array Tmp} {ac bd : Code} {ρ : Type} {K : Eng.X × AW → Option ρ} {G : ρ → Prop} (o : Ord (bef ls)) (hl : IsLess1 less ls) (hlz : ∀ D, liesD D less) (h : QS W In q mh less ls nx n f) (hn : n ≤ 10000) (hX : W.get X = some (.cells [qV q])) (hXl : X < W.next) (hp : ps.size = 2)
    (J : List (Int × Int) → Nat → List (Int × Int) → AW → Prop) (Q : Eng.X → AW → Prop)
    (fr : (Nat → Value) → Int × Int → Nat → Value) (has : ∀ x W', kCode Try.prog omS false nt ac LT (zipGo ps.toList [.int .i64 x.1, .int .i64 x.2] R) W' ret3 = some (.normal, fr R x, W'))
    (h0 : ∀ l W1, Srt ls n f l → Le (W.add (.loop .ready none R nt ps ac bd)) W1 → J l W1.next [] W1)
    (hA : ∀ l N pre W' cs, J l N pre W' → W.next < N → N ≤ W'.next → J l N pre (W'.add (.cells cs)))
    (hP : ∀ l N pre W' b, J l N pre W' → J l N pre (W'.put W.next b)) (hQ : ∀ x W' b, Q x W' → Q x (W'.put W.next b))
    (step : ∀ l N pre x W' R', R' = fr R x → Srt ls n f l → pre ++ [x] <+: l → J l N pre W' → W.next < N → N ≤ W'.next →
      Ok (kCode Try.prog omS false nt bd LT R' W' ret3) fun r => W'.next ≤ r.2.2.next ∧ (∀ b, W.next ≤ b → b < N → r.2.2.get b = W'.get b) ∧ ((r.1 = .normal ∧ J l N (pre ++ [x]) r.2.2) ∨ (r.1 ≠ .normal ∧ Q r.1 r.2.2)))
    (after : ∀ l N x W2, Srt ls n f l → (x = .normal ∧ J l N l W2) ∨ (x ≠ .normal ∧ Q x W2) → Ok (K (x, W2.kill W.next)) G) :
    Ok (bnd (oRange omS (.func (.func 66) #[] #[.pointer (some ⟨X, 0, none⟩)]) (.loop .ready none R nt ps ac bd) W) K) G := by
  generalize hWl : W.add (.loop .ready none R nt ps ac bd) = Wl at *
  have gl : ∀ b, b < W.next → Wl.get b = W.get b := fun b hb => by rw [← hWl]; exact AW.get_add_ne _ _ (by omega)
  have nl : Wl.next = W.next + 1 := by rw [← hWl, AW.add_next]
  have ll : Wl.get W.next = some (.loop .ready none R nt ps ac bd) := by rw [← hWl]; exact AW.get_add _ _
  have hL : QS Wl In q mh less ls nx n f := h.keep (by omega) (fun b hb _ => gl b hb) (fun b _ hi => hi)
  obtain ⟨l, W1, s1, s2, s3⟩ := all1_ok o hl hlz hL hn ((gl X hXl).trans hX) (y := .func (.yield W.next) #[] #[])
  have n1 : W.next < W1.next := by have := s2.next; omega
  obtain ⟨W2, k1, k2⟩ := s3
    (fun pre V => J l W1.next pre V ∧ V.get W.next = some (.loop .ready none R nt ps ac bd) ∧ W1.next ≤ V.next ∧ ∀ b, Wl.next ≤ b → b < W1.next → V.get b = W1.get b)
    (fun V => ∃ x, x ≠ .normal ∧ Q x V ∧ V.get W.next = some (.loop .done x.jump R nt ps ac bd))
    ⟨h0 l W1 s1 s2, (s2.get _ (by omega)).trans ll, Nat.le_refl _, fun b _ _ => rfl⟩ (fun pre V hV => hV.2.2)
    (fun pre x V cs hpre ⟨hJ, hget, hn1, hg⟩ => by
      have hJ2 := hP _ _ _ _ (.loop .busy none R nt ps ac bd) (hA _ _ _ _ cs hJ n1 hn1)
      obtain ⟨⟨x1, R2, W3⟩, e1, e2, e3, e4⟩ := step l W1.next pre x _ _ rfl s1 hpre hJ2 n1 (by rw [AW.put_next, AW.add_next]; omega)
      simp only at e1 e2 e3 e4
      have hbusy : W3.get W.next = some (.loop .busy none R nt ps ac bd) := by rw [e3 _ (Nat.le_refl _) n1, AW.get_put]
      have hget1 : (V.add (.cells cs)).get W.next = some (.loop .ready none R nt ps ac bd) := by rw [AW.get_add_ne _ _ (by omega)]; exact hget
      have hy := yield_gen (P := Try.prog) (args := [.int .i64 x.1, .int .i64 x.2]) hget1 (by rw [hp]; rfl) (has x _) hget1 e1 hbusy
      have hn3 : W1.next ≤ W3.next := by rw [AW.put_next, AW.add_next] at e2; omega
      have hg3 : ∀ o' b, Wl.next ≤ b → b < W1.next → (W3.put W.next o').get b = W1.get b := fun o' b hb1 hb2 => by
        rw [AW.get_put_ne _ _ (by omega), e3 b (by omega) hb2, AW.get_put_ne _ _ (by omega), AW.get_add_ne _ _ (by omega)]
        exact hg b hb1 hb2
      rcases e4 with ⟨rfl, e4⟩ | ⟨kx, e4⟩
      · exact ⟨true, _, hy, fun _ => ⟨hP _ _ _ _ _ e4, AW.get_put _ _ _, by rw [AW.put_next]; exact hn3, hg3 _⟩, fun h => by cases h⟩
      · refine ⟨false, W3.put W.next (.loop .done x1.jump R nt ps ac bd), ?_, fun h => by (cases h), fun _ => ⟨x1, kx, hQ _ _ _ e4, AW.get_put _ _ _⟩⟩
        refine hy.trans ?_
        cases x1 with
        | normal => exact absurd rfl kx
        | exit i => rfl
        | ret => rfl)
  rcases k2 with ⟨k2, k3, -⟩ | ⟨x, k2, k3, k4⟩
  · rw [range_normal (by rw [hWl]; exact k1) k3 (by simp), bnd_some]
    exact after l _ _ W2 s1 (.inl ⟨rfl, k2⟩)
  · rw [range_jump (by rw [hWl]; exact k1) k4, bnd_some]
    exact after l W1.next _ W2 s1 (.inr ⟨k2, k3⟩)
end
end Go.Proofs.Ytkpgmabebjmahaa
/- walked, Same. -/
namespace Go.Proofs.Ytkpgmabebjmahaa
open Go Go.Eng Go.Hp
set_option linter.unusedVariables false
set_option linter.unusedSimpArgs false
set_option linter.unusedSectionVars false
set_option maxRecDepth 100000
theorem lst_push {α : Type} {P : Program} {W : AW} {ts : Array TypeId} {z bytes lo : Nat} {f : α → List Value} {v : Value} {l : List α} {a : α} (hk : appOk P ts z bytes = true) (hf : ∀ a, (f a).length = z) (h1 : ∀ a, (f a).all Eng.one = true)
    (h : Lst lo W z f v l) {b c : Nat} (hc : cellsAt W b = some (f a)) (hb : l.length + 1 < 1099511627776) (hb2 : (2 * (l.length + 1) + 192) * bytes ≤ 281474976710656) (hlo : lo ≤ W.next) :
    ∃ v' W', aAppend P W ts v (.slice (some ⟨b, 0, none⟩) 1 c) = some (v', W') ∧ Lst lo W' z f v' (l ++ [a]) ∧ W.next ≤ W'.next ∧ ∀ b, b < lo → W'.get b = W.get b := by
  obtain ⟨v', W', k1, k2, k3, k4⟩ := h.push hk hf h1 hc hb hb2 hlo
  refine ⟨v', W', k1, k2, k3, fun b hb => ?_⟩
  have := k4 ⟨W.heap, lo⟩ ⟨hlo, fun _ _ => rfl⟩ (Nat.le_refl _)
  exact this.get b hb
theorem lst_slice {α : Type} {lo z : Nat} {W : AW} {f : α → List Value} {v : Value} {l : List α} (h : Lst lo W z f v l) : ∃ a c, v = .slice a l.length c := by
  rcases h with ⟨rfl, rfl⟩ | ⟨_, B, _, _, rfl, _⟩ <;> exact ⟨_, _, rfl⟩
theorem lst_at {α : Type} {lo z : Nat} {W W' : AW} {f : α → List Value} {v : Value} {l : List α} (h : Lst lo W z f v l) (hn : ∀ b, lo ≤ b → b < W.next → b < W'.next ∧ W'.get b = W.get b) : Lst lo W' z f v l := by
  rcases h with h | ⟨h0, B, b1, b2, e, b3⟩
  · exact .inl h
  · exact .inr ⟨h0, B, b1, (hn B b1 b2).1, e, (hn B b1 b2).2.trans b3⟩
theorem al58 (W : AW) : oAlloc Try.prog 58 W = some (.pointer (some ⟨W.next, 0, none⟩), W.add (.cells [.slice none 0 0])) := Eq.trans (by kernel_rfl) rfl
theorem hv_len {ls : Int → Int → Bool} {n : Nat} {f : Nat → En} {l : List (Int × Int)} (h : Srt ls n f l) : l.length = n := by rw [h.perm.length_eq, List.length_map, all_len]
section
variable {W : AW} {In : Nat → Prop} {q mh : Nat} {less : Value} {ls : Int → Int → Bool} {nx : Int} {n : Nat} {f : Nat → En}
theorem walked_ok (o : Ord (bef ls)) (hl : IsLess1 less ls) (hlz : ∀ D, liesD D less) (h : QS W In q mh less ls nx n f) (hn : n ≤ 5000) :
    ∃ W' v l, omS (.func (.func 30) #[] #[]) [qV q] W = some (v, W') ∧ Le W W' ∧ Lst W.next W' 2 itC v l ∧ Srt ls n f l := by
  have main : Ok (law06_walked omS (qV q) W) fun r => ∃ l, Srt ls n f l ∧ Le W r.2 ∧ Lst W.next r.2 2 itC r.1 l := by
    generalize hW1 : W.add (.cells [.slice none 0 0]) = W1
    have n1 : W1.next = W.next + 1 := by rw [← hW1, AW.add_next]
    have l1 : Le W W1 := by rw [← hW1]; exact (Le.refl _).add _
    have x1 : W1.get W.next = some (.cells [.slice none 0 0]) := by rw [← hW1]; exact AW.get_add _ _
    generalize hW2 : W1.add (.cells [qV q]) = W2
    have n2 : W2.next = W1.next + 1 := by rw [← hW2, AW.add_next]
    have l2 : Le W1 W2 := by rw [← hW2]; exact (Le.refl _).add _
    have x2 : W2.get W.next = some (.cells [.slice none 0 0]) := (l2.get _ (by omega)).trans x1
    have y2 : W2.get W1.next = some (.cells [qV q]) := by rw [← hW2]; exact AW.get_add _ _
    have h2 : QS W2 In q mh less ls nx n f := h.keep (by omega) (fun b hb _ => (l2.get b (by omega)).trans (l1.get b hb)) (fun b _ hi => hi)
    unfold law06_walked
    simp only [SX, al58, hW1, all_fn, hW2]
    refine Ok_all o hl hlz h2 (by omega) y2 (by omega) rfl
      (fun l N pre V => pre <+: l ∧ W2.next < N ∧ N ≤ V.next ∧ (∀ b, b < W.next → V.get b = W.get b) ∧ ∃ out, V.get W.next = some (.cells [out]) ∧ Lst N V 2 itC out pre)
      (fun _ _ => False) (fun R x => rput (rput (zipGo (#[8, 9] : Array Tmp).toList [.int .i64 x.1, .int .i64 x.2] R) (some 4) (.int .i64 x.1)) (some 5) (.int .i64 x.2)) ?_ ?_ ?_ ?_ (fun _ _ _ h => h) ?_ ?_
    · intro x W'
      rw [law06_walked_Y1a_eq]
      unfold law06_walked_Y1a
      have r8 : ∀ R : Nat → Value, zipGo (#[8, 9] : Array Tmp).toList [.int .i64 x.1, .int .i64 x.2] R 8 = .int .i64 x.1 := fun R => rfl
      have r9 : ∀ R : Nat → Value, zipGo (#[8, 9] : Array Tmp).toList [.int .i64 x.1, .int .i64 x.2] R 9 = .int .i64 x.2 := fun R => rfl
      simp only [SX, r8, r9]
    · intro l V hs hle
      have hn' := hle.next
      rw [AW.add_next] at hn'
      have hg : ∀ b, b < W2.next → V.get b = W2.get b := fun b hb => by rw [hle.get b (by rw [AW.add_next]; omega), AW.get_add_ne _ _ (by omega)]
      exact ⟨List.nil_prefix, by omega, Nat.le_refl _, fun b hb => by rw [hg b (by omega), l2.get b (by omega), l1.get b hb], _, by rw [hg _ (by omega)]; exact x2, .nil _ _ _ _⟩
    · rintro l N pre V cs ⟨a1, a2, a3, a4, out, a5, a6⟩ - -
      exact ⟨a1, a2, by rw [AW.add_next]; omega, fun b hb => by rw [AW.get_add_ne _ _ (by omega)]; exact a4 b hb, out, by rw [AW.get_add_ne _ _ (by omega)]; exact a5, a6.mono ((Le.refl _).add _)⟩
    · rintro l N pre V b ⟨a1, a2, a3, a4, out, a5, a6⟩
      exact ⟨a1, a2, by rw [AW.put_next]; omega, fun b hb => by rw [AW.get_put_ne _ _ (by omega)]; exact a4 b hb, out, by rw [AW.get_put_ne _ _ (by omega)]; exact a5, lst_at a6 fun b hb1 hb2 => ⟨by rw [AW.put_next]; exact hb2, AW.get_put_ne _ _ (by omega)⟩⟩
    · rintro l N pre x V R' hR hs hpre ⟨a1, a2, a3, a4, out, a5, a6⟩ b1 b2
      have hlen := hpre.length_le
      rw [List.length_append, hv_len hs] at hlen
      simp only [List.length_cons, List.length_nil] at hlen
      rw [law06_walked_Y1b_eq]
      unfold law06_walked_Y1b
      obtain ⟨v', W4, p1, p2, p3, p4⟩ := lst_push (a := x) (b := V.next) (c := 1) ap58 itC_len itC_one (a6.mono ((Le.refl V).add (.cells (itC x)))) cellsAt_new (by omega) (by omega) (by rw [AW.add_next]; omega)
      have p1' : aAppend Try.prog (V.add (.cells [.int .i64 x.1, .int .i64 x.2])) #[58, 58] out (.slice (some ⟨V.next, 0, none⟩) 1 1) = some (v', W4) := p1
      obtain ⟨a, c, rfl⟩ := lst_slice p2
      have g4 : ∀ b, b < N → W4.get b = V.get b := fun b hb => by rw [p4 b hb, AW.get_add_ne _ _ (by omega)]
      have x4 := (g4 W.next (by omega)).trans a5
      have st := stA (v := .slice a (pre ++ [x]).length c) (o := 0) x4 (by simp) rfl rfl
      rw [show ([out] : List Value).set 0 (.slice a (pre ++ [x]).length c) = [.slice a (pre ++ [x]).length c] from rfl] at st
      rw [AW.add_next] at p3
      have g5 : ∀ b, b ≠ W.next → (W4.put W.next (.cells [.slice a (pre ++ [x]).length c])).get b = W4.get b := fun b hb => AW.get_put_ne _ _ (Ne.symm hb)
      have x5 : (W4.put W.next (.cells [.slice a (pre ++ [x]).length c])).get W.next = some (.cells [.slice a (pre ++ [x]).length c]) := AW.get_put _ _ _
      have len5 : ∀ W', oBuiltin Try.prog .len #[58] 3 #[false] [.slice a (pre ++ [x]).length c] W' = some (.int .i64 ((pre ++ [x]).length : Int), W') := fun W' => len_slice len58 _ _ _
      have t1 : ¬ ((5000 : Int) < ((pre ++ [x]).length : Int)) := by rw [List.length_append]; simp only [List.length_cons, List.length_nil]; omega
      have r3 : R' 3 = .pointer (some ⟨W.next, 0, none⟩) := by rw [hR]; rfl
      have r4 : R' 4 = .int .i64 x.1 := by rw [hR]; rfl
      have r5 : R' 5 = .int .i64 x.2 := by rw [hR]; rfl
      simp only [SX, r3, r4, r5, ldR (o := 0) (rwOf a5) rfl, bd65, bs58, p1', st, ldR (o := 0) (rwOf x5) rfl, len5, t1, Ok_some]
      refine ⟨by rw [AW.put_next]; omega, fun b hb1 hb2 => by rw [g5 b (by omega)]; exact g4 b hb2, .inl ⟨trivial, hpre, a2, by rw [AW.put_next]; omega, fun b hb => ?_, _, x5, ?_⟩⟩
      · rw [g5 b (by omega), g4 b (by omega)]
        exact a4 b hb
      · exact lst_at p2 fun b hb1 hb2 => ⟨by rw [AW.put_next]; exact hb2, g5 b (by omega)⟩
    · rintro l N x V hs hV
      rcases hV with ⟨rfl, a1, a2, a3, a4, out, a5, a6⟩ | ⟨-, hV⟩
      · have gk : ∀ b, b ≠ W2.next → (V.kill W2.next).get b = V.get b := fun b hb => AW.get_kill_ne _ (Ne.symm hb)
        have x5 : (V.kill W2.next).get W.next = some (.cells [out]) := by rw [gk _ (by omega)]; exact a5
        simp only [SX, ldR (o := 0) (rwOf x5) rfl, Ok_some]
        refine ⟨l, hs, ⟨by rw [AW.kill_next]; omega, fun b hb => by rw [gk b (by omega)]; exact a4 b hb⟩, ?_⟩
        refine Lst.low (lst_at a6 fun b hb1 hb2 => ⟨by rw [AW.kill_next]; exact hb2, gk b (by omega)⟩) (by omega)
      · exact hV.elim
  obtain ⟨⟨v, W'⟩, k0, l, k1, k2⟩ := main
  obtain ⟨v2, W2, k3, k4, k5⟩ := om_lst ⟨(v, W'), k0, k2⟩ law06_walked_om
  exact ⟨W2, v2, l, k3, k4, k5, k1⟩
end
end Go.Proofs.Ytkpgmabebjmahaa
/- What is sorted is one; Same. -/
namespace Go.Proofs.Ytkpgmabebjmahaa
open Go Go.Eng Go.Hp
set_option linter.unusedVariables false
set_option linter.unusedSimpArgs false
set_option linter.unusedSectionVars false
set_option maxRecDepth 100000
/-- what is sorted, its handles different, is one list -/
theorem sort_uniq {ls : Int → Int → Bool} : ∀ {l l' : List (Int × Int)}, l.Perm l' → l.Pairwise (fun a b => befP ls b a = false) → l'.Pairwise (fun a b => befP ls b a = false) → (∀ a ∈ l, ∀ b ∈ l, a.1 = b.1 → a = b) → l = l'
  | [], l', hp, _, _, _ => (List.nil_perm.1 hp).symm
  | a :: l, [], hp, _, _, _ => absurd hp.length_eq (by simp)
  | a :: l, b :: l', hp, h1, h2, hd => by
    have hab : a = b := by
      by_cases e : a = b
      · exact e
      · exfalso
        have ha : a ∈ l' := by
          rcases List.mem_cons.1 (hp.mem_iff.1 (List.mem_cons_self ..)) with h | h
          · exact absurd h e
          · exact h
        have hb : b ∈ l := by
          rcases List.mem_cons.1 (hp.mem_iff.2 (List.mem_cons_self ..)) with h | h
          · exact absurd h.symm e
          · exact h
        have x1 := List.rel_of_pairwise_cons h1 hb
        have x2 := List.rel_of_pairwise_cons h2 ha
        have x3 : a.1 ≠ b.1 := fun h => e (hd a (List.mem_cons_self ..) b (List.mem_cons_of_mem _ hb) h)
        unfold befP at x1 x2
        simp only [Bool.or_eq_false_iff, Bool.and_eq_false_imp, Bool.not_eq_true', decide_eq_false_iff_not] at x1 x2
        have y1 := x1.2 x2.1
        have y2 := x2.2 x1.1
        omega
    subst hab
    rw [sort_uniq (List.Perm.cons_inv hp) (List.Pairwise.of_cons h1) (List.Pairwise.of_cons h2) fun x hx y hy => hd x (List.mem_cons_of_mem _ hx) y (List.mem_cons_of_mem _ hy)]
/-- the handles of a queue are different -/
theorem QS.diff {W : AW} {In : Nat → Prop} {q mh : Nat} {less : Value} {ls : Int → Int → Bool} {nx : Int} {n : Nat} {f : Nat → En} (h : QS W In q mh less ls nx n f) {l : List (Int × Int)} (hl : l.Perm ((all n f).map hv)) : ∀ a ∈ l, ∀ b ∈ l, a.1 = b.1 → a = b := by
  intro a ha b hb e
  obtain ⟨x, hx, rfl⟩ := List.mem_map.1 (hl.mem_iff.1 ha)
  obtain ⟨y, hy, rfl⟩ := List.mem_map.1 (hl.mem_iff.1 hb)
  obtain ⟨i, hi, rfl⟩ := all_mem.1 hx
  obtain ⟨j, hj, rfl⟩ := all_mem.1 hy
  rw [h.fresh hi hj e]
theorem Srt.eq {W : AW} {In : Nat → Prop} {q mh : Nat} {less : Value} {ls : Int → Int → Bool} {nx : Int} {n m : Nat} {f g : Nat → En} {l l' : List (Int × Int)} (h : QS W In q mh less ls nx n f) (h1 : Srt ls n f l) (h2 : Srt ls m g l') (hp : ((all m g).map hv).Perm ((all n f).map hv)) : l' = l := by
  refine sort_uniq (h2.perm.trans (hp.trans h1.perm.symm)) h2.sort h1.sort (h.diff (h2.perm.trans hp))
theorem g65 : Try.prog.eqGuardType Try.prog.depth 65 = false := by kernel_rfl
theorem q65 (a b a' b' : Int) : aEqS Try.prog 8 65 (.agg #[.int .i64 a, .int .i64 b]) (.agg #[.int .i64 a', .int .i64 b']) = eqAll [(a, a'), (b, b')] := by kernel_rfl
theorem neq65 (a b a' b' : Int) (c d : Bool) (W : AW) : oBin Try.prog .neq 65 c d (.agg #[.int .i64 a, .int .i64 b]) (.agg #[.int .i64 a', .int .i64 b']) W = some (.bool (!decide ((a, b) = (a', b'))), W) := by
  refine oBin_agg_neq g65 ((q65 ..).trans ?_)
  rw [eqAll_eq]
  congr 1
  simp only [List.all_cons, List.all_nil, Bool.and_true, Prod.mk.injEq]
  rw [Bool.eq_iff_iff]
  simp
theorem Items.get {W : AW} {v : Value} {l : List (Int × Int)} (h : Items W v l) {i : Nat} (hi : i < l.length) :
    ∃ b o, (∀ W' k, ixS 2 v (.int k (i : Int)) W' = some (.pointer (some ⟨b, o, none⟩), W')) ∧ b < W.next ∧ ∀ W', W'.get b = W.get b → ldA 2 (.pointer (some ⟨b, o, none⟩)) W' = some (.agg #[.int .i64 l[i].1, .int .i64 l[i].2], W') ∧ ldC (.pointer (some ⟨b, o, none⟩)) W' = some (.int .i64 l[i].1, W') := by
  obtain ⟨b, o, cs, h1, h2, h3, h4, h5⟩ := h.elem hi
  refine ⟨b, o, h1, h2, fun W' hg => ?_⟩
  have hc : cellsAt W' b = some cs := by
    have : cellsAt W' b = cellsAt W b := by unfold cellsAt; rw [hg]
    rw [this]; exact h3
  refine ⟨?_, ldC_ok hc h4⟩
  have e3 : (cs.drop o).take 2 = [.int .i64 l[i].1, .int .i64 l[i].2] := by
    obtain ⟨a1, a2⟩ := List.getElem?_eq_some_iff.1 h4
    obtain ⟨b1, b2⟩ := List.getElem?_eq_some_iff.1 h5
    rw [List.drop_eq_getElem_cons a1, List.drop_eq_getElem_cons b1, a2, b2]
    rfl
  have := ldA_ok (n := 2) (o := o) hc (by rw [e3]; rfl)
  rw [e3] at this
  exact this
theorem Same_ok {W : AW} {va vb : Value} {l m : List (Int × Int)} (ha : Items W va l) (hb : Items W vb m) (hl : l.length ≤ 10000) : omS (.func (.func 28) #[] #[]) [va, vb] W = some (.bool (decide (l = m)), W) := by
  refine om_drop rfl ?_ ref06_Same_om
  unfold ref06_Same
  simp only [SX, ha.len len58, hb.len len58]
  by_cases hlm : l.length = m.length
  case neg =>
    have e1 : ¬ ((l.length : Int) = (m.length : Int)) := by omega
    have e2 : ¬ l = m := fun h => hlm (by rw [h])
    simp only [SX, e1, e2, decide_false, Ok_some]
    exact ⟨trivial, .refl _⟩
  have e1 : ((l.length : Int) = (m.length : Int)) := by omega
  simp only [SX, e1]
  refine Ok_loop l.length (by omega) (fun k R W' => W' = W ∧ R 0 = va ∧ R 1 = vb ∧ R 5 = .int .i64 (k : Int) ∧ l.take k = m.take k)
    (fun r => (r.1 = .exit 0 ∧ r.2.2 = W ∧ l = m) ∨ (r.1 = .ret ∧ r.2.2 = W ∧ r.2.1 4 = .bool false ∧ ¬ l = m)) ⟨rfl, rfl, rfl, rfl, by simp⟩ ?_ ?_ ?_
  · rintro k R W' hk ⟨rfl, r0, r1, r5, hE⟩
    unfold ref06_Same_L1
    obtain ⟨b, o, i1, i2, i3⟩ := Items.get ha hk
    obtain ⟨b', o', j1, j2, j3⟩ := Items.get hb (show k < m.length by omega)
    have t1 : ((k : Int) < (l.length : Int)) := by omega
    have t2 := fun W' => oBin_add (P := Try.prog) (W := W') (t := 3) (c := false) (d := true) (a := (k : Int)) (b := 1) (by omega) (by omega)
    simp only [SX, r0, r1, r5, ha.len len58, t1, i1, (i3 _ rfl).1, j1, (j3 _ rfl).1, neq65]
    by_cases h : (l[k].1, l[k].2) = (m[k].1, m[k].2)
    · simp only [SX, h, t2, Ok_some]
      refine .inl ⟨trivial, trivial, r0, r1, by rw [show ((k + 1 : Nat) : Int) = (k : Int) + 1 by omega]; rfl, ?_⟩
      rw [List.take_succ_eq_append_getElem hk, List.take_succ_eq_append_getElem (show k < m.length by omega), hE]
      have : l[k] = m[k] := h
      rw [this]
    · simp only [SX, h, decide_false, Ok_some]
      exact .inr ⟨by simp, .inr ⟨trivial, trivial, rfl, fun e => h (by subst e; rfl)⟩⟩
  · rintro R W' ⟨rfl, r0, r1, r5, hE⟩
    unfold ref06_Same_L1
    have t1 : ¬ ((l.length : Int) < (l.length : Int)) := by omega
    simp only [SX, r0, r1, r5, ha.len len58, t1, Ok_some]
    refine ⟨by simp, .inl ⟨trivial, trivial, ?_⟩⟩
    rwa [List.take_length, hlm, List.take_length] at hE
  · rintro ⟨x, R, W'⟩ hq
    simp only at hq
    rcases hq with ⟨rfl, rfl, hq⟩ | ⟨rfl, rfl, r4, hq⟩
    · simp only [SX, hq, decide_true, Ok_some]
      exact ⟨trivial, .refl _⟩
    · simp only [SX, r4, hq, decide_false, Ok_some]
      exact ⟨trivial, .refl _⟩
end Go.Proofs.Ytkpgmabebjmahaa
/- A queue: Load. -/
namespace Go.Proofs.Ytkpgmabebjmahaa
open Go Go.Eng Go.Hp
set_option linter.unusedVariables false
set_option linter.unusedSimpArgs false
set_option linter.unusedSectionVars false
set_option maxRecDepth 100000
theorem bd132c (h v i : Int) (W : AW) : oBuild Try.prog 132 [(0, .int .i64 h), (1, .int .i64 v), (2, .int .i64 i)] W = some (.agg #[.int .i64 h, .int .i64 v, .int .i64 i], W) := Eq.trans (by kernel_rfl) rfl
/-- the errors of a state -/
def badR (nx : Int) (l : List (Int × Int)) : Prop := ∃ i, ∃ hi : i < l.length, l[i].1 < 1 ∨ nx ≤ l[i].1
def twiceR (l : List (Int × Int)) (n : Nat) : Prop := ∃ i j, ∃ hj : j < l.length, ∃ hij : i < j, j < n ∧ l[i].1 = l[j].1
def formR (ls : Int → Int → Bool) (l : List (Int × Int)) : Prop := ∃ i, ∃ hi : i + 1 < l.length, befP ls l[i] l[i + 1] = false
open Classical in
noncomputable def chk (ls : Int → Int → Bool) (nx : Int) (l : List (Int × Int)) : Int :=
  if nx < 1 ∨ 1000000000000000 < nx then 7 else if badR nx l then 7 else if twiceR l l.length then 8 else if formR ls l then 6 else 0
theorem bef_P {ls : Int → Int → Bool} (a b : En) : bef ls a b = befP ls (hv a) (hv b) := rfl
theorem Items.get2 {W : AW} {v : Value} {l : List (Int × Int)} (h : Items W v l) {i : Nat} (hi : i < l.length) :
    ∃ b o, (∀ W' k, ixS 2 v (.int k (i : Int)) W' = some (.pointer (some ⟨b, o, none⟩), W')) ∧ b < W.next ∧ ∀ W', W'.get b = W.get b → ldA 2 (.pointer (some ⟨b, o, none⟩)) W' = some (.agg #[.int .i64 l[i].1, .int .i64 l[i].2], W') ∧ ldC (.pointer (some ⟨b, o, none⟩)) W' = some (.int .i64 l[i].1, W') ∧ ldC (.pointer (some ⟨b, o + 1, none⟩)) W' = some (.int .i64 l[i].2, W') := by
  obtain ⟨b, o, cs, h1, h2, h3, h4, h5⟩ := h.elem hi
  refine ⟨b, o, h1, h2, fun W' hg => ?_⟩
  have hc : cellsAt W' b = some cs := by
    have : cellsAt W' b = cellsAt W b := by unfold cellsAt; rw [hg]
    rw [this]; exact h3
  refine ⟨?_, ldC_ok hc h4, ldC_ok hc h5⟩
  have e3 : (cs.drop o).take 2 = [.int .i64 l[i].1, .int .i64 l[i].2] := by
    obtain ⟨a1, a2⟩ := List.getElem?_eq_some_iff.1 h4
    obtain ⟨b1, b2⟩ := List.getElem?_eq_some_iff.1 h5
    rw [List.drop_eq_getElem_cons a1, List.drop_eq_getElem_cons b1, a2, b2]
    rfl
  have := ldA_ok (n := 2) (o := o) hc (by rw [e3]; rfl)
  rw [e3] at this
  exact this
theorem asc_heap {lt : En → En → Bool} (o : Ord lt) {n : Nat} {f : Nat → En} (h : ∀ i, i + 1 < n → lt (f i) (f (i + 1)) = true) : Heap lt n f := by
  have up : ∀ d i, i + d + 1 < n → lt (f i) (f (i + d + 1)) = true := by
    intro d
    induction d with
    | zero => exact fun i hi => h i hi
    | succ d ih => exact fun i hi => bef_trans o (ih i (by omega)) (h (i + d + 1) (by omega))
  intro k hk hkn
  have : par k < k := by unfold par; omega
  have := up (k - par k - 1) (par k) (by omega)
  rw [show par k + (k - par k - 1) + 1 = k by omega] at this
  exact o.asym _ _ this
/-- the queue while it is loaded -/
structure LQ (V : AW) (lo q mh : Nat) (less : Value) (nx : Int) (l : List (Int × Int)) (k : Nat) (f : Nat → En) (tw : Bool) : Prop where
  qp : ∃ lv bl, QP V q lv less (.map (some mh)) (.int .i64 nx) k f bl ∧ bl ≠ some mh ∧ (∀ B, bl = some B → lo ≤ B)
  ml : mh < V.next
  mq : mh ≠ q
  lm : lo ≤ mh
  lq : lo ≤ q
  en : ∀ i, i < k → (f i).b ≠ mh ∧ lo ≤ (f i).b
  hv : ∀ i (hi : i < l.length), i < k → hv (f i) = l[i]
  hd : ∀ i, i < k → 1 ≤ (f i).h ∧ (f i).h < nx
  mp : ∃ m c, MapV V mh m c ∧ (∀ x, (m x).isSome = true ↔ ∃ i, i < k ∧ (f i).h = x) ∧ (tw = false → c = k ∧ (∀ i, i < k → m (f i).h = some (enP (f i))))
  tw : tw = true ↔ twiceR l k
theorem LQ.keep {V V' : AW} {lo q mh : Nat} {less : Value} {nx : Int} {l : List (Int × Int)} {k : Nat} {f : Nat → En} {tw : Bool} (h : LQ V lo q mh less nx l k f tw) (le : Le V V') : LQ V' lo q mh less nx l k f tw := by
  obtain ⟨⟨lv, bl, h1, h2, h3⟩, ml, mq, lm, lq, en, hv, hd, ⟨m, c, m1, m2⟩, htw⟩ := h
  exact ⟨⟨lv, bl, h1.keep le.next (fun b hb _ => le.get b hb), h2, h3⟩, Nat.lt_of_lt_of_le ml le.next, mq, lm, lq, en, hv, hd, ⟨m, c, m1.keep (le.get _ ml), m2⟩, htw⟩
theorem twice_step {l : List (Int × Int)} {k : Nat} (hk : k < l.length) : twiceR l (k + 1) ↔ twiceR l k ∨ ∃ i, ∃ hi : i < k, l[i].1 = l[k].1 := by
  constructor
  · rintro ⟨i, j, hj, hij, hjk, e⟩
    by_cases ej : j = k
    · subst ej; exact .inr ⟨i, hij, e⟩
    · exact .inl ⟨i, j, hj, hij, by omega, e⟩
  · rintro (⟨i, j, hj, hij, hjk, e⟩ | ⟨i, hi, e⟩)
    · exact ⟨i, j, hj, hij, by omega, e⟩
    · exact ⟨i, k, hk, hi, by omega, e⟩
/-- one more value is loaded -/
theorem LQ.step {V : AW} {lo q mh : Nat} {less : Value} {nx : Int} {l : List (Int × Int)} {k : Nat} {f : Nat → En} {tw : Bool} (h : LQ V lo q mh less nx l k f tw) (hlo : lo ≤ V.next) (hk : k < l.length) (hl : l.length ≤ 5000) (hr : ¬ (l[k].1 < 1 ∨ nx ≤ l[k].1)) :
    ∃ (old : Value) (is : Bool) (W2 W5 W6 : AW) (nv : Value), oLookup Try.prog 107 (.map (some mh)) (.int .i64 l[k].1) true V = some (.tuple #[old, .bool is], V) ∧ ldC (.pointer (some ⟨q, 2, none⟩)) V = some (.map (some mh), V) ∧
      ldC (.pointer (some ⟨q, 2, none⟩)) (V.add (.cells [.int .i64 l[k].1, .int .i64 l[k].2, .int .i64 (k : Int)])) = some (.map (some mh), V.add (.cells [.int .i64 l[k].1, .int .i64 l[k].2, .int .i64 (k : Int)])) ∧
      oMapUpdate Try.prog 107 (.map (some mh)) (.int .i64 l[k].1) (.pointer (some ⟨V.next, 0, none⟩)) (V.add (.cells [.int .i64 l[k].1, .int .i64 l[k].2, .int .i64 (k : Int)])) = some (undef, W2) ∧
      (∃ lv, ldC (.pointer (some ⟨q, 0, none⟩)) W2 = some (lv, W2) ∧ aAppend Try.prog (W2.add (.cells [.pointer (some ⟨V.next, 0, none⟩)])) #[104, 104] lv (.slice (some ⟨W2.next, 0, none⟩) 1 1) = some (nv, W5)) ∧
      stV 1 (.pointer (some ⟨q, 0, none⟩)) nv W5 = some (undef, W6) ∧ (∃ g, LQ W6 lo q mh less nx l (k + 1) g (tw || is)) ∧ V.next ≤ W6.next ∧ ∀ b, b < lo → W6.get b = V.get b := by
  obtain ⟨⟨lv, bl, h1, h2, h3⟩, ml, mq, lm, lq, en, hvl, hd, ⟨m, c, m1, m2, m3⟩, htw⟩ := h
  generalize hW1 : V.add (.cells [.int .i64 l[k].1, .int .i64 l[k].2, .int .i64 (k : Int)]) = W1
  have n1 : W1.next = V.next + 1 := by rw [← hW1, AW.add_next]
  have g1 : ∀ b, b < V.next → W1.get b = V.get b := fun b hb => by rw [← hW1]; exact AW.get_add_ne _ _ (by omega)
  have x1 : W1.get V.next = some (.cells [.int .i64 l[k].1, .int .i64 l[k].2, .int .i64 (k : Int)]) := by rw [← hW1]; exact AW.get_add _ _
  have q1 : QP W1 q lv less (.map (some mh)) (.int .i64 nx) k f bl := h1.keep (by omega) fun b hb _ => g1 b hb
  have m1' : MapV W1 mh m c := m1.keep (g1 _ ml)
  obtain ⟨es, cc, d1, d2⟩ := mapV_set m1' u107 u2 l[k].1 (.pointer (some ⟨V.next, 0, none⟩))
  generalize hW2 : W1.put mh (.map es cc) = W2 at d1 d2
  have g2 : ∀ b, b ≠ mh → W2.get b = W1.get b := fun b hb => by rw [← hW2]; exact AW.get_put_ne _ _ (Ne.symm hb)
  have n2 : W2.next = V.next + 1 := by rw [← hW2, AW.put_next, n1]
  have q2 : QP W2 q lv less (.map (some mh)) (.int .i64 nx) k f bl := q1.keep (by omega) fun b hb ho => g2 b fun e => by
    subst e
    rcases ho with ho | ho | ⟨i, hi, ho⟩
    · exact mq ho
    · exact h2 ho
    · exact (en i hi).1 ho
  generalize hW3 : W2.add (.cells [.pointer (some ⟨V.next, 0, none⟩)]) = W3
  have n3 : W3.next = V.next + 2 := by rw [← hW3, AW.add_next, n2]
  have g3 : ∀ b, b < W2.next → W3.get b = W2.get b := fun b hb => by rw [← hW3]; exact AW.get_add_ne _ _ (by omega)
  have x3 : cellsAt W3 W2.next = some [.pointer (some ⟨V.next, 0, none⟩)] := by rw [← hW3]; exact cellsAt_new
  have q3 : QP W3 q lv less (.map (some mh)) (.int .i64 nx) k f bl := q2.keep (by omega) fun b hb _ => g3 b hb
  obtain ⟨W5, p1, p2, p3, p4⟩ := pApp q3.pile.sl (by omega) (c := 1) x3 rfl
  have hbl : ∀ b, bl = some b → b < V.next := fun b hb => h1.pile.sl.lt hb
  have hq5 : W5.get q = some (.cells [lv, less, .map (some mh), .int .i64 nx]) := by rw [p4 q (by have := h1.lt; omega) h1.bq]; exact q3.qc
  have s1 := stA (v := .slice (some ⟨W3.next, 0, none⟩) (k + 1) (BIG + 1)) (o := 0) hq5 (by simp) rfl rfl
  rw [show ([lv, less, .map (some mh), .int .i64 nx] : List Value).set 0 (.slice (some ⟨W3.next, 0, none⟩) (k + 1) (BIG + 1)) = [.slice (some ⟨W3.next, 0, none⟩) (k + 1) (BIG + 1), less, .map (some mh), .int .i64 nx] from rfl] at s1
  generalize hW6 : W5.put q (.cells [.slice (some ⟨W3.next, 0, none⟩) (k + 1) (BIG + 1), less, .map (some mh), .int .i64 nx]) = W6 at s1
  have n6 : W6.next = V.next + 3 := by rw [← hW6, AW.put_next, p2, n3]
  have g6 : ∀ b, b ≠ q → W6.get b = W5.get b := fun b hb => by rw [← hW6]; exact AW.get_put_ne _ _ (Ne.symm hb)
  -- what stands after it
  have back : ∀ b, b < V.next → b ≠ q → b ≠ mh → bl ≠ some b → W6.get b = V.get b := fun b hb e1 e2 e3 => by
    rw [g6 b e1, p4 b (by omega) e3, g3 b (by omega), g2 b e2, g1 b hb]
  have hg6 : W6.get V.next = some (.cells [.int .i64 l[k].1, .int .i64 l[k].2, .int .i64 (k : Int)]) := by
    rw [g6 _ (by have := h1.lt; omega), p4 _ (by omega) (fun e => by have := hbl _ e; omega), g3 _ (by omega), g2 _ (by omega)]; exact x1
  have hml6 : W6.get mh = W2.get mh := by rw [g6 _ mq, p4 _ (by omega) h2, g3 _ (by omega)]
  have gt : mapV_get2 m1 u107 u2 z127 l[k].1 = mapV_get2 m1 u107 u2 z127 l[k].1 := rfl
  refine ⟨_, _, W2, W5, W6, _, mapV_get2 m1 u107 u2 z127 l[k].1, h1.l2, q1.l2, d1, ⟨lv, q2.l0, by rw [hW3]; exact p1⟩, s1, ⟨snoc k f ⟨V.next, l[k].1, l[k].2⟩, ?_⟩, by omega, fun b hb => back b (by omega) (by omega) (by omega) fun e => by have := h3 _ e; omega⟩
  have hlt : ∀ i, i < k → (f i).b < V.next := fun i hi => (h1.pile.en i hi).2
  have eh : ∀ i (hi : i < k), (f i).h = l[i].1 := fun i hi => by have := hvl i (by omega) hi; exact congrArg Prod.fst this
  refine ⟨⟨_, some W3.next, ⟨by rw [← hW6]; exact AW.get_put _ _ _, by have := h1.lt; omega, ⟨.row W3.next [] ?_ (by omega) fun i hi => ?_, fun i hi => ?_, fun i j hi hj e => ?_⟩, fun e => ?_, fun i hi => ?_⟩, fun e => ?_, fun B hB => ?_⟩, by omega, mq, lm, lq, fun i hi => ?_, fun i hil hi => ?_, fun i hi => ?_, ⟨_, _, d2.keep hml6, fun x => ?_, fun ht => ?_⟩, ?_⟩
  · rw [List.append_nil, g6 _ (by have := h1.lt; omega), rowE_snoc]; exact p3
  · by_cases e : i = k
    · rw [e, snoc_n]; simp only; omega
    · rw [snoc_lt (by omega)]; have := hlt i (by omega); omega
  · by_cases e : i = k
    · subst e
      rw [snoc_n]
      exact ⟨hg6, by simp only; omega⟩
    · rw [snoc_lt (by omega)]
      have hi' : i < k := by omega
      have := hlt i hi'
      exact ⟨by rw [back _ this (h1.eq i hi') (en i hi').1 (h1.pile.sl.ne hi')]; exact (h1.pile.en i hi').1, by omega⟩
  · by_cases e1 : i = k
    · by_cases e2 : j = k
      · omega
      · rw [e1, snoc_n, snoc_lt (by omega)] at e
        have := hlt j (by omega)
        simp only at e; omega
    · by_cases e2 : j = k
      · rw [e2, snoc_n, snoc_lt (by omega)] at e
        have := hlt i (by omega)
        simp only at e; omega
      · rw [snoc_lt (by omega), snoc_lt (by omega)] at e
        exact h1.pile.inj i j (by omega) (by omega) e
  · injection e with e; have := h1.lt; omega
  · by_cases e : i = k
    · rw [e, snoc_n]; simp only; have := h1.lt; omega
    · rw [snoc_lt (by omega)]; exact h1.eq i (by omega)
  · injection e with e; omega
  · injection hB with hB; omega
  · by_cases e : i = k
    · rw [e, snoc_n]; simp only; exact ⟨by omega, hlo⟩
    · rw [snoc_lt (by omega)]; exact en i (by omega)
  · by_cases e : i = k
    · subst e; rw [snoc_n]; rfl
    · rw [snoc_lt (by omega)]; exact hvl i hil (by omega)
  · by_cases e : i = k
    · rw [e, snoc_n]; simp only; omega
    · rw [snoc_lt (by omega)]; exact hd i (by omega)
  · constructor
    · intro hx
      by_cases e : x = l[k].1
      · exact ⟨k, by omega, by rw [snoc_n]; exact e.symm⟩
      · rw [if_neg e] at hx
        obtain ⟨i, hi, e1⟩ := (m2 x).1 hx
        exact ⟨i, by omega, by rw [snoc_lt hi]; exact e1⟩
    · rintro ⟨i, hi, e1⟩
      by_cases e : x = l[k].1
      · rw [if_pos e]; rfl
      · rw [if_neg e]
        by_cases ei : i = k
        · rw [ei, snoc_n] at e1; exact absurd e1.symm e
        · rw [snoc_lt (by omega)] at e1
          exact (m2 x).2 ⟨i, by omega, e1⟩
  · simp only [Bool.or_eq_false_iff] at ht
    obtain ⟨t1, t2⟩ := m3 ht.1
    rw [if_neg (by rw [ht.2]; exact Bool.false_ne_true)]
    refine ⟨by omega, fun i hi => ?_⟩
    by_cases e : i = k
    · rw [e, snoc_n, if_pos rfl]
    · rw [snoc_lt (by omega), if_neg, t2 i (by omega)]
      intro e1
      have := (m2 l[k].1).2 ⟨i, by omega, e1⟩
      rw [ht.2] at this; cases this
  · rw [Bool.or_eq_true, htw, twice_step hk, m2]
    constructor
    · rintro (a | ⟨i, hi, e⟩)
      · exact .inl a
      · exact .inr ⟨i, hi, by rw [← eh i hi]; exact e⟩
    · rintro (a | ⟨i, hi, e⟩)
      · exact .inl a
      · exact .inr ⟨i, hi, by rw [eh i hi]; exact e⟩
end Go.Proofs.Ytkpgmabebjmahaa
/- A queue: Load, what it answers. -/
namespace Go.Proofs.Ytkpgmabebjmahaa
open Go Go.Eng Go.Hp
set_option linter.unusedVariables false
set_option linter.unusedSimpArgs false
set_option linter.unusedSectionVars false
set_option maxRecDepth 100000
abbrev sV (nx : Int) (iv : Value) : Value := .agg #[.int .i64 nx, iv]
section
variable {W : AW} {b : Nat} {n : Int} {ev : Value}
theorem bx60 (n : Int) (ev : Value) (W : AW) : ∃ V, oBox (sV n ev) W = some (.pointer (some ⟨W.next, 0, none⟩), V) ∧ Le W V ∧ V.next = W.next + 1 ∧ V.get W.next = some (.cells [.int .i64 n, ev]) := ⟨_, oBox_agg _, (Le.refl _).add _, AW.add_next _ _, AW.get_add _ _⟩
theorem nw60 (W : AW) : ∃ V, oAlloc Try.prog 60 W = some (.pointer (some ⟨W.next, 0, none⟩), V) ∧ Le W V ∧ V.next = W.next + 1 ∧ V.get W.next = some (.cells [.int .i64 0, .slice none 0 0]) := ⟨_, al60 W, (Le.refl _).add _, AW.add_next _ _, AW.get_add _ _⟩
theorem st60 {x y : Value} (h : W.get b = some (.cells [x, y])) (ho : isSl ev) : stV 2 (.pointer (some ⟨b, 0, none⟩)) (sV n ev) W = some (undef, W.put b (.cells [.int .i64 n, ev])) := by
  rw [stV_agg, rwOf h, Option.bind_some, if_pos ⟨rfl, by simp, by have := ho.one; simp [this, one_int]⟩]
  rfl
theorem ld60 (h : W.get b = some (.cells [.int .i64 n, ev])) : ldA 2 (.pointer (some ⟨b, 0, none⟩)) W = some (sV n ev, W) := ldA_all (cellsAt_of h) rfl
theorem ld60a (h : W.get b = some (.cells [.int .i64 n, ev])) : ldC (.pointer (some ⟨b, 0, none⟩)) W = some (.int .i64 n, W) := ldR (rwOf h) rfl
theorem ld60b (h : W.get b = some (.cells [.int .i64 n, ev])) : ldC (.pointer (some ⟨b, 1, none⟩)) W = some (ev, W) := ldR (rwOf h) rfl
theorem vs_sV {n : Int} {v : Value} (h : isSl v) : vsame (sV n v) (sV n v) = true := vsame_agg (by simp [vsL, vs1_int, h.vs])
end
abbrev itV (x : Int × Int) : Value := .agg #[.int .i64 x.1, .int .i64 x.2]
theorem box65 (x : Int × Int) (V : AW) : ∃ V5 V6, oAlloc Try.prog 65 V = some (.pointer (some ⟨V.next, 0, none⟩), V5) ∧ stV 2 (.pointer (some ⟨V.next, 0, none⟩)) (itV x) V5 = some (undef, V6) ∧ Le V V6 ∧ V6.next = V.next + 1 ∧ V6.get V.next = some (.cells [.int .i64 x.1, .int .i64 x.2]) := by
  refine ⟨_, (V.add (.cells [.int .i64 0, .int .i64 0])).put V.next (.cells [.int .i64 x.1, .int .i64 x.2]), al65 V, ?_, ((Le.refl V).add _).put (Nat.le_refl _) _, by rw [AW.put_next, AW.add_next], AW.get_put _ _ _⟩
  rw [stV_agg, rwOf (AW.get_add _ _), Option.bind_some, if_pos ⟨rfl, by simp, by simp [one_int]⟩]
  rfl
theorem LQ.start {W : AW} {lo q mh : Nat} {less : Value} {ls : Int → Int → Bool} {f : Nat → En} {l : List (Int × Int)} {nx : Int} (h : QS W (fun b => lo ≤ b) q mh less ls 1 0 f) : ∃ W', stV 1 (.pointer (some ⟨q, 3, none⟩)) (.int .i64 nx) W = some (undef, W') ∧ LQ W' lo q mh less nx l 0 f false ∧ W'.next = W.next ∧ ∀ b, b < lo → W'.get b = W.get b := by
  obtain ⟨⟨lv, bl, h1, h2, h3⟩, ml, mq, me, iq, im, hp, ⟨m, m1, m2, m3⟩, hd, nx1⟩ := h
  have s1 := stA (v := .int .i64 nx) (o := 3) h1.qc (by simp) rfl rfl
  rw [show ([lv, less, .map (some mh), .int .i64 1] : List Value).set 3 (.int .i64 nx) = [lv, less, .map (some mh), .int .i64 nx] from rfl] at s1
  have q2 := h1.turn (c3' := .int .i64 nx)
  have n2 : (W.put q (.cells [lv, less, .map (some mh), .int .i64 nx])).next = W.next := AW.put_next _ _ _
  refine ⟨_, s1, ⟨⟨lv, bl, q2, h2, fun B hB => h3 B (.inl hB)⟩, by rw [n2]; exact ml, mq, im, iq, fun i hi => by omega, fun i _ hi => by omega, fun i hi => by omega, ⟨m, 0, m1.keep (AW.get_put_ne _ _ (Ne.symm mq)), fun x => ⟨fun hx => ?_, fun ⟨i, hi, _⟩ => by omega⟩, fun _ => ⟨rfl, fun i hi => by omega⟩⟩, ⟨fun h => by (cases h), fun ⟨i, j, _, _, hj, _⟩ => by omega⟩⟩, n2, fun b hb => AW.get_put_ne _ _ (by have : lo ≤ q := iq; omega)⟩
  obtain ⟨v, hv⟩ := Option.isSome_iff_exists.1 hx
  obtain ⟨i, hi, -⟩ := m3 x v hv
  omega
theorem LQ.done {V : AW} {lo q mh : Nat} {less : Value} {ls : Int → Int → Bool} {nx : Int} {l : List (Int × Int)} {f : Nat → En} (o : Ord (bef ls)) (h : LQ V lo q mh less nx l l.length f false) (hnx : 1 ≤ nx) (hf : ¬ formR ls l) : QS V (fun b => lo ≤ b) q mh less ls nx l.length f := by
  obtain ⟨⟨lv, bl, h1, h2, h3⟩, ml, mq, lm, lq, en, hvl, hd, ⟨m, c, m1, m2, m3⟩, htw⟩ := h
  obtain ⟨rfl, m4⟩ := m3 rfl
  refine ⟨⟨lv, bl, h1, h2, fun b hb => ?_⟩, ml, mq, fun i hi => (en i hi).1, lq, lm, asc_heap o fun i hi => ?_, ⟨m, m1, m4, fun k v hk => ?_⟩, hd, hnx⟩
  · rcases hb with hb | ⟨i, hi, rfl⟩
    · exact h3 b hb
    · exact (en i hi).2
  · rw [bef_P, hvl i (by omega) (by omega), hvl (i + 1) hi hi]
    cases hb : befP ls l[i] l[i + 1]
    · exact absurd ⟨i, hi, hb⟩ hf
    · rfl
  · obtain ⟨i, hi, e⟩ := (m2 k).1 (by rw [hk]; rfl)
    refine ⟨i, hi, e, ?_⟩
    have := m4 i hi
    rw [e, hk] at this
    injection this
theorem load_main {W : AW} {k : Nat} {ls : Int → Int → Bool} {nx : Int} {iv : Value} {l : List (Int × Int)} (o : Ord (bef ls)) (hls : IsLess (.func (.func k) #[] #[]) ls) (h : Items W iv l) (hsl : isSl iv) (hl : l.length ≤ 5000) :
    Ok (heaps_Loadint omS (.func (.func k) #[] #[]) (sV nx iv) W) fun r => Le W r.2 ∧ ((¬ chk ls nx l = 0 ∧ r.1 = .tuple #[.pointer none, .int .i64 (chk ls nx l)]) ∨ (chk ls nx l = 0 ∧ ∃ q mh f, r.1 = .tuple #[qV q, .int .i64 0] ∧ QS r.2 (fun b => W.next ≤ b) q mh (.func (.func k) #[] #[]) ls nx l.length f ∧ ∀ i (hi : i < l.length), hv (f i) = l[i])) := by
  unfold heaps_Loadint
  obtain ⟨V, oB, l1, n1, x1⟩ := bx60 nx iv W
  obtain ⟨V2, q, mh, p1, p2, p3⟩ := new_ok (W := V) (In := fun b => V.next ≤ b) (fun b hb => hb) k ls (fun _ => ⟨0, 0, 0⟩)
  have l2 : Le V V2 := ⟨p3.next, fun b hb => p3.get b hb (by omega)⟩
  have x2 : V2.get W.next = some (.cells [.int .i64 nx, iv]) := by rw [l2.get _ (by omega)]; exact x1
  have h2 := h.mono (l1.trans l2)
  have e1 : ¬ (5000 : Int) < (l.length : Int) := by omega
  by_cases c1 : nx < 1
  · have ec : chk ls nx l = 7 := by unfold chk; rw [if_pos (.inl c1)]
    simp only [SX, oB, p1, pEq, Nat.zero_add, ld60b x2, h2.len len58, e1, decide_false, ld60a x2, c1, decide_true, Ok_some]
    exact ⟨l1.trans l2, .inl ⟨by rw [ec]; omega, by rw [ec]⟩⟩
  by_cases c2 : 1000000000000000 < nx
  · have ec : chk ls nx l = 7 := by unfold chk; rw [if_pos (.inr c2)]
    simp only [SX, oB, p1, pEq, Nat.zero_add, ld60b x2, h2.len len58, e1, decide_false, ld60a x2, c1, c2, decide_true, Ok_some]
    exact ⟨l1.trans l2, .inl ⟨by rw [ec]; omega, by rw [ec]⟩⟩
  have ec0 : chk ls nx l = (open Classical in if badR nx l then 7 else if twiceR l l.length then 8 else if formR ls l then 6 else 0) := by
    unfold chk; rw [if_neg (by omega)]
  obtain ⟨V3, s1, s2, s3, s4⟩ := LQ.start (l := l) (nx := nx) p2
  have x3 : V3.get W.next = some (.cells [.int .i64 nx, iv]) := by rw [s4 _ (by omega)]; exact x2
  have lV3 : Le V V3 := ⟨by have := l2.next; omega, fun b hb => by rw [s4 b hb, l2.get b hb]⟩
  have h3 := h.mono (l1.trans lV3)
  simp only [SX, oB, p1, pEq, Nat.zero_add, ld60b x2, h2.len len58, e1, decide_false, ld60a x2, c1, c2, oNilCheck_ptr, s1, ld60b x3, h3.len len58]
  refine Ok_loop l.length (by omega) (fun k' R U => ∃ (f : Nat → En) (tw : Bool), R 3 = .pointer (some ⟨W.next, 0, none⟩) ∧ R 6 = qV q ∧ R 7 = .bool tw ∧ R 39 = iv ∧ R 40 = .int .i64 (l.length : Int) ∧ R 41 = .int .i64 (k' : Int) ∧ LQ U V.next q mh (.func (.func k) #[] #[]) nx l k' f tw ∧ Le V U)
    (fun r => Le V r.2.2 ∧ ((r.1 = .ret ∧ badR nx l ∧ r.2.1 4 = .pointer none ∧ r.2.1 5 = .int .i64 7) ∨ (r.1 = .exit 1 ∧ ¬ badR nx l ∧ ∃ (f : Nat → En) (tw : Bool), r.2.1 6 = qV q ∧ r.2.1 7 = .bool tw ∧ LQ r.2.2 V.next q mh (.func (.func k) #[] #[]) nx l l.length f tw)))
    ⟨fun _ => ⟨0, 0, 0⟩, false, rfl, rfl, rfl, rfl, rfl, rfl, s2, lV3⟩ ?_ ?_ ?_
  · rintro k' R U hk ⟨f, tw, r3, r6, r7, r39, r40, r41, L, lU⟩
    unfold heaps_Loadint_L1
    have lWU := l1.trans lU
    obtain ⟨b, off, i1, i2, i3⟩ := Items.get2 (h.mono lWU) hk
    obtain ⟨f0, -, -⟩ := i3 U rfl
    have t1 : ((k' : Int) < (l.length : Int)) := by omega
    have t2 := fun W' => oBin_add (P := Try.prog) (W := W') (t := 3) (c := false) (d := true) (a := (k' : Int)) (b := 1) (by omega) (by omega)
    have e3 : ((k' + 1 : Nat) : Int) = (k' : Int) + 1 := by omega
    obtain ⟨U1, U2, a1, a2, a3, a4, a5⟩ := box65 l[k'] U
    have xU : ∀ U', Le V U' → U'.get W.next = some (.cells [.int .i64 nx, iv]) := fun U' hle => by rw [hle.get _ (by omega)]; exact x1
    have lU2 := lU.trans a3
    by_cases b1 : l[k'].1 < 1
    · simp only [SX, r3, r6, r39, r40, r41, t1, decide_true, i1, f0, a1, a2, Nat.zero_add, ld60a a5, b1, Ok_some]
      exact .inr ⟨by simp, lU2, .inl ⟨trivial, ⟨k', hk, .inl b1⟩, rfl, rfl⟩⟩
    by_cases b2 : nx ≤ l[k'].1
    · simp only [SX, r3, r6, r39, r40, r41, t1, decide_true, i1, f0, a1, a2, Nat.zero_add, ld60a a5, b1, decide_false, ld60a (xU U2 lU2), b2, Ok_some]
      exact .inr ⟨by simp, lU2, .inl ⟨trivial, ⟨k', hk, .inr b2⟩, rfl, rfl⟩⟩
    obtain ⟨old, is, Wa, Wb, Wc, nv, d1, d2, d3, d4, ⟨lv, d5, d6⟩, d7, ⟨g, d8⟩, d9, d10⟩ := (L.keep a3).step (by have := lU2.next; omega) hk hl (by omega)
    have b65 : ∀ U', Le U2 U' → ldC (.pointer (some ⟨U.next, 0, none⟩)) U' = some (.int .i64 l[k'].1, U') ∧ ldC (.pointer (some ⟨U.next, 1, none⟩)) U' = some (.int .i64 l[k'].2, U') := fun U' hle => by
      have : U'.get U.next = some (.cells [.int .i64 l[k'].1, .int .i64 l[k'].2]) := by rw [hle.get _ (by omega)]; exact a5
      exact ⟨ldR (rwOf this) rfl, ldR (rwOf this) rfl⟩
    have lB : Le U2 (U2.add (.cells [.int .i64 l[k'].1, .int .i64 l[k'].2, .int .i64 (k' : Int)])) := (Le.refl _).add _
    have lWc : Le V Wc := ⟨by have := lU2.next; omega, fun b hb => by rw [d10 b hb, lU2.get b hb]⟩
    cases is with
    | true =>
      simp only [SX, r3, r6, r39, r40, r41, t1, decide_true, i1, f0, a1, a2, Nat.zero_add, (b65 _ (.refl _)).1, (b65 _ (.refl _)).2, b1, decide_false, ld60a (xU U2 lU2), b2, oNilCheck_ptr, d2, d1, bd132c, oBox3, d3, (b65 _ lB).1, d4, d5, bs104, d6, d7, t2, Ok_some]
      exact .inl ⟨trivial, g, true, r3, r6, rfl, r39, r40, by rw [e3]; rfl, by rw [Bool.or_true] at d8; exact d8, lWc⟩
    | false =>
      simp only [SX, r3, r6, r39, r40, r41, t1, decide_true, i1, f0, a1, a2, Nat.zero_add, (b65 _ (.refl _)).1, (b65 _ (.refl _)).2, b1, decide_false, ld60a (xU U2 lU2), b2, oNilCheck_ptr, d2, d1, bd132c, oBox3, d3, (b65 _ lB).1, d4, d5, bs104, d6, d7, t2, Ok_some]
      exact .inl ⟨trivial, g, tw, r3, r6, r7, r39, r40, by rw [e3]; rfl, by rw [Bool.or_false] at d8; exact d8, lWc⟩
  · rintro R U ⟨f, tw, r3, r6, r7, r39, r40, r41, L, lU⟩
    unfold heaps_Loadint_L1
    have t1 : ¬ ((l.length : Int) < (l.length : Int)) := by omega
    simp only [SX, r40, r41, t1, decide_false, Ok_some]
    refine ⟨by simp, lU, .inr ⟨trivial, ?_, f, tw, r6, r7, L⟩⟩
    rintro ⟨i, hi, hb⟩
    have := L.hd i hi
    have e := L.hv i hi hi
    have e' : (f i).h = l[i].1 := congrArg Prod.fst e
    omega
  · rintro ⟨x, R, U⟩ ⟨lU, hx⟩
    simp only at lU hx
    rcases hx with ⟨rfl, hbad, r4, r5⟩ | ⟨rfl, hgood, f, tw, r6, r7, L⟩
    · have ec : chk ls nx l = 7 := by rw [ec0, if_pos hbad]
      simp only [SX, r4, r5, Ok_some]
      exact ⟨l1.trans lU, .inl ⟨by rw [ec]; omega, by rw [ec]⟩⟩
    cases tw with
    | true =>
      have ec : chk ls nx l = 8 := by rw [ec0, if_neg hgood, if_pos (L.tw.1 rfl)]
      simp only [SX, r7, Ok_some]
      exact ⟨l1.trans lU, .inl ⟨by rw [ec]; omega, by rw [ec]⟩⟩
    | false =>
    have hnt : ¬ twiceR l l.length := fun h => by have := L.tw.2 h; cases this
    have ec1 : chk ls nx l = (open Classical in if formR ls l then 6 else 0) := by rw [ec0, if_neg hgood, if_neg hnt]
    obtain ⟨lv, bl, h1, h2', h3'⟩ := L.qp
    simp only [SX, r7]
    refine Ok_loop (l.length - 1) (by omega) (fun k' R' U' => U' = U ∧ R' 6 = qV q ∧ R' 13 = .int .i64 ((k' + 1 : Nat) : Int) ∧ ∀ i (hi : i + 1 < l.length), i < k' → befP ls l[i] l[i + 1] = true)
      (fun r => r.2.2 = U ∧ ((r.1 = .ret ∧ formR ls l ∧ r.2.1 4 = .pointer none ∧ r.2.1 5 = .int .i64 6) ∨ (r.1 = .exit 3 ∧ ¬ formR ls l ∧ r.2.1 6 = qV q))) ⟨rfl, r6, rfl, fun i _ h => absurd h (by omega)⟩ ?_ ?_ ?_
    · rintro k' R' U' hk ⟨rfl, r6, r13, hx⟩
      unfold heaps_Loadint_L2
      have hk1 : k' + 1 < l.length := by omega
      have t1 : (((k' + 1 : Nat) : Int) < (l.length : Int)) := by omega
      have t2 := fun W' => oBin_add (P := Try.prog) (W := W') (t := 3) (c := false) (d := true) (a := ((k' + 1 : Nat) : Int)) (b := 1) (by omega) (by omega)
      have e3 : ((k' + 1 + 1 : Nat) : Int) = ((k' + 1 : Nat) : Int) + 1 := by omega
      have t3 : ∀ W', oBin Try.prog .sub 3 false true (.int .i64 ((k' + 1 : Nat) : Int)) (.int .i64 1) W' = some (.int .i64 (k' : Int), W') := fun W' => sub1 k' (by omega) W'
      have pl := pLess_ok hls h1 (i := k') (k := k' + 1) (by omega) hk1
      rw [bef_P, L.hv k' (by omega) (by omega), L.hv (k' + 1) hk1 hk1] at pl
      cases hb : befP ls l[k'] l[k' + 1]
      · rw [hb] at pl
        simp only [SX, r6, r13, oNilCheck_ptr, Nat.zero_add, h1.l0, h1.pile.len, t1, decide_true, t3, pl, Ok_some]
        exact .inr ⟨by simp, trivial, .inl ⟨trivial, ⟨k', hk1, hb⟩, rfl, rfl⟩⟩
      · rw [hb] at pl
        simp only [SX, r6, r13, oNilCheck_ptr, Nat.zero_add, h1.l0, h1.pile.len, t1, decide_true, t3, pl, t2, Ok_some]
        refine .inl ⟨trivial, trivial, r6, by rw [e3]; rfl, fun i hi hik => ?_⟩
        by_cases e : i = k'
        · subst e; exact hb
        · exact hx i hi (by omega)
    · rintro R' U' ⟨rfl, r6, r13, hx⟩
      unfold heaps_Loadint_L2
      have t1 : ¬ (((l.length - 1 + 1 : Nat) : Int) < (l.length : Int)) := by omega
      simp only [SX, r6, r13, oNilCheck_ptr, Nat.zero_add, h1.l0, h1.pile.len, t1, decide_false, Ok_some]
      refine ⟨by simp, trivial, .inr ⟨trivial, ?_, r6⟩⟩
      rintro ⟨i, hi, hb⟩
      rw [hx i hi (by omega)] at hb; cases hb
    · rintro ⟨x, R', U'⟩ ⟨rfl, hx⟩
      simp only at hx lU
      rcases hx with ⟨rfl, hf, r4, r5⟩ | ⟨rfl, hf, r6'⟩
      · have ec : chk ls nx l = 6 := by rw [ec1, if_pos hf]
        simp only [SX, r4, r5, Ok_some]
        exact ⟨l1.trans lU, .inl ⟨by rw [ec]; omega, by rw [ec]⟩⟩
      · have ec : chk ls nx l = 0 := by rw [ec1, if_neg hf]
        simp only [SX, r6', Ok_some]
        exact ⟨l1.trans lU, .inr ⟨ec, q, mh, f, rfl, (L.done o (by omega) hf).keep (Nat.le_refl _) (fun _ _ _ => rfl) (fun b _ hb => by have : V.next ≤ b := hb; show W.next ≤ b; omega), fun i hi => L.hv i hi hi⟩⟩
theorem loadE_ok {W : AW} {k : Nat} {ls : Int → Int → Bool} {nx : Int} {iv : Value} {l : List (Int × Int)} (o : Ord (bef ls)) (hls : IsLess (.func (.func k) #[] #[]) ls) (h : Items W iv l) (hsl : isSl iv) (hl : l.length ≤ 5000) (hc : ¬ chk ls nx l = 0) : omS (.func (.func 34) #[] #[]) [.func (.func k) #[] #[], sV nx iv] W = some (.tuple #[.pointer none, .int .i64 (chk ls nx l)], W) := by
  obtain ⟨r, h1, hle, hr⟩ := load_main (nx := nx) o hls h hsl hl
  refine om_drop rfl ⟨r, h1, ?_, hle⟩ heaps_Loadint_om
  rcases hr with ⟨-, e⟩ | ⟨e, -⟩
  · exact e
  · exact absurd e hc
theorem load_ok {W : AW} {k : Nat} {ls : Int → Int → Bool} {nx : Int} {iv : Value} {l : List (Int × Int)} (o : Ord (bef ls)) (hls : IsLess (.func (.func k) #[] #[]) ls) (h : Items W iv l) (hsl : isSl iv) (hl : l.length ≤ 5000) (hc : chk ls nx l = 0) : ∃ W' q mh f, omS (.func (.func 34) #[] #[]) [.func (.func k) #[] #[], sV nx iv] W = some (.tuple #[qV q, .int .i64 0], W') ∧ Le W W' ∧ QS W' (fun b => W.next ≤ b) q mh (.func (.func k) #[] #[]) ls nx l.length f ∧ ∀ i (hi : i < l.length), hv (f i) = l[i] := by
  obtain ⟨⟨v, W'⟩, h1, h2, h3⟩ := load_main (nx := nx) o hls h hsl hl
  simp only at h2 h3
  rcases h3 with ⟨e, -⟩ | ⟨-, q, mh, f, rfl, h4, h5⟩
  · exact absurd hc e
  · exact ⟨W', q, mh, f, by rw [heaps_Loadint_om h1, gc_not rfl], h2, h4, h5⟩
end Go.Proofs.Ytkpgmabebjmahaa
/- The specification's queue: Less, before, find, cut, put. -/
namespace Go.Proofs.Ytkpgmabebjmahaa
open Go Go.Eng Go.Hp
set_option linter.unusedVariables false
set_option linter.unusedSimpArgs false
set_option linter.unusedSectionVars false
set_option maxRecDepth 100000
theorem sz58 : sliceZ Try.prog 58 = some 2 := by kernel_rfl
theorem bs58_0 (W : AW) : oBuildSlice Try.prog 58 0 [] W = some (.slice (some ⟨W.next, 0, none⟩) 0 0, W.add (.cells [])) := Eq.trans (by kernel_rfl) rfl
theorem bd60_1 (n : Int) (W : AW) : oBuild Try.prog 60 [(0, .int .i64 n)] W = some (sV n (.slice none 0 0), W) := Eq.trans (by kernel_rfl) rfl
abbrev RQ (lo : Nat) (W : AW) (v : Value) (l : List (Int × Int)) : Prop := RL lo W 2 itC v l
theorem its {lo : Nat} {W : AW} {v : Value} {l : List (Int × Int)} (h : RQ lo W v l) : Items W v l := h.row itC_len itC_at
theorem ordP {ls : Int → Int → Bool} (o : Ord (bef ls)) : Ord (befP ls) := ⟨fun a b h => o.asym ⟨0, a.1, a.2⟩ ⟨0, b.1, b.2⟩ h, fun a b c h1 h2 => o.neg ⟨0, a.1, a.2⟩ ⟨0, b.1, b.2⟩ ⟨0, c.1, c.2⟩ h1 h2⟩
abbrev KS (k : Int) : Int → Int → Bool := byK (kfOf k)
theorem rLess_ok (k a b : Int) (W : AW) : omS (.func (.func 105) #[] #[]) [.int .u8 k, .int .i64 a, .int .i64 b] W = some (.bool (KS k a b), W) := by
  refine om_drop rfl ?_ ref06_Less_om
  unfold ref06_Less
  have e : oBin Try.prog .rem 5 false true (.int .u8 k) (.int .u8 2) W = some (.int .u8 (k.tmod 2), W) := oBin_rem (by omega)
  have e10 : ∀ x W, oBin Try.prog .rem 3 false true (.int .i64 x) (.int .i64 10) W = some (.int .i64 (x.tmod 10), W) := fun x W => oBin_rem (by omega)
  by_cases h : k.tmod 2 = 1
  · have h' : decide (k.tmod 2 = 1) = true := decide_eq_true h
    simp only [SX, e, h', max0_ok, e10, Ok_some]
    refine ⟨?_, .refl _⟩
    unfold KS kfOf byK
    rw [if_pos h]
    unfold tenK
    congr 1
    simp
  · have h' : decide (k.tmod 2 = 1) = false := decide_eq_false h
    simp only [SX, e, h', Ok_some]
    refine ⟨?_, .refl _⟩
    unfold KS kfOf byK
    rw [if_neg h]
    rfl
theorem bxIt (x : Int × Int) (W : AW) : ∃ V, oBox (itV x) W = some (.pointer (some ⟨W.next, 0, none⟩), V) ∧ Le W V ∧ V.next = W.next + 1 ∧ V.get W.next = some (.cells [.int .i64 x.1, .int .i64 x.2]) := ⟨_, oBox_agg _, (Le.refl _).add _, AW.add_next _ _, AW.get_add _ _⟩
theorem rBefore_ok (k : Int) (a b : Int × Int) (W : AW) : omS (.func (.func 75) #[] #[]) [.int .u8 k, itV a, itV b] W = some (.bool (befP (KS k) a b), W) := by
  refine om_drop rfl ?_ ref06_before_om
  unfold ref06_before
  obtain ⟨V, b1, l1, n1, x1⟩ := bxIt a W
  obtain ⟨V2, b2, l2, n2, x2⟩ := bxIt b V
  have x1' : V2.get W.next = some (.cells [.int .i64 a.1, .int .i64 a.2]) := by rw [l2.get _ (by omega)]; exact x1
  have a1 : ldC (.pointer (some ⟨W.next, 0, none⟩)) V2 = some (.int .i64 a.1, V2) := ldR (rwOf x1') rfl
  have a2 : ldC (.pointer (some ⟨W.next, 1, none⟩)) V2 = some (.int .i64 a.2, V2) := ldR (rwOf x1') rfl
  have c1 : ldC (.pointer (some ⟨V.next, 0, none⟩)) V2 = some (.int .i64 b.1, V2) := ldR (rwOf x2) rfl
  have c2 : ldC (.pointer (some ⟨V.next, 1, none⟩)) V2 = some (.int .i64 b.2, V2) := ldR (rwOf x2) rfl
  have hl := l1.trans l2
  unfold befP
  cases h1 : KS k a.2 b.2
  · cases h2 : KS k b.2 a.2
    · simp only [SX, b1, b2, Nat.zero_add, a1, a2, c1, c2, rLess_ok, h1, h2, Ok_some]
      exact ⟨by simp, hl⟩
    · simp only [SX, b1, b2, Nat.zero_add, a1, a2, c1, c2, rLess_ok, h1, h2, Ok_some]
      exact ⟨by simp, hl⟩
  · simp only [SX, b1, b2, Nat.zero_add, a1, a2, c1, c2, rLess_ok, h1, Ok_some]
    exact ⟨by simp, hl⟩
section
variable {W : AW} {lo : Nat} {nx : Int} {iv : Value} {l : List (Int × Int)}
theorem rNewQ_ok (W : AW) : omS (.func (.func 39) #[] #[]) [] W = some (sV 1 (.slice none 0 0), W) := by
  refine om_drop rfl ?_ ref06_New_om
  unfold ref06_New
  obtain ⟨V, a1, a2, a3, a4⟩ := nw60 W
  have st := st60 (n := 1) a4 (.inr ⟨0, 0, rfl⟩)
  have lx := ld60 (W := V.put W.next (.cells [.int .i64 1, .slice none 0 0])) (AW.get_put _ _ _)
  simp only [SX, a1, bd60_1, st, oRes_L1, oL60, lx, Option.bind_some, Ok_some]
  exact ⟨trivial, a2.put (Nat.le_refl _) _⟩
/-- the place of a handle -/
theorem rFind_ok (h : Items W iv l) (hl : l.length ≤ 10000) (s : Int) : (∃ i : Nat, ∃ hi : i < l.length, l[i].1 = s ∧ omS (.func (.func 107) #[] #[]) [sV nx iv, .int .i64 s] W = some (.int .i64 (i : Int), W)) ∨ ((∀ x ∈ l, ¬ x.1 = s) ∧ omS (.func (.func 107) #[] #[]) [sV nx iv, .int .i64 s] W = some (.int .i64 (-1), W)) := by
  have main : Ok (ref06_find omS (sV nx iv) (.int .i64 s) W) fun r => Le W r.2 ∧ ((∃ i : Nat, ∃ hi : i < l.length, l[i].1 = s ∧ r.1 = .int .i64 (i : Int)) ∨ ((∀ x ∈ l, ¬ x.1 = s) ∧ r.1 = .int .i64 (-1))) := by
    unfold ref06_find
    obtain ⟨V, oB, l1, n1, x1⟩ := bx60 nx iv W
    have hV := h.mono l1
    have ld := ld60b x1
    simp only [SX, oB]
    refine Ok_loop l.length (by omega) (fun k R W' => W' = V ∧ R 1 = .int .i64 s ∧ R 2 = .pointer (some ⟨W.next, 0, none⟩) ∧ R 5 = .int .i64 (k : Int) ∧ ∀ j (hj : j < l.length), j < k → ¬ l[j].1 = s)
      (fun r => r.2.2 = V ∧ ((r.1 = .exit 0 ∧ ∀ x ∈ l, ¬ x.1 = s) ∨ (r.1 = .ret ∧ ∃ i : Nat, ∃ hi : i < l.length, l[i].1 = s ∧ r.2.1 4 = .int .i64 (i : Int)))) ⟨rfl, rfl, rfl, rfl, fun j hj h => absurd h (by omega)⟩ ?_ ?_ ?_
    · rintro k R W' hk ⟨rfl, r1, r2, r5, hx⟩
      unfold ref06_find_L1
      obtain ⟨b, o, i1, i2, i3⟩ := Items.get2 hV hk
      obtain ⟨-, f1, f2⟩ := i3 W' rfl
      have t1 : ((k : Int) < (l.length : Int)) := by omega
      have t2 := fun W' => oBin_add (P := Try.prog) (W := W') (t := 3) (c := false) (d := true) (a := (k : Int)) (b := 1) (by omega) (by omega)
      by_cases e : l[k].1 = s
      · have e' : decide (l[k].1 = s) = true := decide_eq_true e
        simp only [SX, r1, r2, r5, Nat.zero_add, ld, hV.len len58, t1, decide_true, i1, f1, Nat.add_zero, e', Ok_some]
        exact .inr ⟨by simp, trivial, .inr ⟨trivial, k, hk, e, rfl⟩⟩
      · have e' : decide (l[k].1 = s) = false := decide_eq_false e
        simp only [SX, r1, r2, r5, Nat.zero_add, ld, hV.len len58, t1, decide_true, i1, f1, Nat.add_zero, e', t2, Ok_some]
        refine .inl ⟨trivial, trivial, r1, r2, by rw [show ((k + 1 : Nat) : Int) = (k : Int) + 1 by omega]; rfl, fun j hj hjk => ?_⟩
        by_cases ej : j = k
        · subst ej; exact e
        · exact hx j hj (by omega)
    · rintro R W' ⟨rfl, r1, r2, r5, hx⟩
      unfold ref06_find_L1
      have t1 : ¬ ((l.length : Int) < (l.length : Int)) := by omega
      simp only [SX, r2, r5, Nat.zero_add, ld, hV.len len58, t1, decide_false, Ok_some]
      refine ⟨by simp, trivial, .inl ⟨trivial, fun x hx' => ?_⟩⟩
      obtain ⟨j, hj, rfl⟩ := List.mem_iff_getElem.1 hx'
      exact hx j hj hj
    · rintro ⟨x, R, W'⟩ ⟨rfl, hx⟩
      simp only at hx l1
      rcases hx with ⟨rfl, hx⟩ | ⟨rfl, i, hi, e1, e2⟩
      · simp only [SX, Ok_some]
        exact ⟨l1, .inr ⟨hx, trivial⟩⟩
      · simp only [SX, e2, Ok_some]
        exact ⟨l1, .inl ⟨i, hi, e1, rfl⟩⟩
  obtain ⟨⟨v, W'⟩, h1, h2, h3⟩ := main
  simp only at h2 h3
  rcases h3 with ⟨i, hi, e1, rfl⟩ | ⟨hx, rfl⟩
  · exact .inl ⟨i, hi, e1, om_drop rfl ⟨_, h1, rfl, h2⟩ ref06_find_om⟩
  · exact .inr ⟨hx, om_drop rfl ⟨_, h1, rfl, h2⟩ ref06_find_om⟩
theorem pl_s {n : Int} {v : Value} (h : plain (sV n v) = true) (a : Addr) (k c : Nat) : ¬ v = .slice (some a) k c ∨ k = 0 := .inl fun e => by
  subst e; exact absurd h (by simp [plain, plain1, scalar])
theorem pl_s2 {n : Int} {v u : Value} (h : plain (.tuple #[sV n v, u]) = true) (a : Addr) (k c : Nat) : ¬ v = .slice (some a) k c ∨ k = 0 := .inl fun e => by
  subst e; exact absurd h (by simp [plain, plain1, scalar])
theorem pl_s3 {n : Int} {v u x : Value} (h : plain (.tuple #[sV n v, u, x]) = true) (a : Addr) (k c : Nat) : ¬ v = .slice (some a) k c ∨ k = 0 := .inl fun e => by
  subst e; exact absurd h (by simp [plain, plain1, scalar])
theorem pl_s4 {n : Int} {v u x y : Value} (h : plain (.tuple #[sV n v, u, x, y]) = true) (a : Addr) (k c : Nat) : ¬ v = .slice (some a) k c ∨ k = 0 := .inl fun e => by
  subst e; exact absurd h (by simp [plain, plain1, scalar])
theorem cut_ok (h : RQ lo W iv l) {i : Nat} (hi : i < l.length) (hl : l.length ≤ 10000) : ∃ W' ev', omS (.func (.func 106) #[] #[]) [sV nx iv, .int .i64 (i : Int)] W = some (sV nx ev', W') ∧ Le W W' ∧ RQ W.next W' ev' (l.take i ++ l.drop (i + 1)) := by
  have main : Ok (ref06_cut omS (sV nx iv) (.int .i64 (i : Int)) W) fun r => ∃ ev', r.1 = sV nx ev' ∧ Le W r.2 ∧ RQ W.next r.2 ev' (l.take i ++ l.drop (i + 1)) := by
    unfold ref06_cut
    obtain ⟨V, oB, l1, n1, x1⟩ := bx60 nx iv W
    obtain ⟨V2, a1, a2, a3, a4⟩ := nw60 V
    generalize hV3 : V2.add (.cells []) = V3
    have n3 : V3.next = V2.next + 1 := by rw [← hV3, AW.add_next]
    have l3 : Le V2 V3 := by rw [← hV3]; exact (Le.refl _).add _
    have lW3 : Le W V3 := (l1.trans a2).trans l3
    have x3 : V3.get W.next = some (.cells [.int .i64 nx, iv]) := by rw [l3.get _ (by omega), a2.get _ (by omega)]; exact x1
    have y3 : V3.get V.next = some (.cells [.int .i64 0, .slice none 0 0]) := by rw [l3.get _ (by omega)]; exact a4
    obtain ⟨v1, s1, s2⟩ := h.to (kk := .i64) sz58 (by omega) itC_len (k := i) (by omega) (by omega)
    obtain ⟨v2, s3, s4⟩ := h.from (kk := .i64) sz58 (by omega) itC_len (k := i + 1) (by omega) (by omega)
    obtain ⟨v3, V4, p1, p2, p3, p4⟩ := (EL.nil' V2.next V3 2 itC V2.next).app ap58 itC_len itC_one (s2.keep lW3) (by simp; omega) (by simp; omega) (by omega)
    have p1' : aAppend Try.prog (V2.add (.cells [])) #[58, 58] (.slice (some ⟨V2.next, 0, none⟩) 0 0) v1 = some (v3, V4) := by rw [hV3]; exact p1
    have lW4 : Le W V4 := ⟨by have := lW3.next; omega, fun b hb => by rw [p4 b (by omega), lW3.get b hb]⟩
    obtain ⟨v5, V5, q1, q2, q3, q4⟩ := p2.app ap58 itC_len itC_one (s4.keep lW4) (by simp; omega) (by simp; omega) (by omega)
    have x4 : V4.get W.next = some (.cells [.int .i64 nx, iv]) := by rw [p4 _ (by omega)]; exact x3
    have x5 : V5.get W.next = some (.cells [.int .i64 nx, iv]) := by rw [q4 _ (by omega)]; exact x4
    have y5 : V5.get V.next = some (.cells [.int .i64 0, .slice none 0 0]) := by rw [q4 _ (by omega), p4 _ (by omega)]; exact y3
    have hsl := h.isSl
    have hsl5 := q2.isSl
    have t1 := fun W' => oBin_add (P := Try.prog) (W := W') (t := 3) (c := false) (d := true) (a := (i : Int)) (b := 1) (by omega) (by omega)
    have e3 : (i : Int) + 1 = ((i + 1 : Nat) : Int) := by omega
    have st := stA (v := v5) (o := 1) x5 (by simp) hsl5.cells hsl5.one
    rw [show ([.int .i64 nx, iv] : List Value).set 1 v5 = [.int .i64 nx, v5] from rfl] at st
    generalize hV6 : V5.put W.next (.cells [.int .i64 nx, v5]) = V6 at st
    have x6 : V6.get W.next = some (.cells [.int .i64 nx, v5]) := by rw [← hV6]; exact AW.get_put _ _ _
    have g6 : ∀ b, b ≠ W.next → V6.get b = V5.get b := fun b hb => by rw [← hV6]; exact AW.get_put_ne _ _ (Ne.symm hb)
    have n6 : V6.next = V5.next := by rw [← hV6, AW.put_next]
    have y6 : V6.get V.next = some (.cells [.int .i64 0, .slice none 0 0]) := by rw [g6 _ (by omega)]; exact y5
    have st2 := st60 (n := nx) y6 hsl5
    have lx := ld60 (W := V6.put V.next (.cells [.int .i64 nx, v5])) (AW.get_put _ _ _)
    have ldx : ldC (.pointer (some ⟨W.next, 1, none⟩)) (V2.add (.cells [])) = some (iv, V2.add (.cells [])) := by rw [hV3]; exact ld60b x3
    have ldx4 := ld60b x4
    simp only [SX, oB, a1, bs58_0, Nat.zero_add, ldx, s1, t1, e3, s3, p1', ldx4, agV_some, hsl.vsame, Bool.and_self, q1, st, ld60 x6, st2, oRes_L1, oL60, lx, Option.bind_some, Ok_some]
    refine ⟨v5, rfl, ⟨?_, fun b hb => ?_⟩, ?_⟩
    · rw [AW.put_next]
      have := lW3.next
      omega
    · rw [AW.get_put_ne _ _ (by omega), g6 b (by omega), q4 b (by omega), p4 b (by omega), lW3.get b hb]
    · exact .inl ((q2.keep (W' := V6.put V.next (.cells [.int .i64 nx, v5])) (by rw [AW.put_next]; omega) fun b hb1 hb2 => by rw [AW.get_put_ne _ _ (by omega), g6 b (by omega)]).low (by omega))
  obtain ⟨v, W', h1, ev', rfl, h2, h3⟩ := om_q' (Q := fun v W' => ∃ ev', v = sV nx ev' ∧ Le W W' ∧ RQ W.next W' ev' (l.take i ++ l.drop (i + 1))) main ref06_cut_om (fun v W' ⟨ev', e, h1, h2⟩ hle hp => ⟨ev', e, .refl _, h2.anew (pl_s (e ▸ hp))⟩)
  exact ⟨W', ev', h1, h2, h3⟩
theorem rput_ok {k : Int} {x : Int × Int} (h : RQ lo W iv l) (hl : l.length ≤ 10000) : ∃ W' ev' n, omS (.func (.func 108) #[] #[]) [.int .u8 k, sV nx iv, itV x] W = some (sV nx ev', W') ∧ Le W W' ∧ RQ W.next W' ev' (putL l x n) ∧ (∀ j (hj : j < l.length), j < n → befP (KS k) l[j] x = true) ∧ ∀ hn : n < l.length, befP (KS k) l[n] x = false := by
  have main : Ok (ref06_put omS (.int .u8 k) (sV nx iv) (itV x) W) fun r => ∃ ev' n, r.1 = sV nx ev' ∧ Le W r.2 ∧ RQ W.next r.2 ev' (putL l x n) ∧ (∀ j (hj : j < l.length), j < n → befP (KS k) l[j] x = true) ∧ ∀ hn : n < l.length, befP (KS k) l[n] x = false := by
    unfold ref06_put
    obtain ⟨V, oB, l1, n1, x1⟩ := bx60 nx iv W
    obtain ⟨V1, oB2, l1', n1', x1'⟩ := bxIt x V
    obtain ⟨V2, a1, a2, a3, a4⟩ := nw60 V1
    have x2 : V2.get W.next = some (.cells [.int .i64 nx, iv]) := by rw [a2.get _ (by omega), l1'.get _ (by omega)]; exact x1
    have z2 : V2.get V.next = some (.cells [.int .i64 x.1, .int .i64 x.2]) := by rw [a2.get _ (by omega)]; exact x1'
    have l2 := (l1.trans l1').trans a2
    have h2 := h.mono l2
    have hit := its h2
    simp only [SX, oB, oB2, a1]
    refine Ok_loop l.length (by omega) (fun k' R W' => W' = V2 ∧ R 0 = .int .u8 k ∧ R 4 = .pointer (some ⟨W.next, 0, none⟩) ∧ R 5 = .pointer (some ⟨V.next, 0, none⟩) ∧ R 6 = .pointer (some ⟨V1.next, 0, none⟩) ∧ R 7 = .int .i64 (k' : Int) ∧ ∀ j (hj : j < l.length), j < k' → befP (KS k) l[j] x = true)
      (fun r => r.1 = .exit 0 ∧ r.2.2 = V2 ∧ r.2.1 4 = .pointer (some ⟨W.next, 0, none⟩) ∧ r.2.1 5 = .pointer (some ⟨V.next, 0, none⟩) ∧ r.2.1 6 = .pointer (some ⟨V1.next, 0, none⟩) ∧ ∃ n : Nat, n ≤ l.length ∧ r.2.1 7 = .int .i64 (n : Int) ∧ (∀ j (hj : j < l.length), j < n → befP (KS k) l[j] x = true) ∧ ∀ hn : n < l.length, befP (KS k) l[n] x = false) ⟨rfl, rfl, rfl, rfl, rfl, rfl, fun j hj h => absurd h (by omega)⟩ ?_ ?_ ?_
    · rintro k' R W' hk ⟨rfl, r0, r4, r5, r6, r7, hlow⟩
      unfold ref06_put_L1
      obtain ⟨b, o, i1, i2, i3⟩ := Items.get2 hit hk
      obtain ⟨f0, f1, f2⟩ := i3 W' rfl
      have t1 : ((k' : Int) < (l.length : Int)) := by omega
      have t2 := fun W' => oBin_add (P := Try.prog) (W := W') (t := 3) (c := false) (d := true) (a := (k' : Int)) (b := 1) (by omega) (by omega)
      have lz : ldA 2 (.pointer (some ⟨V.next, 0, none⟩)) W' = some (itV x, W') := ldA_all (cellsAt_of z2) rfl
      cases e : befP (KS k) l[k'] x
      · simp only [SX, r0, r4, r5, r7, Nat.zero_add, ld60b x2, hit.len len58, t1, decide_true, i1, f0, lz, rBefore_ok, e, Ok_some]
        exact .inr ⟨by simp, trivial, trivial, r4, r5, r6, k', by omega, r7, hlow, fun _ => e⟩
      · simp only [SX, r0, r4, r5, r7, Nat.zero_add, ld60b x2, hit.len len58, t1, decide_true, i1, f0, lz, rBefore_ok, e, t2, Ok_some]
        refine .inl ⟨trivial, trivial, r0, r4, r5, r6, by rw [show ((k' + 1 : Nat) : Int) = (k' : Int) + 1 by omega]; rfl, fun j hj hjk => ?_⟩
        by_cases ej : j = k'
        · subst ej; exact e
        · exact hlow j hj (by omega)
    · rintro R W' ⟨rfl, r0, r4, r5, r6, r7, hlow⟩
      unfold ref06_put_L1
      have t1 : ¬ ((l.length : Int) < (l.length : Int)) := by omega
      simp only [SX, r0, r4, r5, r7, Nat.zero_add, ld60b x2, hit.len len58, t1, decide_false, Ok_some]
      exact ⟨by simp, trivial, trivial, r4, r5, r6, l.length, by omega, r7, hlow, fun hn => absurd hn (by omega)⟩
    · rintro ⟨y, R, W'⟩ ⟨hx', rfl, r4, r5, r6, n, hn, r7, hlow, hup⟩
      simp only at hx' r4 r5 r6 r7 a2 a3 a4 x2 z2 l2 h2
      subst hx'
      -- the empty row
      generalize hV3 : W'.add (.cells []) = V3
      have n3 : V3.next = W'.next + 1 := by rw [← hV3, AW.add_next]
      have l3 : Le W' V3 := by rw [← hV3]; exact (Le.refl _).add _
      have lW3 := l2.trans l3
      obtain ⟨v1, s1, s2⟩ := h.to (kk := .i64) sz58 (by omega) itC_len (k := n) hn (by omega)
      obtain ⟨v2, s3, s4⟩ := h.from (kk := .i64) sz58 (by omega) itC_len (k := n) hn (by omega)
      -- the literal
      generalize hV4 : V3.add (.cells [.int .i64 x.1, .int .i64 x.2]) = V4
      have n4 : V4.next = V3.next + 1 := by rw [← hV4, AW.add_next]
      have l4 : Le V3 V4 := by rw [← hV4]; exact (Le.refl _).add _
      have c4 : cellsAt V4 V3.next = some (itC x) := by rw [← hV4]; exact cellsAt_new
      have lW4 := lW3.trans l4
      obtain ⟨v5, V5, p1, p2, p3, p4⟩ := (EL.nil' V4.next V4 2 itC W'.next).app ap58 itC_len itC_one (s2.keep lW4) (by simp; omega) (by simp; omega) (Nat.le_refl _)
      have p1' : aAppend Try.prog (V3.add (.cells [.int .i64 x.1, .int .i64 x.2])) #[58, 58] (.slice (some ⟨W'.next, 0, none⟩) 0 0) v1 = some (v5, V5) := by rw [hV4]; exact p1
      have n5 := p3
      have lW5 : Le W V5 := ⟨by have := lW4.next; omega, fun b hb => by rw [p4 b (by have := lW4.next; omega), lW4.get b hb]⟩
      have c5 : cellsAt V5 V3.next = some (itC x) := by
        have : cellsAt V5 V3.next = cellsAt V4 V3.next := by unfold cellsAt; rw [p4 _ (by omega)]
        rw [this]; exact c4
      have rd5 : Rd V5 2 itC (.slice (some ⟨V3.next, 0, none⟩) 1 1) [x] := ⟨_, _, rfl, .inr ⟨V3.next, 0, _, rfl, by omega, c5, by simp [itC]⟩⟩
      obtain ⟨v6, V6, q1, q2, q3, q4⟩ := p2.app ap58 itC_len itC_one rd5 (by simp; omega) (by simp; omega) p3
      have lW6 : Le W V6 := ⟨by have := lW5.next; omega, fun b hb => by rw [q4 b (by have := lW4.next; omega), lW5.get b hb]⟩
      obtain ⟨v7, V7, u1, u2, u3, u4⟩ := q2.app ap58 itC_len itC_one (s4.keep lW6) (by simp; omega) (by simp; omega) (by omega)
      have e7 : (List.take n l ++ [x]) ++ List.drop n l = putL l x n := by unfold putL; rw [List.append_assoc]; rfl
      simp only [List.nil_append] at u2
      rw [e7] at u2
      have lW7 : Le W V7 := ⟨by have := lW6.next; omega, fun b hb => by rw [u4 b (by have := lW4.next; omega), lW6.get b hb]⟩
      have low4 : ∀ b, b < W'.next → V4.get b = W'.get b := fun b hb => by rw [l4.get b (by omega), l3.get b hb]
      have nW := l1.next
      have n2 := a2.next
      have x4 : V4.get W.next = some (.cells [.int .i64 nx, iv]) := by rw [low4 _ (by omega)]; exact x2
      have z4 : V4.get V.next = some (.cells [.int .i64 x.1, .int .i64 x.2]) := by rw [low4 _ (by omega)]; exact z2
      have y4 : V4.get V1.next = some (.cells [.int .i64 0, .slice none 0 0]) := by rw [low4 _ (by omega)]; exact a4
      have x5 : V5.get W.next = some (.cells [.int .i64 nx, iv]) := by rw [p4 _ (by omega)]; exact x4
      have z5 : V5.get V.next = some (.cells [.int .i64 x.1, .int .i64 x.2]) := by rw [p4 _ (by omega)]; exact z4
      have x6 : V6.get W.next = some (.cells [.int .i64 nx, iv]) := by rw [q4 _ (by omega)]; exact x5
      have x7 : V7.get W.next = some (.cells [.int .i64 nx, iv]) := by rw [u4 _ (by omega)]; exact x6
      have y7 : V7.get V1.next = some (.cells [.int .i64 0, .slice none 0 0]) := by rw [u4 _ (by omega), q4 _ (by omega), p4 _ (by omega)]; exact y4
      have hsl := h.isSl
      have hsl7 := u2.isSl
      have st := stA (v := v7) (o := 1) x7 (by simp) hsl7.cells hsl7.one
      rw [show ([.int .i64 nx, iv] : List Value).set 1 v7 = [.int .i64 nx, v7] from rfl] at st
      generalize hV8 : V7.put W.next (.cells [.int .i64 nx, v7]) = V8 at st
      have x8 : V8.get W.next = some (.cells [.int .i64 nx, v7]) := by rw [← hV8]; exact AW.get_put _ _ _
      have g8 : ∀ b, b ≠ W.next → V8.get b = V7.get b := fun b hb => by rw [← hV8]; exact AW.get_put_ne _ _ (Ne.symm hb)
      have n8 : V8.next = V7.next := by rw [← hV8, AW.put_next]
      have y8 : V8.get V1.next = some (.cells [.int .i64 0, .slice none 0 0]) := by rw [g8 _ (by omega)]; exact y7
      have st2 := st60 (n := nx) y8 hsl7
      have lx := ld60 (W := V8.put V1.next (.cells [.int .i64 nx, v7])) (AW.get_put _ _ _)
      have lz3 : ldA 2 (.pointer (some ⟨V.next, 0, none⟩)) V3 = some (itV x, V3) := by
        have : V3.get V.next = some (.cells [.int .i64 x.1, .int .i64 x.2]) := by rw [l3.get _ (by omega)]; exact z2
        exact ldA_all (cellsAt_of this) rfl
      have lx3 : ldC (.pointer (some ⟨W.next, 1, none⟩)) V3 = some (iv, V3) := ld60b (by rw [l3.get _ (by omega)]; exact x2)
      have lz5 : ldA 2 (.pointer (some ⟨V.next, 0, none⟩)) V5 = some (itV x, V5) := ldA_all (cellsAt_of z5) rfl
      have vsx : vsame (itV x) (itV x) = true := vsame_agg (by simp [vsL, vs1_int])
      simp only [SX, r4, r5, r6, r7, bs58_0, Nat.zero_add, lx3, s1, lz3, bs58, hV3, hV4, ld60b x4, s3, p1, ld60b x5, lz5, agV_some, hsl.vsame, vsx, Bool.and_self, q1, ld60b x6, u1, st, ld60 x8, st2, oRes_L1, oL60, lx, Option.bind_some, Ok_some]
      refine ⟨v7, n, rfl, ⟨?_, fun b hb => ?_⟩, ?_, hlow, hup⟩
      · rw [AW.put_next]
        have := lW7.next
        omega
      · rw [AW.get_put_ne _ _ (by omega), g8 b (by omega), lW7.get b hb]
      · exact .inl ((u2.keep (W' := V8.put V1.next (.cells [.int .i64 nx, v7])) (by rw [AW.put_next]; omega) fun b hb1 hb2 => by rw [AW.get_put_ne _ _ (by omega), g8 b (by omega)]).low (by have := lW4.next; omega))
  obtain ⟨v, W', h1, ev', n, rfl, h2, h3, h4, h5⟩ := om_q' (Q := fun v W' => ∃ ev' n, v = sV nx ev' ∧ Le W W' ∧ RQ W.next W' ev' (putL l x n) ∧ (∀ j (hj : j < l.length), j < n → befP (KS k) l[j] x = true) ∧ ∀ hn : n < l.length, befP (KS k) l[n] x = false) main ref06_put_om (fun v W' ⟨ev', n, e, h1, h2, h3⟩ hle hp => ⟨ev', n, e, .refl _, h2.anew (pl_s (e ▸ hp)), h3⟩)
  exact ⟨W', ev', n, h1, h2, h3, h4, h5⟩
end
end Go.Proofs.Ytkpgmabebjmahaa
/- The specification's queue: Push, Peek, Pop, Get, Set, Remove. -/
namespace Go.Proofs.Ytkpgmabebjmahaa
open Go Go.Eng Go.Hp
set_option linter.unusedVariables false
set_option linter.unusedSimpArgs false
set_option linter.unusedSectionVars false
set_option maxRecDepth 100000
section
variable {W : AW} {lo : Nat} {nx : Int} {iv : Value} {l : List (Int × Int)}
/-- where put puts it -/
structure PutAt (k : Int) (l : List (Int × Int)) (x : Int × Int) (n : Nat) : Prop where
  low : ∀ j (hj : j < l.length), j < n → befP (KS k) l[j] x = true
  up : ∀ hn : n < l.length, befP (KS k) l[n] x = false
theorem rPushF_ok {k v : Int} (h : RQ lo W iv l) (hl : l.length < 5000) (hn : 1000000000000000 ≤ nx) : ∃ W', omS (.func (.func 81) #[] #[]) [.int .u8 k, sV nx iv, .int .i64 v] W = some (.tuple #[sV nx iv, .int .i64 0, .int .i64 5], W') ∧ Le W W' := by
  have main : Ok (ref06_Push omS (.int .u8 k) (sV nx iv) (.int .i64 v) W) fun r => r.1 = .tuple #[sV nx iv, .int .i64 0, .int .i64 5] ∧ Le W r.2 := by
    unfold ref06_Push
    obtain ⟨V, oB, l1, n1, x1⟩ := bx60 nx iv W
    obtain ⟨V2, a1, a2, a3, a4⟩ := nw60 V
    have x2 : V2.get W.next = some (.cells [.int .i64 nx, iv]) := by rw [a2.get _ (by omega)]; exact x1
    have hit := its (h.mono (l1.trans a2))
    have e1 : ¬ (5000 : Int) ≤ (l.length : Int) := by omega
    have st := st60 (n := nx) a4 h.isSl
    have lx := ld60 (W := V2.put V.next (.cells [.int .i64 nx, iv])) (AW.get_put _ _ _)
    simp only [SX, oB, a1, Nat.zero_add, ld60b x2, hit.len len58, e1, decide_false, ld60a x2, hn, decide_true, ld60 x2, st, oRes_Lnn, oL60, lx, Option.bind_some, Ok_some]
    exact ⟨trivial, (l1.trans a2).put (by have := l1.next; omega) _⟩
  obtain ⟨v', W', h1, rfl, h2⟩ := om_q' (Q := fun v W' => v = .tuple #[sV nx iv, .int .i64 0, .int .i64 5] ∧ Le W W') main ref06_Push_om (fun v W' h hle hp => ⟨h.1, .refl _⟩)
  exact ⟨W', h1, h2⟩
theorem rPush_ok {k v : Int} (h : RQ lo W iv l) (hl : l.length < 5000) (hn : nx < 1000000000000000) (hn1 : 1 ≤ nx) : ∃ W' ev' n, omS (.func (.func 81) #[] #[]) [.int .u8 k, sV nx iv, .int .i64 v] W = some (.tuple #[sV (nx + 1) ev', .int .i64 nx, .int .i64 0], W') ∧ Le W W' ∧ RQ W.next W' ev' (putL l (nx, v) n) ∧ PutAt k l (nx, v) n := by
  have main : Ok (ref06_Push omS (.int .u8 k) (sV nx iv) (.int .i64 v) W) fun r => ∃ ev' n, r.1 = .tuple #[sV (nx + 1) ev', .int .i64 nx, .int .i64 0] ∧ Le W r.2 ∧ RQ W.next r.2 ev' (putL l (nx, v) n) ∧ PutAt k l (nx, v) n := by
    unfold ref06_Push
    obtain ⟨V, oB, l1, n1, x1⟩ := bx60 nx iv W
    obtain ⟨V2, a1, a2, a3, a4⟩ := nw60 V
    have x2 : V2.get W.next = some (.cells [.int .i64 nx, iv]) := by rw [a2.get _ (by omega)]; exact x1
    have hit := its (h.mono (l1.trans a2))
    have e1 : ¬ (5000 : Int) ≤ (l.length : Int) := by omega
    have e2 : ¬ 1000000000000000 ≤ nx := by omega
    have t1 := fun W' => oBin_add (P := Try.prog) (W := W') (t := 2) (c := false) (d := true) (a := nx) (b := 1) (by omega) (by omega)
    have s1 := stA (v := .int .i64 (nx + 1)) (o := 0) x2 (by simp) rfl rfl
    rw [show ([.int .i64 nx, iv] : List Value).set 0 (.int .i64 (nx + 1)) = [.int .i64 (nx + 1), iv] from rfl] at s1
    generalize hV3 : V2.put W.next (.cells [.int .i64 (nx + 1), iv]) = V3 at s1
    have x3 : V3.get W.next = some (.cells [.int .i64 (nx + 1), iv]) := by rw [← hV3]; exact AW.get_put _ _ _
    have y3 : V3.get V.next = some (.cells [.int .i64 0, .slice none 0 0]) := by rw [← hV3, AW.get_put_ne _ _ (by omega)]; exact a4
    have n3 : V3.next = V2.next := by rw [← hV3, AW.put_next]
    have l3 : Le W V3 := by rw [← hV3]; exact (l1.trans a2).put (Nat.le_refl _) _
    obtain ⟨V4, ev', n, p1, p2, p3, p4, p5⟩ := rput_ok (nx := nx + 1) (k := k) (x := (nx, v)) (h.mono l3) (by omega)
    have n4 := p2.next
    have y4 : V4.get V.next = some (.cells [.int .i64 0, .slice none 0 0]) := by rw [p2.get _ (by omega)]; exact y3
    have st := st60 (n := nx + 1) y4 p3.isSl
    have lx := ld60 (W := V4.put V.next (.cells [.int .i64 (nx + 1), ev'])) (AW.get_put _ _ _)
    simp only [SX, oB, a1, Nat.zero_add, ld60b x2, hit.len len58, e1, e2, decide_false, ld60a x2, t1, s1, ld60 x3, bd65, p1, st, oRes_Lnn, oL60, lx, Option.bind_some, Ok_some]
    refine ⟨ev', n, rfl, (l3.trans p2).put (by have := l1.next; omega) _, (p3.keep (W' := V4.put V.next (.cells [.int .i64 (nx + 1), ev'])) (by rw [AW.put_next]; omega) fun b hb1 hb2 => AW.get_put_ne _ _ (by omega)).low (by have := l3.next; omega), ⟨p4, p5⟩⟩
  obtain ⟨v', W', h1, ev', n, rfl, h2, h3, h4⟩ := om_q' (Q := fun r W' => ∃ ev' n, r = .tuple #[sV (nx + 1) ev', .int .i64 nx, .int .i64 0] ∧ Le W W' ∧ RQ W.next W' ev' (putL l (nx, v) n) ∧ PutAt k l (nx, v) n) main ref06_Push_om (fun r W' ⟨ev', n, e, h1, h2, h3⟩ hle hp => ⟨ev', n, e, .refl _, h2.anew (pl_s3 (e ▸ hp)), h3⟩)
  exact ⟨W', ev', n, h1, h2, h3, h4⟩
theorem rPeek0_ok (h : RQ lo W iv l) (h0 : l = []) : omS (.func (.func 80) #[] #[]) [sV nx iv] W = some (.tuple #[.int .i64 0, .int .i64 0, .int .i64 4], W) := by
  refine om_drop rfl ?_ ref06_Peek_om
  unfold ref06_Peek
  obtain ⟨V, oB, l1, n1, x1⟩ := bx60 nx iv W
  have hit := its (h.mono l1)
  have e1 : decide ((l.length : Int) = 0) = true := decide_eq_true (by rw [h0]; rfl)
  simp only [SX, oB, Nat.zero_add, ld60b x1, hit.len len58, e1, Ok_some]
  exact ⟨trivial, l1⟩
theorem rPeek_ok (h : RQ lo W iv l) (h0 : 0 < l.length) : omS (.func (.func 80) #[] #[]) [sV nx iv] W = some (.tuple #[.int .i64 l[0].1, .int .i64 l[0].2, .int .i64 0], W) := by
  refine om_drop rfl ?_ ref06_Peek_om
  unfold ref06_Peek
  obtain ⟨V, oB, l1, n1, x1⟩ := bx60 nx iv W
  have hit := its (h.mono l1)
  have e1 : decide ((l.length : Int) = 0) = false := decide_eq_false (by omega)
  obtain ⟨b, o, i1, i2, i3⟩ := Items.get2 hit h0
  obtain ⟨f0, f1, f2⟩ := i3 V rfl
  have i1' : ∀ W', ixS 2 iv (.int .i64 0) W' = some (.pointer (some ⟨b, o, none⟩), W') := fun W' => i1 W' .i64
  simp only [SX, oB, Nat.zero_add, ld60b x1, hit.len len58, e1, i1', Nat.add_zero, f1, f2, Ok_some]
  exact ⟨trivial, l1⟩
theorem rPop0_ok (h : RQ lo W iv l) (h0 : l = []) : ∃ W', omS (.func (.func 76) #[] #[]) [sV nx iv] W = some (.tuple #[sV nx iv, .int .i64 0, .int .i64 0, .int .i64 4], W') ∧ Le W W' := by
  have main : Ok (ref06_Pop omS (sV nx iv) W) fun r => r.1 = .tuple #[sV nx iv, .int .i64 0, .int .i64 0, .int .i64 4] ∧ Le W r.2 := by
    unfold ref06_Pop
    obtain ⟨V, oB, l1, n1, x1⟩ := bx60 nx iv W
    obtain ⟨V2, a1, a2, a3, a4⟩ := nw60 V
    have x2 : V2.get W.next = some (.cells [.int .i64 nx, iv]) := by rw [a2.get _ (by omega)]; exact x1
    have e4 : decide ((4 : Int) = 0) = false := rfl
    have st := st60 (n := nx) a4 h.isSl
    have lx := ld60 (W := V2.put V.next (.cells [.int .i64 nx, iv])) (AW.get_put _ _ _)
    simp only [SX, oB, a1, ld60 x2, rPeek0_ok (h.mono (l1.trans a2)) h0, oExtract_3_2, e4, st, oRes_Lnnn, oL60, lx, Option.bind_some, Ok_some]
    exact ⟨trivial, (l1.trans a2).put (by have := l1.next; omega) _⟩
  obtain ⟨v', W', h1, rfl, h2⟩ := om_q' (Q := fun v W' => v = .tuple #[sV nx iv, .int .i64 0, .int .i64 0, .int .i64 4] ∧ Le W W') main ref06_Pop_om (fun v W' h hle hp => ⟨h.1, .refl _⟩)
  exact ⟨W', h1, h2⟩
theorem rPop_ok (h : RQ lo W iv l) (h0 : 0 < l.length) (hl : l.length ≤ 10000) : ∃ W' ev', omS (.func (.func 76) #[] #[]) [sV nx iv] W = some (.tuple #[sV nx ev', .int .i64 l[0].1, .int .i64 l[0].2, .int .i64 0], W') ∧ Le W W' ∧ RQ W.next W' ev' (l.take 0 ++ l.drop 1) := by
  have main : Ok (ref06_Pop omS (sV nx iv) W) fun r => ∃ ev', r.1 = .tuple #[sV nx ev', .int .i64 l[0].1, .int .i64 l[0].2, .int .i64 0] ∧ Le W r.2 ∧ RQ W.next r.2 ev' (l.take 0 ++ l.drop 1) := by
    unfold ref06_Pop
    obtain ⟨V, oB, l1, n1, x1⟩ := bx60 nx iv W
    obtain ⟨V2, a1, a2, a3, a4⟩ := nw60 V
    have x2 : V2.get W.next = some (.cells [.int .i64 nx, iv]) := by rw [a2.get _ (by omega)]; exact x1
    have l2 := l1.trans a2
    have h2 := h.mono l2
    obtain ⟨V3, ev', c1, c2, c3⟩ := cut_ok (nx := nx) h2 h0 hl
    have c1' : omS (.func (.func 106) #[] #[]) [sV nx iv, .int .i64 0] V2 = some (sV nx ev', V3) := c1
    have nW := l1.next
    have n3 := c2.next
    have y3 : V3.get V.next = some (.cells [.int .i64 0, .slice none 0 0]) := by rw [c2.get _ (by omega)]; exact a4
    have st := st60 (n := nx) y3 c3.isSl
    have lx := ld60 (W := V3.put V.next (.cells [.int .i64 nx, ev'])) (AW.get_put _ _ _)
    simp only [SX, oB, a1, ld60 x2, rPeek_ok h2 h0, decide_true, c1', st, oRes_Lnnn, oL60, lx, Option.bind_some, Ok_some]
    exact ⟨ev', rfl, (l2.trans c2).put (by omega) _, (c3.keep (W' := V3.put V.next (.cells [.int .i64 nx, ev'])) (by rw [AW.put_next]; omega) fun b hb1 hb2 => AW.get_put_ne _ _ (by omega)).low (by omega)⟩
  obtain ⟨v', W', h1, ev', rfl, h2, h3⟩ := om_q' (Q := fun v W' => ∃ ev', v = .tuple #[sV nx ev', .int .i64 l[0].1, .int .i64 l[0].2, .int .i64 0] ∧ Le W W' ∧ RQ W.next W' ev' (l.take 0 ++ l.drop 1)) main ref06_Pop_om (fun v W' ⟨ev', e, h1, h2⟩ hle hp => ⟨ev', e, .refl _, h2.anew (pl_s4 (e ▸ hp))⟩)
  exact ⟨W', ev', h1, h2, h3⟩
theorem rGet0_ok {s : Int} (h : RQ lo W iv l) (hl : l.length ≤ 10000) (hx : ∀ x ∈ l, ¬ x.1 = s) : omS (.func (.func 79) #[] #[]) [sV nx iv, .int .i64 s] W = some (.tuple #[.int .i64 0, .int .i64 4], W) := by
  refine om_drop rfl ?_ ref06_Get_om
  unfold ref06_Get
  obtain ⟨V, oB, l1, n1, x1⟩ := bx60 nx iv W
  have e1 : decide ((-1 : Int) < 0) = true := rfl
  rcases rFind_ok (nx := nx) (its (h.mono l1)) hl s with ⟨i, hi, a1, -⟩ | ⟨-, a2⟩
  · exact absurd a1 (hx _ (List.getElem_mem hi))
  simp only [SX, oB, ld60 x1, a2, e1, Ok_some]
  exact ⟨trivial, l1⟩
theorem rGet_ok {x : Int × Int} (h : RQ lo W iv l) (hl : l.length ≤ 10000) (hx : x ∈ l) (hd : ∀ a ∈ l, ∀ b ∈ l, a.1 = b.1 → a = b) : omS (.func (.func 79) #[] #[]) [sV nx iv, .int .i64 x.1] W = some (.tuple #[.int .i64 x.2, .int .i64 0], W) := by
  refine om_drop rfl ?_ ref06_Get_om
  unfold ref06_Get
  obtain ⟨V, oB, l1, n1, x1⟩ := bx60 nx iv W
  have hit := its (h.mono l1)
  rcases rFind_ok (nx := nx) hit hl x.1 with ⟨i, hi, a1, a2⟩ | ⟨a1, -⟩
  · have e : l[i] = x := hd _ (List.getElem_mem hi) _ hx a1
    have e1 : ¬ ((i : Int) < 0) := by omega
    obtain ⟨b, o, i1, i2, i3⟩ := Items.get2 hit hi
    obtain ⟨-, f1, f2⟩ := i3 V rfl
    rw [e] at f2
    simp only [SX, oB, ld60 x1, a2, e1, decide_false, Nat.zero_add, ld60b x1, i1, f2, Ok_some]
    exact ⟨trivial, l1⟩
  · exact absurd rfl (a1 x hx)
theorem rSet0_ok {k s v : Int} (h : RQ lo W iv l) (hl : l.length ≤ 10000) (hx : ∀ x ∈ l, ¬ x.1 = s) : ∃ W', omS (.func (.func 77) #[] #[]) [.int .u8 k, sV nx iv, .int .i64 s, .int .i64 v] W = some (.tuple #[sV nx iv, .int .i64 4], W') ∧ Le W W' := by
  have main : Ok (ref06_Set omS (.int .u8 k) (sV nx iv) (.int .i64 s) (.int .i64 v) W) fun r => r.1 = .tuple #[sV nx iv, .int .i64 4] ∧ Le W r.2 := by
    unfold ref06_Set
    obtain ⟨V, oB, l1, n1, x1⟩ := bx60 nx iv W
    obtain ⟨V2, a1, a2, a3, a4⟩ := nw60 V
    have x2 : V2.get W.next = some (.cells [.int .i64 nx, iv]) := by rw [a2.get _ (by omega)]; exact x1
    have e1 : decide ((-1 : Int) < 0) = true := rfl
    have st := st60 (n := nx) a4 h.isSl
    have lx := ld60 (W := V2.put V.next (.cells [.int .i64 nx, iv])) (AW.get_put _ _ _)
    rcases rFind_ok (nx := nx) (its (h.mono (l1.trans a2))) hl s with ⟨i, hi, b1, -⟩ | ⟨-, b2⟩
    · exact absurd b1 (hx _ (List.getElem_mem hi))
    simp only [SX, oB, a1, ld60 x2, b2, e1, st, oRes_L1n, oL60, lx, Option.bind_some, Ok_some]
    exact ⟨trivial, (l1.trans a2).put (by have := l1.next; omega) _⟩
  obtain ⟨v', W', h1, rfl, h2⟩ := om_q' (Q := fun v W' => v = .tuple #[sV nx iv, .int .i64 4] ∧ Le W W') main ref06_Set_om (fun v W' h hle hp => ⟨h.1, .refl _⟩)
  exact ⟨W', h1, h2⟩
theorem rSet_ok {k v : Int} {x : Int × Int} (h : RQ lo W iv l) (hl : l.length ≤ 10000) (hx : x ∈ l) (hd : ∀ a ∈ l, ∀ b ∈ l, a.1 = b.1 → a = b) : ∃ W' ev' l0 n, omS (.func (.func 77) #[] #[]) [.int .u8 k, sV nx iv, .int .i64 x.1, .int .i64 v] W = some (.tuple #[sV nx ev', .int .i64 0], W') ∧ Le W W' ∧ RQ W.next W' ev' (putL l0 (x.1, v) n) ∧ (x :: l0).Perm l ∧ l0.Sublist l ∧ PutAt k l0 (x.1, v) n := by
  have main : Ok (ref06_Set omS (.int .u8 k) (sV nx iv) (.int .i64 x.1) (.int .i64 v) W) fun r => ∃ ev' l0 n, r.1 = .tuple #[sV nx ev', .int .i64 0] ∧ Le W r.2 ∧ RQ W.next r.2 ev' (putL l0 (x.1, v) n) ∧ (x :: l0).Perm l ∧ l0.Sublist l ∧ PutAt k l0 (x.1, v) n := by
    unfold ref06_Set
    obtain ⟨V, oB, l1, n1, x1⟩ := bx60 nx iv W
    obtain ⟨V2, a1, a2, a3, a4⟩ := nw60 V
    have x2 : V2.get W.next = some (.cells [.int .i64 nx, iv]) := by rw [a2.get _ (by omega)]; exact x1
    have l2 := l1.trans a2
    have h2 := h.mono l2
    rcases rFind_ok (nx := nx) (its h2) hl x.1 with ⟨i, hi, b1, b2⟩ | ⟨b1, -⟩
    case inr => exact absurd rfl (b1 x hx)
    have e : l[i] = x := hd _ (List.getElem_mem hi) _ hx b1
    have e1 : ¬ ((i : Int) < 0) := by omega
    obtain ⟨V3, ev1, c1, c2, c3⟩ := cut_ok (nx := nx) h2 hi hl
    have hp := cutL_perm hi
    rw [e] at hp
    have hs := cutL_sub l i
    have hl0 : (l.take i ++ l.drop (i + 1)).length ≤ 10000 := by have := hs.length_le; omega
    generalize l.take i ++ l.drop (i + 1) = l0 at c3 hp hs hl0
    obtain ⟨V4, ev', n, p1, p2, p3, p4, p5⟩ := rput_ok (nx := nx) (k := k) (x := (x.1, v)) c3 hl0
    have nW := l1.next
    have n3 := c2.next
    have n4 := p2.next
    have y4 : V4.get V.next = some (.cells [.int .i64 0, .slice none 0 0]) := by rw [p2.get _ (by omega), c2.get _ (by omega)]; exact a4
    have st := st60 (n := nx) y4 p3.isSl
    have lx := ld60 (W := V4.put V.next (.cells [.int .i64 nx, ev'])) (AW.get_put _ _ _)
    simp only [SX, oB, a1, ld60 x2, b2, e1, decide_false, c1, bd65, p1, st, oRes_L1n, oL60, lx, Option.bind_some, Ok_some]
    exact ⟨ev', l0, n, rfl, ((l2.trans c2).trans p2).put (by omega) _, (p3.keep (W' := V4.put V.next (.cells [.int .i64 nx, ev'])) (by rw [AW.put_next]; omega) fun b hb1 hb2 => AW.get_put_ne _ _ (by omega)).low (by omega), hp, hs, ⟨p4, p5⟩⟩
  obtain ⟨v', W', h1, ev', l0, n, rfl, h2, h3, h4⟩ := om_q' (Q := fun r W' => ∃ ev' l0 n, r = .tuple #[sV nx ev', .int .i64 0] ∧ Le W W' ∧ RQ W.next W' ev' (putL l0 (x.1, v) n) ∧ (x :: l0).Perm l ∧ l0.Sublist l ∧ PutAt k l0 (x.1, v) n) main ref06_Set_om (fun r W' ⟨ev', l0, n, e, h1, h2, h3⟩ hle hp => ⟨ev', l0, n, e, .refl _, h2.anew (pl_s2 (e ▸ hp)), h3⟩)
  exact ⟨W', ev', l0, n, h1, h2, h3, h4⟩
theorem rRemove0_ok {s : Int} (h : RQ lo W iv l) (hl : l.length ≤ 10000) (hx : ∀ x ∈ l, ¬ x.1 = s) : ∃ W', omS (.func (.func 78) #[] #[]) [sV nx iv, .int .i64 s] W = some (.tuple #[sV nx iv, .int .i64 0, .int .i64 4], W') ∧ Le W W' := by
  have main : Ok (ref06_Remove omS (sV nx iv) (.int .i64 s) W) fun r => r.1 = .tuple #[sV nx iv, .int .i64 0, .int .i64 4] ∧ Le W r.2 := by
    unfold ref06_Remove
    obtain ⟨V, oB, l1, n1, x1⟩ := bx60 nx iv W
    obtain ⟨V2, a1, a2, a3, a4⟩ := nw60 V
    have x2 : V2.get W.next = some (.cells [.int .i64 nx, iv]) := by rw [a2.get _ (by omega)]; exact x1
    have e1 : decide ((-1 : Int) < 0) = true := rfl
    have st := st60 (n := nx) a4 h.isSl
    have lx := ld60 (W := V2.put V.next (.cells [.int .i64 nx, iv])) (AW.get_put _ _ _)
    rcases rFind_ok (nx := nx) (its (h.mono (l1.trans a2))) hl s with ⟨i, hi, b1, -⟩ | ⟨-, b2⟩
    · exact absurd b1 (hx _ (List.getElem_mem hi))
    simp only [SX, oB, a1, ld60 x2, b2, e1, st, oRes_Lnn, oL60, lx, Option.bind_some, Ok_some]
    exact ⟨trivial, (l1.trans a2).put (by have := l1.next; omega) _⟩
  obtain ⟨v', W', h1, rfl, h2⟩ := om_q' (Q := fun v W' => v = .tuple #[sV nx iv, .int .i64 0, .int .i64 4] ∧ Le W W') main ref06_Remove_om (fun v W' h hle hp => ⟨h.1, .refl _⟩)
  exact ⟨W', h1, h2⟩
theorem rRemove_ok {x : Int × Int} (h : RQ lo W iv l) (hl : l.length ≤ 10000) (hx : x ∈ l) (hd : ∀ a ∈ l, ∀ b ∈ l, a.1 = b.1 → a = b) : ∃ W' ev' l0, omS (.func (.func 78) #[] #[]) [sV nx iv, .int .i64 x.1] W = some (.tuple #[sV nx ev', .int .i64 x.2, .int .i64 0], W') ∧ Le W W' ∧ RQ W.next W' ev' l0 ∧ (x :: l0).Perm l ∧ l0.Sublist l := by
  have main : Ok (ref06_Remove omS (sV nx iv) (.int .i64 x.1) W) fun r => ∃ ev' l0, r.1 = .tuple #[sV nx ev', .int .i64 x.2, .int .i64 0] ∧ Le W r.2 ∧ RQ W.next r.2 ev' l0 ∧ (x :: l0).Perm l ∧ l0.Sublist l := by
    unfold ref06_Remove
    obtain ⟨V, oB, l1, n1, x1⟩ := bx60 nx iv W
    obtain ⟨V2, a1, a2, a3, a4⟩ := nw60 V
    have x2 : V2.get W.next = some (.cells [.int .i64 nx, iv]) := by rw [a2.get _ (by omega)]; exact x1
    have l2 := l1.trans a2
    have h2 := h.mono l2
    have hit := its h2
    rcases rFind_ok (nx := nx) hit hl x.1 with ⟨i, hi, b1, b2⟩ | ⟨b1, -⟩
    case inr => exact absurd rfl (b1 x hx)
    have e : l[i] = x := hd _ (List.getElem_mem hi) _ hx b1
    have e1 : ¬ ((i : Int) < 0) := by omega
    obtain ⟨b, o, i1, i2, i3⟩ := Items.get2 hit hi
    obtain ⟨V3, ev', c1, c2, c3⟩ := cut_ok (nx := nx) h2 hi hl
    have nW := l1.next
    have n3 := c2.next
    have x3 : V3.get W.next = some (.cells [.int .i64 nx, iv]) := by rw [c2.get _ (by omega)]; exact x2
    have y3 : V3.get V.next = some (.cells [.int .i64 0, .slice none 0 0]) := by rw [c2.get _ (by omega)]; exact a4
    have st := st60 (n := nx) y3 c3.isSl
    have lx := ld60 (W := V3.put V.next (.cells [.int .i64 nx, ev'])) (AW.get_put _ _ _)
    obtain ⟨-, -, f2⟩ := i3 V2 rfl
    obtain ⟨-, -, f3⟩ := i3 V3 (c2.get _ i2)
    -- the row of the argument is old
    have hb : b < W.next := by
      obtain ⟨b', o', j1, j2, -⟩ := Items.get2 (its h) hi
      have := (i1 W .i64).symm.trans (j1 W .i64)
      injection this with this; injection this with this; injection this with this; injection this with this; injection this with this
      omega
    obtain ⟨-, -, f4⟩ := i3 (V3.put V.next (.cells [.int .i64 nx, ev'])) (by rw [AW.get_put_ne _ _ (by omega), c2.get _ i2])
    have x4 : (V3.put V.next (.cells [.int .i64 nx, ev'])).get W.next = some (.cells [.int .i64 nx, iv]) := by rw [AW.get_put_ne _ _ (by omega)]; exact x3
    rw [e] at f2 f3 f4
    simp only [SX, oB, a1, ld60 x2, b2, e1, decide_false, Nat.zero_add, ld60b x2, i1, f2, c1, f3, ld60b x3, agV_some, vsame_int, h.isSl.vsame, Bool.and_self, st, f4, ld60b x4, oRes_Lnn, oL60, lx, Option.bind_some, Ok_some]
    have hp := cutL_perm hi
    rw [e] at hp
    exact ⟨ev', _, rfl, (l2.trans c2).put (by omega) _, (c3.keep (W' := V3.put V.next (.cells [.int .i64 nx, ev'])) (by rw [AW.put_next]; omega) fun b hb1 hb2 => AW.get_put_ne _ _ (by omega)).low (by omega), hp, cutL_sub l i⟩
  obtain ⟨v', W', h1, ev', l0, rfl, h2, h3, h4⟩ := om_q' (Q := fun r W' => ∃ ev' l0, r = .tuple #[sV nx ev', .int .i64 x.2, .int .i64 0] ∧ Le W W' ∧ RQ W.next W' ev' l0 ∧ (x :: l0).Perm l ∧ l0.Sublist l) main ref06_Remove_om (fun r W' ⟨ev', l0, e, h1, h2, h3⟩ hle hp => ⟨ev', l0, e, .refl _, h2.anew (pl_s3 (e ▸ hp)), h3⟩)
  exact ⟨W', ev', l0, h1, h2, h3, h4⟩
end
end Go.Proofs.Ytkpgmabebjmahaa
/- The specification's queue: Check. -/
namespace Go.Proofs.Ytkpgmabebjmahaa
open Go Go.Eng Go.Hp
set_option linter.unusedVariables false
set_option linter.unusedSimpArgs false
set_option linter.unusedSectionVars false
set_option maxRecDepth 100000
section
variable {W : AW} {lo : Nat} {nx : Int} {iv : Value} {l : List (Int × Int)}
theorem rCheck_ok {k : Int} (h : Items W iv l) (hl : l.length ≤ 5000) : omS (.func (.func 40) #[] #[]) [.int .u8 k, sV nx iv] W = some (.int .i64 (chk (KS k) nx l), W) := by
  refine om_drop rfl ?_ ref06_Check_om
  unfold ref06_Check
  obtain ⟨V, oB, l1, n1, x1⟩ := bx60 nx iv W
  have hit := h.mono l1
  have e1 : ¬ (5000 : Int) < (l.length : Int) := by omega
  by_cases c1 : nx < 1
  · have ec : chk (KS k) nx l = 7 := by unfold chk; rw [if_pos (.inl c1)]
    simp only [SX, oB, Nat.zero_add, ld60b x1, hit.len len58, e1, decide_false, ld60a x1, c1, decide_true, Ok_some]
    exact ⟨by rw [ec], l1⟩
  by_cases c2 : 1000000000000000 < nx
  · have ec : chk (KS k) nx l = 7 := by unfold chk; rw [if_pos (.inr c2)]
    simp only [SX, oB, Nat.zero_add, ld60b x1, hit.len len58, e1, decide_false, ld60a x1, c1, c2, decide_true, Ok_some]
    exact ⟨by rw [ec], l1⟩
  have ec0 : chk (KS k) nx l = (open Classical in if badR nx l then 7 else if twiceR l l.length then 8 else if formR (KS k) l then 6 else 0) := by
    unfold chk; rw [if_neg (by omega)]
  have step := fun (k' : Nat) (hk : k' < 5000) (W' : AW) => oBin_add (P := Try.prog) (W := W') (t := 3) (c := false) (d := true) (a := (k' : Int)) (b := 1) (by omega) (by omega)
  have e3 : ∀ k' : Nat, ((k' + 1 : Nat) : Int) = (k' : Int) + 1 := fun k' => by omega
  simp only [SX, oB, Nat.zero_add, ld60b x1, hit.len len58, e1, decide_false, ld60a x1, c1, c2]
  refine Ok_loop l.length (by omega) (fun k' R U => U = V ∧ R 0 = .int .u8 k ∧ R 3 = .pointer (some ⟨W.next, 0, none⟩) ∧ R 5 = .int .i64 (k' : Int) ∧ ∀ i (hi : i < l.length), i < k' → ¬ (l[i].1 < 1 ∨ nx ≤ l[i].1))
    (fun r => r.2.2 = V ∧ r.2.1 0 = .int .u8 k ∧ r.2.1 3 = .pointer (some ⟨W.next, 0, none⟩) ∧ ((r.1 = .ret ∧ badR nx l ∧ r.2.1 4 = .int .i64 7) ∨ (r.1 = .exit 0 ∧ ¬ badR nx l))) ⟨rfl, rfl, rfl, rfl, fun i _ h => absurd h (by omega)⟩ ?_ ?_ ?_
  · rintro k' R U hk ⟨rfl, r0, r3, r5, hx⟩
    unfold ref06_Check_L1
    obtain ⟨b, o, i1, i2, i3⟩ := Items.get2 hit hk
    obtain ⟨-, f1, -⟩ := i3 U rfl
    have t1 : ((k' : Int) < (l.length : Int)) := by omega
    by_cases b1 : l[k'].1 < 1
    · simp only [SX, r0, r3, r5, Nat.zero_add, ld60b x1, hit.len len58, t1, decide_true, i1, Nat.add_zero, f1, b1, Ok_some]
      exact .inr ⟨by simp, trivial, r0, r3, .inl ⟨trivial, ⟨k', hk, .inl b1⟩, rfl⟩⟩
    by_cases b2 : nx ≤ l[k'].1
    · simp only [SX, r0, r3, r5, Nat.zero_add, ld60b x1, hit.len len58, t1, decide_true, i1, Nat.add_zero, f1, b1, decide_false, ld60a x1, b2, Ok_some]
      exact .inr ⟨by simp, trivial, r0, r3, .inl ⟨trivial, ⟨k', hk, .inr b2⟩, rfl⟩⟩
    simp only [SX, r0, r3, r5, Nat.zero_add, ld60b x1, hit.len len58, t1, decide_true, i1, Nat.add_zero, f1, b1, decide_false, ld60a x1, b2, step k' (by omega), Ok_some]
    refine .inl ⟨trivial, trivial, r0, r3, by rw [e3]; rfl, fun i hi hik => ?_⟩
    by_cases e : i = k'
    · subst e; omega
    · exact hx i hi (by omega)
  · rintro R U ⟨rfl, r0, r3, r5, hx⟩
    unfold ref06_Check_L1
    have t1 : ¬ ((l.length : Int) < (l.length : Int)) := by omega
    simp only [SX, r0, r3, r5, Nat.zero_add, ld60b x1, hit.len len58, t1, decide_false, Ok_some]
    exact ⟨by simp, trivial, r0, r3, .inr ⟨trivial, fun ⟨i, hi, hb⟩ => hx i hi hi hb⟩⟩
  rintro ⟨x, R, U⟩ ⟨rfl, r0, r3, hx⟩
  simp only at r0 r3 hx l1 x1 hit
  rcases hx with ⟨rfl, hb, r4⟩ | ⟨rfl, hgood⟩
  · have ec : chk (KS k) nx l = 7 := by rw [ec0, if_pos hb]
    simp only [SX, r4, Ok_some]
    exact ⟨by rw [ec], l1⟩
  simp only [SX]
  -- no handle twice
  refine Ok_loop l.length (by omega) (fun k' R' U' => U' = U ∧ R' 0 = .int .u8 k ∧ R' 3 = .pointer (some ⟨W.next, 0, none⟩) ∧ R' 6 = .int .i64 (k' : Int) ∧ ¬ twiceR l k')
    (fun r => r.2.2 = U ∧ r.2.1 0 = .int .u8 k ∧ r.2.1 3 = .pointer (some ⟨W.next, 0, none⟩) ∧ ((r.1 = .ret ∧ twiceR l l.length ∧ r.2.1 4 = .int .i64 8) ∨ (r.1 = .exit 2 ∧ ¬ twiceR l l.length))) ⟨rfl, r0, r3, rfl, fun ⟨i, j, _, _, hj, _⟩ => by omega⟩ ?_ ?_ ?_
  · rintro k' R' U' hk ⟨rfl, r0, r3, r6, hx⟩
    unfold ref06_Check_L2
    have t1 : ((k' : Int) < (l.length : Int)) := by omega
    obtain ⟨b, o, i1, i2, i3⟩ := Items.get2 hit hk
    obtain ⟨-, f1, -⟩ := i3 U' rfl
    simp only [SX, r3, r6, Nat.zero_add, ld60b x1, hit.len len58, t1, decide_true]
    refine Ok_loop k' (by omega) (fun j R2 U2 => U2 = U' ∧ R2 0 = .int .u8 k ∧ R2 3 = .pointer (some ⟨W.next, 0, none⟩) ∧ R2 6 = .int .i64 (k' : Int) ∧ R2 7 = .int .i64 (j : Int) ∧ ∀ i (hi : i < k'), i < j → ¬ l[i].1 = l[k'].1)
      (fun r => r.2.2 = U' ∧ r.2.1 0 = .int .u8 k ∧ r.2.1 3 = .pointer (some ⟨W.next, 0, none⟩) ∧ r.2.1 6 = .int .i64 (k' : Int) ∧ ((r.1 = .ret ∧ (∃ i, ∃ hi : i < k', l[i].1 = l[k'].1) ∧ r.2.1 4 = .int .i64 8) ∨ (r.1 = .exit 4 ∧ ∀ i (hi : i < k'), ¬ l[i].1 = l[k'].1))) ⟨rfl, r0, r3, r6, rfl, fun i _ h => absurd h (by omega)⟩ ?_ ?_ ?_
    · rintro j R2 U2 hj ⟨rfl, q0, q3, q6, q7, hy⟩
      unfold ref06_Check_L2_L3
      have hjl : j < l.length := by omega
      obtain ⟨b', o', j1, j2, j3⟩ := Items.get2 hit hjl
      obtain ⟨-, g1, -⟩ := j3 U2 rfl
      have t2 : ((j : Int) < (k' : Int)) := by omega
      by_cases e : l[k'].1 = l[j].1
      · have e' : decide (l[k'].1 = l[j].1) = true := decide_eq_true e
        simp only [SX, q0, q3, q6, q7, Nat.zero_add, ld60b x1, t2, decide_true, i1, j1, Nat.add_zero, f1, g1, e', Ok_some]
        exact .inr ⟨by simp, trivial, q0, q3, q6, .inl ⟨trivial, ⟨j, hj, e.symm⟩, rfl⟩⟩
      · have e' : decide (l[k'].1 = l[j].1) = false := decide_eq_false e
        simp only [SX, q0, q3, q6, q7, Nat.zero_add, ld60b x1, t2, decide_true, i1, j1, Nat.add_zero, f1, g1, e', step j (by omega), Ok_some]
        refine .inl ⟨trivial, trivial, q0, q3, q6, by rw [e3]; rfl, fun i hi hij => ?_⟩
        by_cases ei : i = j
        · subst ei; exact fun h => e h.symm
        · exact hy i hi (by omega)
    · rintro R2 U2 ⟨rfl, q0, q3, q6, q7, hy⟩
      unfold ref06_Check_L2_L3
      have t2 : ¬ ((k' : Int) < (k' : Int)) := by omega
      simp only [SX, q6, q7, t2, decide_false, Ok_some]
      exact ⟨by simp, trivial, q0, q3, q6, .inr ⟨trivial, fun i hi => hy i hi hi⟩⟩
    · rintro ⟨x, R2, U2⟩ ⟨rfl, q0, q3, q6, hy⟩
      simp only at q0 q3 q6 hy
      rcases hy with ⟨rfl, ⟨i, hi, e⟩, q4⟩ | ⟨rfl, hy⟩
      · simp only [SX, Ok_some]
        exact .inr ⟨by simp, trivial, q0, q3, .inl ⟨trivial, ⟨i, k', hk, hi, hk, e⟩, q4⟩⟩
      · simp only [SX, q6, step k' (by omega), Ok_some]
        refine .inl ⟨trivial, trivial, q0, q3, by rw [e3]; rfl, fun ht => ?_⟩
        rcases (twice_step hk).1 ht with h | ⟨i, hi, e⟩
        · exact hx h
        · exact hy i hi e
  · rintro R' U' ⟨rfl, r0, r3, r6, hx⟩
    unfold ref06_Check_L2
    have t1 : ¬ ((l.length : Int) < (l.length : Int)) := by omega
    simp only [SX, r3, r6, Nat.zero_add, ld60b x1, hit.len len58, t1, decide_false, Ok_some]
    exact ⟨by simp, trivial, r0, r3, .inr ⟨trivial, hx⟩⟩
  rintro ⟨x, R', U'⟩ ⟨rfl, r0, r3, hx⟩
  simp only at r0 r3 hx l1 x1 hit
  rcases hx with ⟨rfl, hb, r4⟩ | ⟨rfl, hnt⟩
  · have ec : chk (KS k) nx l = 8 := by rw [ec0, if_neg hgood, if_pos hb]
    simp only [SX, r4, Ok_some]
    exact ⟨by rw [ec], l1⟩
  have ec1 : chk (KS k) nx l = (open Classical in if formR (KS k) l then 6 else 0) := by rw [ec0, if_neg hgood, if_neg hnt]
  simp only [SX]
  refine Ok_loop (l.length - 1) (by omega) (fun k' R2 U2 => U2 = U' ∧ R2 0 = .int .u8 k ∧ R2 3 = .pointer (some ⟨W.next, 0, none⟩) ∧ R2 8 = .int .i64 ((k' + 1 : Nat) : Int) ∧ ∀ i (hi : i + 1 < l.length), i < k' → befP (KS k) l[i] l[i + 1] = true)
    (fun r => r.2.2 = U' ∧ ((r.1 = .ret ∧ formR (KS k) l ∧ r.2.1 4 = .int .i64 6) ∨ (r.1 = .exit 6 ∧ ¬ formR (KS k) l))) ⟨rfl, r0, r3, rfl, fun i _ h => absurd h (by omega)⟩ ?_ ?_ ?_
  · rintro k' R2 U2 hk ⟨rfl, q0, q3, q8, hy⟩
    unfold ref06_Check_L4
    have hk1 : k' + 1 < l.length := by omega
    obtain ⟨b, o, i1, i2, i3⟩ := Items.get2 hit (show k' < l.length by omega)
    obtain ⟨f0, -, -⟩ := i3 U2 rfl
    obtain ⟨b', o', j1, j2, j3⟩ := Items.get2 hit hk1
    obtain ⟨g0, -, -⟩ := j3 U2 rfl
    have t1 : (((k' + 1 : Nat) : Int) < (l.length : Int)) := by omega
    have t3 : ∀ W', oBin Try.prog .sub 3 false true (.int .i64 ((k' + 1 : Nat) : Int)) (.int .i64 1) W' = some (.int .i64 (k' : Int), W') := fun W' => sub1 k' (by omega) W'
    cases hb : befP (KS k) l[k'] l[k' + 1]
    · simp only [SX, q0, q3, q8, Nat.zero_add, ld60b x1, hit.len len58, t1, decide_true, t3, i1, j1, f0, g0, rBefore_ok, hb, Ok_some]
      exact .inr ⟨by simp, trivial, .inl ⟨trivial, ⟨k', hk1, hb⟩, rfl⟩⟩
    · simp only [SX, q0, q3, q8, Nat.zero_add, ld60b x1, hit.len len58, t1, decide_true, t3, i1, j1, f0, g0, rBefore_ok, hb, step (k' + 1) (by omega), Ok_some]
      refine .inl ⟨trivial, trivial, q0, q3, by rw [e3]; rfl, fun i hi hik => ?_⟩
      by_cases e : i = k'
      · subst e; exact hb
      · exact hy i hi (by omega)
  · rintro R2 U2 ⟨rfl, q0, q3, q8, hy⟩
    unfold ref06_Check_L4
    have t1 : ¬ (((l.length - 1 + 1 : Nat) : Int) < (l.length : Int)) := by omega
    simp only [SX, q3, q8, Nat.zero_add, ld60b x1, hit.len len58, t1, decide_false, Ok_some]
    refine ⟨by simp, trivial, .inr ⟨trivial, ?_⟩⟩
    rintro ⟨i, hi, hb⟩
    rw [hy i hi (by omega)] at hb; cases hb
  rintro ⟨x, R2, U2⟩ ⟨rfl, hy⟩
  simp only at hy l1
  rcases hy with ⟨rfl, hf, q4⟩ | ⟨rfl, hf⟩
  · have ec : chk (KS k) nx l = 6 := by rw [ec1, if_pos hf]
    simp only [SX, q4, Ok_some]
    exact ⟨by rw [ec], l1⟩
  · have ec : chk (KS k) nx l = 0 := by rw [ec1, if_neg hf]
    simp only [SX, Ok_some]
    exact ⟨by rw [ec], l1⟩
end
end Go.Proofs.Ytkpgmabebjmahaa
/- A queue and its specification, side by side. -/
namespace Go.Proofs.Ytkpgmabebjmahaa
open Go Go.Eng Go.Hp
set_option linter.unusedVariables false
set_option linter.unusedSimpArgs false
set_option linter.unusedSectionVars false
set_option maxRecDepth 100000
theorem qPushF_ok {W : AW} {In : Nat → Prop} {q mh : Nat} {less : Value} {ls : Int → Int → Bool} {nx : Int} {n : Nat} {f : Nat → En} (h : QS W In q mh less ls nx n f) (hn : n < 5000) (hnx : 1000000000000000 ≤ nx) (v : Int) : omS (.func (.func 25) #[] #[]) [qV q, .int .i64 v] W = some (.tuple #[.int .i64 0, .int .i64 5], W) := by
  have hm := made_ok h
  refine om_drop rfl ?_ heaps_Queueint_Push_om
  obtain ⟨⟨lv, bl, h1, h2, h3⟩, -⟩ := h
  have e1 : ¬ (5000 ≤ (n : Int)) := by omega
  unfold heaps_Queueint_Push
  simp only [SX, hm, oNilCheck_ptr, Nat.zero_add, h1.l0, h1.l3, h1.pile.len, e1, hnx, decide_true, decide_false, Ok_some]
  exact ⟨trivial, .refl _⟩
abbrev hvs (n : Nat) (f : Nat → En) : List (Int × Int) := (all n f).map hv
theorem hvs_mem {n : Nat} {f : Nat → En} {x : Int × Int} : x ∈ hvs n f ↔ ∃ i, i < n ∧ hv (f i) = x := by
  constructor
  · intro h
    obtain ⟨e, he, rfl⟩ := List.mem_map.1 h
    obtain ⟨i, hi, rfl⟩ := all_mem.1 he
    exact ⟨i, hi, rfl⟩
  · rintro ⟨i, hi, rfl⟩
    exact List.mem_map.2 ⟨f i, all_mem.2 ⟨i, hi, rfl⟩, rfl⟩
theorem hvs_len (n : Nat) (f : Nat → En) : (hvs n f).length = n := by rw [List.length_map, all_len]
theorem hvs_upd {n : Nat} {f : Nat → En} {i : Nat} (hi : i < n) {v : Int} {l : List (Int × Int)} (hp : (hvs n f).Perm (hv (f i) :: l)) : (hvs n (upd f i v)).Perm (((f i).h, v) :: l) := by
  have h0 : (List.range n).Perm (i :: (List.range n).erase i) := List.perm_cons_erase (List.mem_range.2 hi)
  have e1 : ∀ g : Nat → En, hvs n g = (List.range n).map fun j => hv (g j) := fun g => by unfold hvs all; rw [List.map_map]; rfl
  have h1 := h0.map fun j => hv (f j)
  have h2 := h0.map fun j => hv (upd f i v j)
  rw [← e1, List.map_cons] at h1 h2
  have e2 : ((List.range n).erase i).map (fun j => hv (upd f i v j)) = ((List.range n).erase i).map fun j => hv (f j) := List.map_congr_left fun j hj => by
    have : j ≠ i := fun e => by
      subst e
      exact absurd hj (List.Nodup.not_mem_erase List.nodup_range)
    rw [upd_ne _ _ this]
  rw [e2, upd_i] at h2
  exact h2.trans (List.Perm.cons _ (List.Perm.cons_inv (h1.symm.trans hp)))
abbrev SortB (k : Int) (l : List (Int × Int)) : Prop := l.Pairwise fun a b => befP (KS k) b a = false
theorem putAt_sort {k : Int} {l : List (Int × Int)} {x : Int × Int} {n : Nat} (h : SortB k l) (p : PutAt k l x n) : SortB k (putL l x n) := by
  have o := ordP (byK_ord (kfOf k))
  refine putL_sort h (fun a ha => ?_) fun b hb => ?_
  · obtain ⟨j, hj, rfl⟩ := List.mem_iff_getElem.1 ha
    rw [List.length_take] at hj
    rw [List.getElem_take]
    exact o.asym _ _ (p.low j (by omega) (by omega))
  · obtain ⟨j, hj, rfl⟩ := List.mem_iff_getElem.1 hb
    rw [List.length_drop] at hj
    rw [List.getElem_drop]
    have hn := p.up (by omega)
    rcases Nat.eq_zero_or_pos j with rfl | h0
    · exact hn
    · exact o.neg _ _ _ hn ((List.pairwise_iff_getElem.1 h) n (n + j) (by omega) (by omega) (by omega))
abbrev lsV (k : Int) : Value := .func (.func (lsN k)) #[] #[]
/-- a queue, and what the specification says of it -/
structure JQ (In : Nat → Prop) (rb : Nat) (V : AW) (q mh : Nat) (k nx : Int) (n : Nat) (f : Nat → En) (iv : Value) (L : List (Int × Int)) : Prop where
  qs : QS V In q mh (lsV k) (KS k) nx n f
  up : ∀ b, V.next ≤ b → In b
  sb : V.get rb = some (.cells [.int .i64 nx, iv])
  nb : ¬ In rb
  row : ∀ V' : AW, Gr V V' (fun b => In b ∨ b = rb) → RQ 0 V' iv L
  perm : L.Perm (hvs n f)
  sort : SortB k L
section
variable {In : Nat → Prop} {rb : Nat} {V V' : AW} {q mh : Nat} {k nx : Int} {n : Nat} {f : Nat → En} {iv : Value} {L : List (Int × Int)}
theorem JQ.rl (J : JQ In rb V q mh k nx n f iv L) : rb < V.next := by
  rcases Nat.lt_or_ge rb V.next with h | h
  · exact h
  · exact absurd (J.up rb h) J.nb
theorem JQ.len (J : JQ In rb V q mh k nx n f iv L) : L.length = n := by rw [J.perm.length_eq, hvs_len]
theorem JQ.dif (J : JQ In rb V q mh k nx n f iv L) : ∀ a ∈ L, ∀ b ∈ L, a.1 = b.1 → a = b := J.qs.diff J.perm
theorem JQ.mem (J : JQ In rb V q mh k nx n f iv L) {x : Int × Int} : x ∈ L ↔ ∃ i, i < n ∧ hv (f i) = x := by rw [J.perm.mem_iff, hvs_mem]
theorem JQ.isSl (J : JQ In rb V q mh k nx n f iv L) : isSl iv := (J.row V (.refl _ _)).isSl
theorem JQ.which (J : JQ In rb V q mh k nx n f iv L) (h : Int) : (∃ i, i < n ∧ (f i).h = h) ∨ ((∀ i, i < n → (f i).h ≠ h) ∧ ∀ x ∈ L, ¬ x.1 = h) := by
  by_cases e : ∃ i, i < n ∧ (f i).h = h
  · exact .inl e
  · refine .inr ⟨fun i hi e1 => e ⟨i, hi, e1⟩, fun x hx e1 => ?_⟩
    obtain ⟨i, hi, rfl⟩ := J.mem.1 hx
    exact e ⟨i, hi, e1⟩
abbrev InB (In : Nat → Prop) (rb : Nat) : Nat → Prop := fun b => In b ∨ b = rb
/-- the specification's new row is kept -/
def RowQ (In : Nat → Prop) (rb : Nat) (V0 Va Vb : AW) (iv : Value) (L : List (Int × Int)) : Prop := ∀ V' : AW, Gr V0 V' (InB In rb) → Vb.next ≤ V'.next → (∀ b, Va.next ≤ b → b < Vb.next → V'.get b = Vb.get b) → RQ 0 V' iv L
theorem RL.rowQ {Va Vb : AW} (h : RQ Va.next Vb iv L) {V0 : AW} : RowQ In rb V0 Va Vb iv L := fun V' _ hn hg => (h.keep hn hg).low (Nat.zero_le _)
theorem JQ.rowQ (J : JQ In rb V q mh k nx n f iv L) {Va Vb : AW} : RowQ In rb V Va Vb iv L := fun V' g _ _ => J.row V' g
def RefQ (In : Nat → Prop) (rb : Nat) (V0 : AW) (k nx nx' : Int) (iv : Value) (fn : Value) (args : Value → List Value) (ret : Value → Value) (T : List (Int × Int)) : Prop :=
  ∀ V, Gr V0 V (InB In rb) → ∃ V' iv' L', omS fn (args (sV nx iv)) V = some (ret (sV nx' iv'), V') ∧ Le V V' ∧ RowQ In rb V0 V V' iv' L' ∧ L'.Perm T ∧ SortB k L' ∧ Eng.isSl iv'
def HoQ (q mh : Nat) (k nx nx' : Int) (n : Nat) (f : Nat → En) (fn : Value) (args : List Value) (r : Value) (T : List (Int × Int)) : Prop :=
  ∀ U In2, QS U In2 q mh (lsV k) (KS k) nx n f → (∀ b, U.next ≤ b → In2 b) → ∃ U' n' f', omS fn (qV q :: args) U = some (r, U') ∧ QS U' In2 q mh (lsV k) (KS k) nx' n' f' ∧ Gr U U' In2 ∧ (hvs n' f').Perm T ∧ n' ≤ n + 1
theorem same_first {a b : Int × Int} (hd : a.1 = b.1 → a = b) (h1 : befP (KS k) a b = false) (h2 : befP (KS k) b a = false) : a = b := by
  refine hd ?_
  unfold befP at h1 h2
  simp only [Bool.or_eq_false_iff, Bool.and_eq_false_imp, Bool.not_eq_true', decide_eq_false_iff_not] at h1 h2
  have y1 := h1.2 h2.1
  have y2 := h2.2 h1.1
  omega
theorem JQ.first (J : JQ In rb V q mh k nx (n + 1) f iv L) : ∃ h0 : 0 < L.length, L[0] = hv (f 0) := by
  have h0 : 0 < L.length := by rw [J.len]; omega
  have hm : hv (f 0) ∈ L := J.mem.2 ⟨0, by omega, rfl⟩
  obtain ⟨i, hi, e⟩ := J.mem.1 (List.getElem_mem h0)
  refine ⟨h0, same_first (k := k) (J.dif _ (List.getElem_mem h0) _ hm) ?_ ?_⟩
  · rw [← e, ← bef_P]
    exact J.qs.hp.first (byK_ord _) i hi
  · obtain ⟨j, hj, ej⟩ := List.mem_iff_getElem.1 hm
    rcases Nat.eq_zero_or_pos j with rfl | hj0
    · rw [← ej]
      have := (ordP (byK_ord (kfOf k))).asym L[0] L[0]
      cases hb : befP (KS k) L[0] L[0]
      · rfl
      · rw [hb] at this; exact this rfl
    · rw [← ej]
      exact (List.pairwise_iff_getElem.1 J.sort) 0 j h0 hj hj0
theorem popBoth (J : JQ In rb V q mh k nx n f iv L) (hn : n < 5000) : ∃ (a v e : Int) (T : List (Int × Int)), RefQ In rb V k nx nx iv (.func (.func 76) #[] #[]) (fun s => [s]) (fun s => .tuple #[s, .int .i64 a, .int .i64 v, .int .i64 e]) T ∧ HoQ q mh k nx nx n f (.func (.func 15) #[] #[]) [] (.tuple #[.int .i64 a, .int .i64 v, .int .i64 e]) T := by
  have hl : L.length ≤ 10000 := by rw [J.len]; omega
  cases n with
  | zero =>
    have e0 : L = [] := List.length_eq_zero_iff.1 J.len
    refine ⟨0, 0, 4, [], fun V1 g => ?_, fun U In2 h1 h2 => ⟨U, 0, f, qPop0_ok h1, h1, .refl _ _, .refl _, by omega⟩⟩
    obtain ⟨V2, p1, p2⟩ := rPop0_ok (nx := nx) (J.row V1 g) e0
    exact ⟨V2, iv, L, p1, p2, J.rowQ, by rw [e0], J.sort, J.isSl⟩
  | succ n =>
    obtain ⟨h0, e0⟩ := J.first
    have hp := cutL_perm h0
    refine ⟨L[0].1, L[0].2, 0, L.take 0 ++ L.drop 1, fun V1 g => ?_, fun U In2 h1 h2 => ?_⟩
    · obtain ⟨V2, iv', p1, p2, p3⟩ := rPop_ok (nx := nx) (J.row V1 g) h0 hl
      exact ⟨V2, iv', _, p1, p2, RL.rowQ p3, .refl _, J.sort.sublist (cutL_sub L 0), p3.isSl⟩
    · obtain ⟨U', g, p1, p2, p3, p4, p5⟩ := qPop_ok (byK_ord _) (isLess_of k) h1 (by omega)
      refine ⟨U', n, g, by rw [e0]; exact p1, p2, p5, ?_, by omega⟩
      have := p3.map hv
      rw [List.map_cons, ← e0] at this
      exact List.Perm.cons_inv (this.trans (J.perm.symm.trans hp.symm))
theorem peekBoth (J : JQ In rb V q mh k nx n f iv L) : ∃ a v e : Int, (∀ V1, Gr V V1 (InB In rb) → omS (.func (.func 80) #[] #[]) [sV nx iv] V1 = some (.tuple #[.int .i64 a, .int .i64 v, .int .i64 e], V1)) ∧ ∀ U In2, QS U In2 q mh (lsV k) (KS k) nx n f → omS (.func (.func 51) #[] #[]) [qV q] U = some (.tuple #[.int .i64 a, .int .i64 v, .int .i64 e], U) := by
  cases n with
  | zero =>
    have e0 : L = [] := List.length_eq_zero_iff.1 J.len
    exact ⟨0, 0, 4, fun V1 g => rPeek0_ok (J.row V1 g) e0, fun U In2 h1 => peek0_ok h1⟩
  | succ n =>
    obtain ⟨h0, e0⟩ := J.first
    refine ⟨L[0].1, L[0].2, 0, fun V1 g => rPeek_ok (J.row V1 g) h0, fun U In2 h1 => ?_⟩
    rw [e0]
    exact peek_ok h1 (by omega)
theorem getBoth (J : JQ In rb V q mh k nx n f iv L) (hn : n < 5000) (h : Int) : ∃ v e : Int, (∀ V1, Gr V V1 (InB In rb) → omS (.func (.func 79) #[] #[]) [sV nx iv, .int .i64 h] V1 = some (.tuple #[.int .i64 v, .int .i64 e], V1)) ∧ ∀ U In2, QS U In2 q mh (lsV k) (KS k) nx n f → omS (.func (.func 29) #[] #[]) [qV q, .int .i64 h] U = some (.tuple #[.int .i64 v, .int .i64 e], U) := by
  have hl : L.length ≤ 10000 := by rw [J.len]; omega
  rcases J.which h with ⟨i, hi, rfl⟩ | ⟨h1, h2⟩
  · have hm : hv (f i) ∈ L := J.mem.2 ⟨i, hi, rfl⟩
    exact ⟨(f i).v, 0, fun V1 g => rGet_ok (x := hv (f i)) (J.row V1 g) hl hm J.dif, fun U In2 hq => qGet_ok hq hi⟩
  · exact ⟨0, 4, fun V1 g => rGet0_ok (J.row V1 g) hl h2, fun U In2 hq => qGet0_ok hq h1⟩
theorem setBoth (J : JQ In rb V q mh k nx n f iv L) (hn : n < 5000) (h v : Int) : ∃ (e : Int) (T : List (Int × Int)), RefQ In rb V k nx nx iv (.func (.func 77) #[] #[]) (fun s => [.int .u8 k, s, .int .i64 h, .int .i64 v]) (fun s => .tuple #[s, .int .i64 e]) T ∧ HoQ q mh k nx nx n f (.func (.func 26) #[] #[]) [.int .i64 h, .int .i64 v] (.int .i64 e) T := by
  have hl : L.length ≤ 10000 := by rw [J.len]; omega
  rcases J.which h with ⟨i, hi, rfl⟩ | ⟨h1, h2⟩
  · have hm : hv (f i) ∈ L := J.mem.2 ⟨i, hi, rfl⟩
    obtain ⟨l1, hl1⟩ : ∃ l, (hvs n f).Perm (hv (f i) :: l) := ⟨_, List.perm_cons_erase (hvs_mem.2 ⟨i, hi, rfl⟩)⟩
    refine ⟨0, ((f i).h, v) :: l1, fun V1 g => ?_, fun U In2 hq _ => ?_⟩
    · obtain ⟨V2, iv', l0, m, p1, p2, p3, p4, p5, p6⟩ := rSet_ok (nx := nx) (k := k) (v := v) (x := hv (f i)) (J.row V1 g) hl hm J.dif
      exact ⟨V2, iv', _, p1, p2, RL.rowQ p3, (putL_perm _ _ _).trans ((List.Perm.cons_inv (p4.trans (J.perm.trans hl1))).cons _), putAt_sort (J.sort.sublist p5) p6, p3.isSl⟩
    · obtain ⟨U', g, p1, p2, p3, p4, p5⟩ := qSet_ok (byK_ord _) (isLess_of k) hq (by omega) hi v
      exact ⟨U', n, g, p1, p2, p5, (p3.map hv).trans (hvs_upd hi hl1), by omega⟩
  · refine ⟨4, hvs n f, fun V1 g => ?_, fun U In2 hq _ => ⟨U, n, f, qSet0_ok hq h1 v, hq, .refl _ _, .refl _, by omega⟩⟩
    obtain ⟨V2, p1, p2⟩ := rSet0_ok (nx := nx) (k := k) (v := v) (J.row V1 g) hl h2
    exact ⟨V2, iv, L, p1, p2, J.rowQ, J.perm, J.sort, J.isSl⟩
theorem removeBoth (J : JQ In rb V q mh k nx n f iv L) (hn : n < 5000) (h : Int) : ∃ (v e : Int) (T : List (Int × Int)), RefQ In rb V k nx nx iv (.func (.func 78) #[] #[]) (fun s => [s, .int .i64 h]) (fun s => .tuple #[s, .int .i64 v, .int .i64 e]) T ∧ HoQ q mh k nx nx n f (.func (.func 24) #[] #[]) [.int .i64 h] (.tuple #[.int .i64 v, .int .i64 e]) T := by
  have hl : L.length ≤ 10000 := by rw [J.len]; omega
  rcases J.which h with ⟨i, hi, rfl⟩ | ⟨h1, h2⟩
  · have hm : hv (f i) ∈ L := J.mem.2 ⟨i, hi, rfl⟩
    obtain ⟨l1, hl1⟩ : ∃ l, (hvs n f).Perm (hv (f i) :: l) := ⟨_, List.perm_cons_erase (hvs_mem.2 ⟨i, hi, rfl⟩)⟩
    refine ⟨(f i).v, 0, l1, fun V1 g => ?_, fun U In2 hq _ => ?_⟩
    · obtain ⟨V2, iv', l0, p1, p2, p3, p4, p5⟩ := rRemove_ok (nx := nx) (x := hv (f i)) (J.row V1 g) hl hm J.dif
      exact ⟨V2, iv', l0, p1, p2, RL.rowQ p3, List.Perm.cons_inv (p4.trans (J.perm.trans hl1)), J.sort.sublist p5, p3.isSl⟩
    · obtain ⟨n, rfl⟩ : ∃ n', n = n' + 1 := ⟨n - 1, by omega⟩
      obtain ⟨U', g, p1, p2, p3, p4, p5⟩ := qRemove_ok (byK_ord _) (isLess_of k) hq (by omega) hi
      have := p3.map hv
      rw [List.map_cons] at this
      exact ⟨U', n, g, p1, p2, p5, List.Perm.cons_inv (this.trans hl1), by omega⟩
  · refine ⟨0, 4, hvs n f, fun V1 g => ?_, fun U In2 hq _ => ⟨U, n, f, qRemove0_ok hq h1, hq, .refl _ _, .refl _, by omega⟩⟩
    obtain ⟨V2, p1, p2⟩ := rRemove0_ok (nx := nx) (J.row V1 g) hl h2
    exact ⟨V2, iv, L, p1, p2, J.rowQ, J.perm, J.sort, J.isSl⟩
theorem pushBoth (J : JQ In rb V q mh k nx n f iv L) (hn : n < 5000) (v : Int) : ∃ (nx' a e : Int) (T : List (Int × Int)), RefQ In rb V k nx nx' iv (.func (.func 81) #[] #[]) (fun s => [.int .u8 k, s, .int .i64 v]) (fun s => .tuple #[s, .int .i64 a, .int .i64 e]) T ∧ HoQ q mh k nx nx' n f (.func (.func 25) #[] #[]) [.int .i64 v] (.tuple #[.int .i64 a, .int .i64 e]) T := by
  have hl : L.length < 5000 := by rw [J.len]; omega
  by_cases hf : 1000000000000000 ≤ nx
  · refine ⟨nx, 0, 5, hvs n f, fun V1 g => ?_, fun U In2 hq _ => ⟨U, n, f, qPushF_ok hq hn hf v, hq, .refl _ _, .refl _, by omega⟩⟩
    obtain ⟨V2, p1, p2⟩ := rPushF_ok (nx := nx) (k := k) (v := v) (J.row V1 g) hl hf
    exact ⟨V2, iv, L, p1, p2, J.rowQ, J.perm, J.sort, J.isSl⟩
  · refine ⟨nx + 1, nx, 0, (nx, v) :: hvs n f, fun V1 g => ?_, fun U In2 hq hu => ?_⟩
    · obtain ⟨V2, iv', m, p1, p2, p3, p4⟩ := rPush_ok (nx := nx) (k := k) (v := v) (J.row V1 g) hl (by omega) J.qs.nx1
      exact ⟨V2, iv', _, p1, p2, RL.rowQ p3, (putL_perm _ _ _).trans (J.perm.cons _), putAt_sort J.sort p4, p3.isSl⟩
    · obtain ⟨U', g, p1, p2, p3, p4⟩ := qPush_ok (byK_ord _) (isLess_of k) hq hn (by omega) hu v
      have := p3.map hv
      rw [List.map_cons] at this
      exact ⟨U', n + 1, g, p1, p2, p4, this, Nat.le_refl _⟩
end
end Go.Proofs.Ytkpgmabebjmahaa
